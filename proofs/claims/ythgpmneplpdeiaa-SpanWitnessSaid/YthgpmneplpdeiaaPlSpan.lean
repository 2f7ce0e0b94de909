/- Plain: what the span's calls tell, as spans of vectors. -/
import Derived.Test.YthgpmneplpdeiaaP
import Derived.Test.YthgpmneplpdeiaaHMeet
namespace Go.Proofs.Ythgpmneplpdeiaa.Plain
open Go.Proofs.Ythgpmneplpdeiaa.Hand Go.Proofs.Ythgpmneplpdeiaa.GF Go.Proofs.Ythgpmneplpdeiaa.LA Go.RowKit Go.Proofs.Ythgpmneplpdeiaa.P Go.Proofs.YthgpmneplpdeiaaW.PrintWords Go.Proofs.YthgpmneplpdeiaaW.PrintLast
theorem wakes_ok : braidworklaw08_wakes.f = some true := by kernel_rfl
theorem next_ok (c : Nat) (hc : c ≤ 6) : wrap64 ((c : Int) + 1) = ((c + 1 : Nat) : Int) := by unfold wrap64; omega
theorem idx_ok (i cols c : Nat) (hi : i ≤ 6) (hk : cols ≤ 6) (hc : c ≤ 6) : wrap64 (wrap64 ((i : Int) * (cols : Int)) + (c : Int)) = ((i * cols + c : Nat) : Int) := by
  have h1 : i * cols ≤ 36 := Nat.mul_le_mul hi hk
  have h2 : (i : Int) * (cols : Int) = ((i * cols : Nat) : Int) := by rw [Int.natCast_mul]
  rw [h2]
  generalize i * cols = z at *
  have h : wrap64 ((z : Nat) : Int) = (z : Int) := by unfold wrap64; omega
  rw [h]
  unfold wrap64; omega
theorem areB_zeros (n : Nat) : areB (List.replicate n 0) := fun x hx => by rw [List.eq_of_mem_replicate hx]; exact ⟨by decide, by decide⟩
theorem areB_set {l : List Int} (h : areB l) (i : Nat) {x : Int} (hx : isB x) : areB (l.set i x) := fun y hy => by
  rcases List.mem_or_eq_of_mem_set hy with q | q
  · exact h y q
  · rw [q]; exact hx
theorem fits_snoc {n : Nat} {m : List (List Int)} (h : Fits n m) {r : List Int} (hr : r.length = n ∧ areB r) : Fits n (m ++ [r]) := fun x hx => by
  rcases List.mem_append.1 hx with q | q
  · exact h x q
  · rw [List.mem_singleton.1 q]; exact hr
theorem shaped_loop (b : List Int) (hb : areB b) (rows cols : Nat) (hr : rows ≤ 6) (hc : cols ≤ 6) (d : Nat) :
    ∀ (i k : Nat) (m : List (List Int)), i + d = rows → d * (cols + 3) < k → m.length = i → Fits cols m → ∃ X, braidworklaw08_shaped.l0 k b rows cols m i = some X ∧ X.length = rows ∧ Fits cols X := by
  induction d with
  | zero =>
    intro i k m h1 h2 h3 h4
    obtain ⟨k, rfl⟩ : ∃ m, k = m + 1 := ⟨k - 1, by omega⟩
    refine ⟨m, ?_, by omega, h4⟩
    simp only [braidworklaw08_shaped.l0]
    rw [if_neg (by omega)]
  | succ d ih =>
    intro i k m h1 h2 h3 h4
    have hi : i < rows := by omega
    have hw : wrap64 ((i : Int) + 1) = ((i + 1 : Nat) : Int) := next_ok i (by omega)
    rw [Nat.succ_mul] at h2
    generalize d * (cols + 3) = D at ih h2
    have hi1 : i + 1 + d = rows := by omega
    have fin : ∀ (k : Nat) (row : List Int), D < k → row.length = cols → areB row → ∃ X, (if m.length < 5864062014805 then braidworklaw08_shaped.l0 k b rows cols (m ++ [row]) (wrap64 ((i : Int) + 1)) else none) = some X ∧ X.length = rows ∧ Fits cols X := by
      intro k row hk r1 r2
      rw [if_pos (by omega), hw]
      exact ih (i + 1) k _ hi1 hk (by rw [List.length_append, h3]; rfl) (fits_snoc h4 ⟨r1, r2⟩)
    have inner : ∀ (mm c k : Nat) (row : List Int), c + mm = cols → mm + 1 + D < k → row.length = cols → areB row → ∃ X, braidworklaw08_shaped.l1 k b rows cols m i row c = some X ∧ X.length = rows ∧ Fits cols X := by
      intro mm
      induction mm with
      | zero =>
        intro c k row h1 h2 r1 r2
        obtain ⟨k, rfl⟩ : ∃ m, k = m + 1 := ⟨k - 1, by omega⟩
        simp only [braidworklaw08_shaped.l1]
        rw [if_neg (by omega)]
        exact fin k row (by omega) r1 r2
      | succ mm ihm =>
        intro c k row h1 h2 r1 r2
        obtain ⟨k, rfl⟩ : ∃ m, k = m + 1 := ⟨k - 1, by omega⟩
        have a1 : c + 1 + mm = cols := by omega
        have a2 : mm + 1 + D < k := by omega
        simp only [braidworklaw08_shaped.l1]
        rw [if_pos (by omega), idx_ok i cols c (by omega) hc (by omega)]
        by_cases q : ((i * cols + c : Nat) : Int) < (b.length : Int)
        · rw [if_pos q, if_pos (Int.natCast_nonneg _), if_pos (Int.natCast_nonneg _), if_pos (by rw [r1]; omega), next_ok c (by omega), Int.toNat_natCast]
          exact ihm (c + 1) k _ a1 a2 (by rw [List.length_set]; exact r1) (areB_set r2 c (rd_B hb _))
        · rw [if_neg q]
          exact fin k row (by omega) r1 r2
    obtain ⟨k, rfl⟩ : ∃ m, k = m + 1 := ⟨k - 1, by omega⟩
    have b1 : cols + 1 + D < k := by omega
    simp only [braidworklaw08_shaped.l0]
    rw [if_pos (Int.ofNat_lt.2 hi), if_pos (Int.natCast_nonneg _), if_pos (by rw [Int.toNat_natCast]; exact Nat.le_trans hc (by decide)), Int.toNat_natCast]
    exact inner cols 0 k _ (Nat.zero_add _) b1 List.length_replicate (areB_zeros _)
theorem shaped_f (b : List Int) (hb : areB b) (rows cols : Nat) (hr : rows ≤ 6) (hc : cols ≤ 6) (k : Nat) (hk : 60 < k) : ∃ X, braidworklaw08_shaped.f k b rows cols = some X ∧ X.length = rows ∧ Fits cols X := by
  have h0 : rows * (cols + 3) ≤ 54 := Nat.mul_le_mul hr (show cols + 3 ≤ 9 by omega)
  exact shaped_loop b hb rows cols hr hc rows 0 k [] (by omega) (by omega) rfl (fun x hx => by cases hx)
theorem size_six (a : Int) (h0 : 0 ≤ a) : ∃ n : Nat, 1 ≤ n ∧ n ≤ 6 ∧ wrap64 (1 + (wrap64 (Int.tmod a 6))) = (n : Int) := by
  refine ⟨1 + (a % 6).toNat, by omega, by omega, ?_⟩
  rw [Int.tmod_eq_emod_of_nonneg h0]
  unfold wrap64; omega
theorem size_five (a : Int) (h0 : 0 ≤ a) : ∃ n : Nat, n ≤ 5 ∧ wrap64 (Int.tmod a 6) = (n : Int) := by
  refine ⟨(a % 6).toNat, by omega, ?_⟩
  rw [Int.tmod_eq_emod_of_nonneg h0]
  unfold wrap64; omega
theorem nonneg_of_wf {a : Int} (h : (Lit.int .u8 a).wf = true) : isB a := by
  have := areB_of_wf (l := [a]) (fun x hx => by rw [List.mem_singleton.1 hx]; exact h)
  exact this a (List.mem_singleton.2 rfl)
theorem rank_f {n : Nat} {L : List (List Int)} (hL : Fits n L) (hl : L.length < 1000000000) (hn : n < 140737488355328) : matrix_Rank.f L = some (((rk n (vecs L) : Nat) : Int), 0) := by
  unfold matrix_Rank.f
  rw [reduce_f hL hl hn, Option.bind_some, redRows_rank hL]
/-- small rows of one length -/
structure Small (n : Nat) (l : List (List Int)) : Prop where
  fits : Fits n l
  few : l.length < 1000
theorem Small.nil (n : Nat) : Small n [] := ⟨fun r hr => (by cases hr), by decide⟩
theorem Small.append {n : Nat} {a b : List (List Int)} (ha : Fits n a) (hb : Fits n b) : Fits n (a ++ b) := fun r hr => (List.mem_append.1 hr).elim (ha r) (hb r)
theorem Small.red {n : Nat} {a : List (List Int)} (h : Fits n a) (hn : n < 1000) : Small n (redRows a n) := by
  obtain ⟨p, h1, h2, h3, h4⟩ := redRows_spec h
  exact ⟨h3, by have := redRows_rank h; have := rk_le_cols (vecs_supp h); omega⟩
theorem wid_eq {n : Nat} {a b : List (List Int)} (ha : Fits n a) (hb : Fits n b) (h : 0 < a.length + b.length) : wid a b = n := width (Small.append ha hb) (by rw [List.length_append]; exact h)
theorem okB_ok {n : Nat} {a b : List (List Int)} (ha : Small n a) (hb : Small n b) (hn : n < 1000) : okB a b = true := by
  refine okB_iff.2 ⟨by have := ha.few; omega, by have := hb.few; omega, ?_, fun x hx => (ha.fits x hx).2, fun x hx => (hb.fits x hx).2⟩
  by_cases h : 0 < a.length + b.length
  · rw [wid_eq ha.fits hb.fits h]; omega
  · have e1 := List.length_eq_zero_iff.1 (show a.length = 0 by omega)
    have e2 := List.length_eq_zero_iff.1 (show b.length = 0 by omega)
    subst e1 e2
    decide
theorem not_mis {n : Nat} {a b : List (List Int)} (ha : Small n a) (hb : Small n b) : ¬ mis (a ++ b) = true := by rw [fits_mis (Small.append ha.fits hb.fits)]; decide
theorem redRows_nil (n : Nat) : redRows [] n = [] := by unfold redRows; rw [redTo_nil]; rfl
/-- whether b's rows lie in a's span -/
def conB (a b : List (List Int)) (n : Nat) : Bool := b.all fun r => hasB (redRows a n) r
theorem hasB_red {n : Nat} {a : List (List Int)} (ha : Fits n a) {v : List Int} (hv : v.length = n ∧ areB v) : hasB (redRows a n) v = true ↔ Sp (vecs a) (vec v) := by
  obtain ⟨p, h1, h2, h3, h4⟩ := redRows_spec ha
  rw [hasB_iff h3 hv]
  exact (h2 _).symm
theorem conB_iff {n : Nat} {a b : List (List Int)} (ha : Fits n a) (hb : Fits n b) : conB a b n = true ↔ SpLe (vecs b) (vecs a) := by
  unfold conB
  rw [List.all_eq_true]
  constructor
  · intro h
    exact SpLe.of_mem fun v hv => by
      obtain ⟨r, hr, rfl⟩ := List.mem_map.1 hv
      exact (hasB_red ha (hb r hr)).1 (h r hr)
  · intro h r hr
    exact (hasB_red ha (hb r hr)).2 (h _ (sp_of_mem hr))
theorem outN_neg {R rows : List (List Int)} : decide (outN R rows < 0) = rows.all fun r => hasB R r := by
  unfold outN
  by_cases h : rows.findIdx (fun v => !hasB R v) < rows.length
  · rw [if_pos h, decide_eq_false (by omega), eq_comm, List.all_eq_false]
    exact ⟨_, List.getElem_mem h, by have := List.findIdx_getElem (w := h); simpa using this⟩
  · rw [if_neg h, decide_eq_true (by omega), eq_comm, List.all_eq_true]
    intro x hx
    have := List.findIdx_eq_length.1 (Nat.le_antisymm List.findIdx_le_length (Nat.le_of_not_lt h)) x hx
    simpa using this
theorem out_f {n : Nat} {a b : List (List Int)} (ha : Small n a) (hb : Small n b) (hn : n < 1000) : span_out.f a b = some (outN (redRows b n) a, 0) := by
  unfold span_out.f
  rw [if_pos (okB_ok ha hb hn), if_neg (not_mis ha hb)]
  by_cases h : 0 < a.length + b.length
  · rw [wid_eq ha.fits hb.fits h]
  · have e1 := List.length_eq_zero_iff.1 (show a.length = 0 by omega)
    have e2 := List.length_eq_zero_iff.1 (show b.length = 0 by omega)
    subst e1 e2
    rw [redRows_nil, redRows_nil]
theorem Contains_f {n : Nat} {a b : List (List Int)} (ha : Small n a) (hb : Small n b) (hn : n < 1000) : span_Contains.f a b = some (conB a b n, 0) := by
  unfold span_Contains.f
  rw [out_f hb ha hn, Option.bind_some, if_pos rfl, outN_neg]; rfl
theorem contains_f {n : Nat} {a b : List (List Int)} (ha : Small n a) (hb : Small n b) (hn : n < 1000) : braidworklaw08_contains.f a b = some (conB a b n) := by
  unfold braidworklaw08_contains.f
  rw [Contains_f ha hb hn, Option.bind_some]
  cases conB a b n <;> rfl
theorem Same_f {n : Nat} {a b : List (List Int)} (ha : Small n a) (hb : Small n b) (hn : n < 1000) : span_Same.f a b = some (conB a b n && conB b a n, 0) := by
  unfold span_Same.f
  rw [Contains_f ha hb hn, Contains_f hb ha hn, Option.bind_some, Option.bind_some]
  cases conB a b n <;> rfl
theorem Sum_f {n : Nat} {a b : List (List Int)} (ha : Small n a) (hb : Small n b) (hn : n < 1000) : span_Sum.f a b = some (redRows (a ++ b) n, 0) := by
  unfold span_Sum.f
  have := ha.few
  have := hb.few
  rw [if_pos ⟨by omega, by omega⟩, reduce_f (Small.append ha.fits hb.fits) (by rw [List.length_append]; omega) (by omega)]
theorem meetL_nil (n : Nat) : meetL [] [] n = [] := by
  unfold meetL wideL
  rw [List.map_nil, List.map_nil, List.append_nil, redRows_nil]; rfl
theorem Meet_f {n : Nat} {a b : List (List Int)} (ha : Small n a) (hb : Small n b) (hn : n < 1000) : span_Meet.f a b = some (meetL a b n, 0) := by
  unfold span_Meet.f
  rw [if_pos (okB_ok ha hb hn), if_neg (not_mis ha hb)]
  by_cases h : 0 < a.length + b.length
  · rw [wid_eq ha.fits hb.fits h]
  · have e1 := List.length_eq_zero_iff.1 (show a.length = 0 by omega)
    have e2 := List.length_eq_zero_iff.1 (show b.length = 0 by omega)
    subst e1 e2
    rw [meetL_nil, meetL_nil]
theorem vec_append {n : Nat} {a b : List Int} (ha : a.length = n) : vec (a ++ b) = cat n (vec a) (vec b) := by
  funext k
  unfold cat
  by_cases h : k < n
  · rw [if_pos h]
    unfold vec
    rw [List.getD_eq_getElem?_getD, List.getElem?_append_left (by omega), List.getD_eq_getElem?_getD]
  · rw [if_neg h]
    unfold vec
    rw [List.getD_eq_getElem?_getD, List.getElem?_append_right (by omega), List.getD_eq_getElem?_getD, ha]
theorem vec_zeros (n : Nat) : vec (List.replicate n 0) = vz := by
  funext k
  unfold vec
  rw [List.getD_eq_getElem?_getD]
  by_cases h : k < n
  · rw [List.getElem?_replicate, if_pos h]; rfl
  · rw [List.getElem?_replicate, if_neg h]; rfl
theorem wide_vec {n : Nat} {a b : List (List Int)} (ha : Fits n a) (hb : Fits n b) : vecs (wideL a b) = wide n (vecs a) (vecs b) := by
  unfold wideL wide vecs
  rw [List.map_append, List.map_map, List.map_map, List.map_map, List.map_map]
  congr 1
  · exact List.map_congr_left fun x hx => vec_append (ha x hx).1
  · refine List.map_congr_left fun x hx => ?_
    show vec (half0 x) = cat n (vec x) vz
    unfold half0
    rw [vec_append (hb x hx).1, vec_zeros]
theorem vec_drop {n : Nat} {r : List Int} : vec (r.drop n) = hi n (vec r) := by
  funext k
  unfold vec hi
  rw [List.getD_eq_getElem?_getD, List.getElem?_drop]
  show toG (r[n + k]?.getD 0) = toG (r.getD (n + k) 0)
  rw [List.getD_eq_getElem?_getD]
/-- of reduced rows of twice the width: those that begin with noughts are the last ones -/
theorem halves_split {n d : Nat} {R : List (List Int)} {p : List Nat} (hF : Fits (n + n) R) (h : Red (vecs R) p) (hd : d ≤ R.length) (h1 : ∀ i, i < d → p.getD i 0 < n) (h2 : ∀ i, d ≤ i → i < R.length → n ≤ p.getD i 0) : halves R n = (R.drop d).map fun r => r.drop n := by
  have hz : ∀ i (q : i < R.length), zeroB R[i] n = decide (d ≤ i) := by
    intro i q
    have hv : vec R[i] = row (vecs R) i := by rw [vecs_row, List.getD_eq_getElem?_getD, List.getElem?_eq_getElem q, Option.getD_some]
    have hlen := (hF _ (List.getElem_mem q)).1
    by_cases c : d ≤ i
    · rw [decide_eq_true c]
      unfold zeroB
      rw [List.all_eq_true]
      intro x hx
      obtain ⟨j, hj, rfl⟩ := List.mem_iff_getElem.1 hx
      rw [List.length_take] at hj
      have h3 := h.low i (by rw [vecs_length]; exact q) j (by have := h2 i c q; omega)
      rw [← hv, vec_lt (by omega)] at h3
      rw [List.getElem_take]
      have := byte_eq (b := 0) ((hF _ (List.getElem_mem q)).2 _ (List.getElem_mem (show j < R[i].length by omega))) ⟨by decide, by decide⟩ h3
      simp [this]
    · rw [decide_eq_false c]
      unfold zeroB
      rw [List.all_eq_false]
      have hp := h1 i (by omega)
      have h3 := h.one i i (by rw [vecs_length]; exact q) (by rw [vecs_length]; exact q)
      rw [if_pos rfl, ← hv, vec_lt (by omega)] at h3
      refine ⟨R[i][p.getD i 0]'(by omega), List.mem_iff_getElem.2 ⟨p.getD i 0, by rw [List.length_take]; omega, by rw [List.getElem_take]⟩, ?_⟩
      intro e
      have e2 : R[i][p.getD i 0]'(by omega) = 0 := by simpa using e
      rw [e2] at h3
      exact absurd h3 (by decide)
  have hfil : ∀ (l : List (List Int)) (f : List Int → Bool) (d : Nat), d ≤ l.length → (∀ i (q : i < l.length), f l[i] = decide (d ≤ i)) → l.filter f = l.drop d := by
    intro l f
    induction l with
    | nil => intro d _ _; simp
    | cons x l ih =>
      intro d hd hq
      have h0 := hq 0 (by simp)
      cases d with
      | zero =>
        have hx : f x = true := by simpa using h0
        rw [List.filter_cons_of_pos hx, ih 0 (Nat.zero_le _) (fun i q => by have := hq (i + 1) (by simpa using q); simpa using this)]; rfl
      | succ d =>
        have hx : ¬ f x = true := by simpa using h0
        rw [List.filter_cons_of_neg hx, ih d (by simpa using hd) (fun i q => by have := hq (i + 1) (by simpa using q); simpa using this)]; rfl
  unfold halves
  rw [hfil R (fun r => zeroB r n) d hd hz]
/-- what Meet tells: reduced rows of what both contain -/
theorem meet_spec {n : Nat} {a b : List (List Int)} (ha : Fits n a) (hb : Fits n b) : Fits n (meetL a b n) ∧ (∃ p, Red (vecs (meetL a b n)) p) ∧ (∀ v, Sp (vecs (meetL a b n)) v ↔ Sp (vecs a) v ∧ Sp (vecs b) v) ∧ (redRows (a ++ b) n).length + (meetL a b n).length = (redRows a n).length + (redRows b n).length := by
  have hw := wide_fits ha hb
  obtain ⟨p, r1, r2, r3, _⟩ := redRows_spec hw
  obtain ⟨d, hd, h1, h2⟩ := r1.split n
  rw [vecs_length] at hd h2
  have hs := halves_split r3 r1 hd h1 h2
  have hm : meetL a b n = ((redRows (wideL a b) (n + n)).drop d).map fun r => r.drop n := hs
  have hv : vecs (meetL a b n) = ((vecs (redRows (wideL a b) (n + n))).drop d).map (hi n) := by
    rw [hm]
    unfold vecs
    rw [List.map_map, ← List.map_drop, List.map_map]
    exact List.map_congr_left fun r _ => vec_drop
  have hSa := vecs_supp ha
  have hSb := vecs_supp hb
  have hd' : d ≤ (vecs (redRows (wideL a b) (n + n))).length := by rw [vecs_length]; exact hd
  have h2' : ∀ i, d ≤ i → i < (vecs (redRows (wideL a b) (n + n))).length → n ≤ p.getD i 0 := fun i q1 q2 => h2 i q1 (by rw [vecs_length] at q2; exact q2)
  refine ⟨?_, ⟨_, by rw [hv]; exact r1.highs hd' h2'⟩, fun v => ?_, ?_⟩
  · rw [hm]
    intro r hr
    obtain ⟨x, hx, rfl⟩ := List.mem_map.1 hr
    have := r3 x (List.mem_of_mem_drop hx)
    exact ⟨by rw [List.length_drop, this.1]; omega, fun y hy => this.2 y (List.mem_of_mem_drop hy)⟩
  · rw [hv, drop_hi_span r1 hd' h1 h2', ← r2, wide_vec ha hb, meet_span hSa hSb]
  · obtain ⟨pa, a1, a2, a3, _⟩ := redRows_spec ha
    obtain ⟨pb, b1, b2, b3, _⟩ := redRows_spec hb
    obtain ⟨ps, s1, s2, s3, _⟩ := redRows_spec (Small.append ha hb)
    have e := wide_rank hSa hSb a1 a2 b1 b2 r1 (by rw [← wide_vec ha hb]; exact r2)
    rw [vecs_length, vecs_length, vecs_length] at e
    have hlow := r1.lows hd' h1
    -- the first halves' rows span the sum
    have hsum : SpEq (vecs (redRows (a ++ b) n)) (((vecs (redRows (wideL a b) (n + n))).take d).map (lo n)) := by
      intro v
      rw [take_lo_span r1 hd' h2', ← s2]
      have hab : vecs (a ++ b) = vecs a ++ vecs b := by unfold vecs; rw [List.map_append]
      rw [hab, Sp.append]
      constructor
      · rintro ⟨x, y, hx, hy, rfl⟩
        refine ⟨cat n (va x y) x, (r2 _).1 (by rw [wide_vec ha hb]; exact wide_span.2 ⟨x, y, hx, hy, rfl⟩), lo_cat ((Sp.supp hSa hx).add (Sp.supp hSb hy)) _⟩
      · rintro ⟨u, hu, rfl⟩
        have hu2 := (r2 _).2 hu
        rw [wide_vec ha hb] at hu2
        obtain ⟨x, y, hx, hy, rfl⟩ := wide_span.1 hu2
        exact ⟨x, y, hx, hy, lo_cat ((Sp.supp hSa hx).add (Sp.supp hSb hy)) _⟩
    have hl := congrArg List.length (s1.unique hlow hsum)
    rw [vecs_length, List.length_map, List.length_take, vecs_length] at hl
    rw [hm, List.length_map, List.length_drop]
    omega
theorem red_span {n : Nat} {a : List (List Int)} (ha : Fits n a) : SpEq (vecs a) (vecs (redRows a n)) := by
  obtain ⟨p, h1, h2, h3, h4⟩ := redRows_spec ha
  exact h2
theorem vecs_append (a b : List (List Int)) : vecs (a ++ b) = vecs a ++ vecs b := by unfold vecs; rw [List.map_append]
theorem meet_small {n : Nat} {a b : List (List Int)} (ha : Fits n a) (hb : Fits n b) (hn : n < 1000) : Small n (meetL a b n) := by
  obtain ⟨h1, ⟨p, h2⟩, _, _⟩ := meet_spec ha hb
  exact ⟨h1, by have := Red.le_cols h2 (vecs_supp h1); rw [vecs_length] at this; omega⟩
theorem same_iff {n : Nat} {a b : List (List Int)} (ha : Fits n a) (hb : Fits n b) : decide (redRows a n = redRows b n) = (conB a b n && conB b a n) := by
  rw [Bool.eq_iff_iff, decide_eq_true_iff, Bool.and_eq_true, conB_iff ha hb, conB_iff hb ha]
  constructor
  · intro e
    have h1 := red_span ha
    have h2 := red_span hb
    rw [e] at h1
    exact ⟨(h2.trans h1.symm).le, (h1.trans h2.symm).le⟩
  · rintro ⟨h1, h2⟩
    exact redRows_eq ha hb (h2.eq h1)
theorem same_true {n : Nat} {a : List (List Int)} (ha : Small n a) : matrix_Same.f a a = some true := by
  rw [same_f ha.fits ha.fits (by have := ha.few; omega), decide_eq_true rfl]
theorem con_nil (A0 : Option Addr) (c0 : Nat) (l0 : List (List Int)) (r : Bool) (w : World) (hr0 : Kd.C (Kd.slice 5 (Kd.int .u8)) w A0 l0.length l0) (hc0 : l0.length ≤ c0) (h : braidworklaw08_contains.f l0 [] = some r) :
    Calls Try.prog 29 #[.slice A0 l0.length c0, .slice none 0 0] w fun e w' => e = .returned (.bool r) ∧ Below w.heap.size w w' :=
  braidworklaw08_contains.calls A0 c0 l0 none 0 [] r w hr0 hc0 (Kd.C_nil _ _) (Nat.le_refl 0) h
theorem con_self {n : Nat} {a : List (List Int)} (ha : Fits n a) : conB a a n = true := (conB_iff ha ha).2 fun _ h => h
end Go.Proofs.Ythgpmneplpdeiaa.Plain
