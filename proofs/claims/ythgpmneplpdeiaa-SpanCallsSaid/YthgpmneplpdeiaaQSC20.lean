/- QSC, part 20: PlSpan PlSq PlInsert HRef. -/
import Derived.Test.YthgpmneplpdeiaaQSC13
import Derived.Test.YthgpmneplpdeiaaQSC15
import Derived.Test.YthgpmneplpdeiaaQSC18
import Derived.Test.YthgpmneplpdeiaaQSC19

section
namespace Go.Proofs.Ythgpmneplpdeiaa.Plain
open Go.Proofs.Ythgpmneplpdeiaa.Hand Go.Proofs.Ythgpmneplpdeiaa.GF Go.Proofs.Ythgpmneplpdeiaa.LA Go.RowKit Go.Proofs.Ythgpmneplpdeiaa.P Go.Proofs.YthgpmneplpdeiaaW.PrintWords Go.Proofs.YthgpmneplpdeiaaW.PrintLast
theorem wakes_ok : braidworklaw08_wakes.f = some true := by kernel_rfl
structure Small (n : Nat) (l : List (List Int)) : Prop where
  fits : Fits n l
  few : l.length < 1000
theorem Small.nil (n : Nat) : Small n [] := ⟨fun r hr => (by cases hr), by decide⟩
theorem Small.append {n : Nat} {a b : List (List Int)} (ha : Fits n a) (hb : Fits n b) : Fits n (a ++ b) := fun r hr => (List.mem_append.1 hr).elim (ha r) (hb r)
theorem Small.red {n : Nat} {a : List (List Int)} (h : Fits n a) (hn : n < 1000) : Small n (redRows a n) := by
  obtain ⟨p, h1, h2, h3, h4⟩ := redRows_spec h
  exact ⟨h3, by have := redRows_rank h; have := rk_le_cols (vecs_supp h); omega⟩
theorem wid_eq {n : Nat} {a b : List (List Int)} (ha : Fits n a) (hb : Fits n b) (h : 0 < a.length + b.length) : wid a b = n := width (Small.append ha hb) (by rw [List.length_append]; exact h)
theorem okB_ok {n : Nat} {a b : List (List Int)} (ha : Small n a) (hb : Small n b) (hn : n < 1000) : okB a b = true := by
  refine okB_iff.2 ⟨by have := ha.few; omega, by have := hb.few; omega, ?_, fun x hx => (ha.fits x hx).2, fun x hx => (hb.fits x hx).2⟩
  by_cases h : 0 < a.length + b.length
  · rw [wid_eq ha.fits hb.fits h]; omega
  · have e1 := List.length_eq_zero_iff.1 (show a.length = 0 by omega)
    have e2 := List.length_eq_zero_iff.1 (show b.length = 0 by omega)
    subst e1 e2
    decide
theorem not_mis {n : Nat} {a b : List (List Int)} (ha : Small n a) (hb : Small n b) : ¬ mis (a ++ b) = true := by rw [fits_mis (Small.append ha.fits hb.fits)]; decide
theorem redRows_nil (n : Nat) : redRows [] n = [] := by unfold redRows; rw [redTo_nil]; rfl
def conB (a b : List (List Int)) (n : Nat) : Bool := b.all fun r => hasB (redRows a n) r
theorem hasB_red {n : Nat} {a : List (List Int)} (ha : Fits n a) {v : List Int} (hv : v.length = n ∧ areB v) : hasB (redRows a n) v = true ↔ Sp (vecs a) (vec v) := by
  obtain ⟨p, h1, h2, h3, h4⟩ := redRows_spec ha
  rw [hasB_iff h3 hv]
  exact (h2 _).symm
theorem conB_iff {n : Nat} {a b : List (List Int)} (ha : Fits n a) (hb : Fits n b) : conB a b n = true ↔ SpLe (vecs b) (vecs a) := by
  unfold conB
  rw [List.all_eq_true]
  constructor
  · intro h
    exact SpLe.of_mem fun v hv => by
      obtain ⟨r, hr, rfl⟩ := List.mem_map.1 hv
      exact (hasB_red ha (hb r hr)).1 (h r hr)
  · intro h r hr
    exact (hasB_red ha (hb r hr)).2 (h _ (sp_of_mem hr))
theorem outN_neg {R rows : List (List Int)} : decide (outN R rows < 0) = rows.all fun r => hasB R r := by
  unfold outN
  by_cases h : rows.findIdx (fun v => !hasB R v) < rows.length
  · rw [if_pos h, decide_eq_false (by omega), eq_comm, List.all_eq_false]
    exact ⟨_, List.getElem_mem h, by have := List.findIdx_getElem (w := h); simpa using this⟩
  · rw [if_neg h, decide_eq_true (by omega), eq_comm, List.all_eq_true]
    intro x hx
    have := List.findIdx_eq_length.1 (Nat.le_antisymm List.findIdx_le_length (Nat.le_of_not_lt h)) x hx
    simpa using this
theorem out_f {n : Nat} {a b : List (List Int)} (ha : Small n a) (hb : Small n b) (hn : n < 1000) : span_out.f a b = some (outN (redRows b n) a, 0) := by
  unfold span_out.f
  rw [if_pos (okB_ok ha hb hn), if_neg (not_mis ha hb)]
  by_cases h : 0 < a.length + b.length
  · rw [wid_eq ha.fits hb.fits h]
  · have e1 := List.length_eq_zero_iff.1 (show a.length = 0 by omega)
    have e2 := List.length_eq_zero_iff.1 (show b.length = 0 by omega)
    subst e1 e2
    rw [redRows_nil, redRows_nil]
theorem Contains_f {n : Nat} {a b : List (List Int)} (ha : Small n a) (hb : Small n b) (hn : n < 1000) : span_Contains.f a b = some (conB a b n, 0) := by
  unfold span_Contains.f
  rw [out_f hb ha hn, Option.bind_some, if_pos rfl, outN_neg]; rfl
theorem vec_append {n : Nat} {a b : List Int} (ha : a.length = n) : vec (a ++ b) = cat n (vec a) (vec b) := by
  funext k
  unfold cat
  by_cases h : k < n
  · rw [if_pos h]
    unfold vec
    rw [List.getD_eq_getElem?_getD, List.getElem?_append_left (by omega), List.getD_eq_getElem?_getD]
  · rw [if_neg h]
    unfold vec
    rw [List.getD_eq_getElem?_getD, List.getElem?_append_right (by omega), List.getD_eq_getElem?_getD, ha]
theorem vec_zeros (n : Nat) : vec (List.replicate n 0) = vz := by
  funext k
  unfold vec
  rw [List.getD_eq_getElem?_getD]
  by_cases h : k < n
  · rw [List.getElem?_replicate, if_pos h]; rfl
  · rw [List.getElem?_replicate, if_neg h]; rfl
theorem wide_vec {n : Nat} {a b : List (List Int)} (ha : Fits n a) (hb : Fits n b) : vecs (wideL a b) = wide n (vecs a) (vecs b) := by
  unfold wideL wide vecs
  rw [List.map_append, List.map_map, List.map_map, List.map_map, List.map_map]
  congr 1
  · exact List.map_congr_left fun x hx => vec_append (ha x hx).1
  · refine List.map_congr_left fun x hx => ?_
    show vec (half0 x) = cat n (vec x) vz
    unfold half0
    rw [vec_append (hb x hx).1, vec_zeros]
theorem vec_drop {n : Nat} {r : List Int} : vec (r.drop n) = hi n (vec r) := by
  funext k
  unfold vec hi
  rw [List.getD_eq_getElem?_getD, List.getElem?_drop]
  show toG (r[n + k]?.getD 0) = toG (r.getD (n + k) 0)
  rw [List.getD_eq_getElem?_getD]
theorem halves_split {n d : Nat} {R : List (List Int)} {p : List Nat} (hF : Fits (n + n) R) (h : Red (vecs R) p) (hd : d ≤ R.length) (h1 : ∀ i, i < d → p.getD i 0 < n) (h2 : ∀ i, d ≤ i → i < R.length → n ≤ p.getD i 0) : halves R n = (R.drop d).map fun r => r.drop n := by
  have hz : ∀ i (q : i < R.length), zeroB R[i] n = decide (d ≤ i) := by
    intro i q
    have hv : vec R[i] = row (vecs R) i := by rw [vecs_row, List.getD_eq_getElem?_getD, List.getElem?_eq_getElem q, Option.getD_some]
    have hlen := (hF _ (List.getElem_mem q)).1
    by_cases c : d ≤ i
    · rw [decide_eq_true c]
      unfold zeroB
      rw [List.all_eq_true]
      intro x hx
      obtain ⟨j, hj, rfl⟩ := List.mem_iff_getElem.1 hx
      rw [List.length_take] at hj
      have h3 := h.low i (by rw [vecs_length]; exact q) j (by have := h2 i c q; omega)
      rw [← hv, vec_lt (by omega)] at h3
      rw [List.getElem_take]
      have := byte_eq (b := 0) ((hF _ (List.getElem_mem q)).2 _ (List.getElem_mem (show j < R[i].length by omega))) ⟨by decide, by decide⟩ h3
      simp [this]
    · rw [decide_eq_false c]
      unfold zeroB
      rw [List.all_eq_false]
      have hp := h1 i (by omega)
      have h3 := h.one i i (by rw [vecs_length]; exact q) (by rw [vecs_length]; exact q)
      rw [if_pos rfl, ← hv, vec_lt (by omega)] at h3
      refine ⟨R[i][p.getD i 0]'(by omega), List.mem_iff_getElem.2 ⟨p.getD i 0, by rw [List.length_take]; omega, by rw [List.getElem_take]⟩, ?_⟩
      intro e
      have e2 : R[i][p.getD i 0]'(by omega) = 0 := by simpa using e
      rw [e2] at h3
      exact absurd h3 (by decide)
  have hfil : ∀ (l : List (List Int)) (f : List Int → Bool) (d : Nat), d ≤ l.length → (∀ i (q : i < l.length), f l[i] = decide (d ≤ i)) → l.filter f = l.drop d := by
    intro l f
    induction l with
    | nil => intro d _ _; simp
    | cons x l ih =>
      intro d hd hq
      have h0 := hq 0 (by simp)
      cases d with
      | zero =>
        have hx : f x = true := by simpa using h0
        rw [List.filter_cons_of_pos hx, ih 0 (Nat.zero_le _) (fun i q => by have := hq (i + 1) (by simpa using q); simpa using this)]; rfl
      | succ d =>
        have hx : ¬ f x = true := by simpa using h0
        rw [List.filter_cons_of_neg hx, ih d (by simpa using hd) (fun i q => by have := hq (i + 1) (by simpa using q); simpa using this)]; rfl
  unfold halves
  rw [hfil R (fun r => zeroB r n) d hd hz]
theorem meet_spec {n : Nat} {a b : List (List Int)} (ha : Fits n a) (hb : Fits n b) : Fits n (meetL a b n) ∧ (∃ p, Red (vecs (meetL a b n)) p) ∧ (∀ v, Sp (vecs (meetL a b n)) v ↔ Sp (vecs a) v ∧ Sp (vecs b) v) ∧ (redRows (a ++ b) n).length + (meetL a b n).length = (redRows a n).length + (redRows b n).length := by
  have hw := wide_fits ha hb
  obtain ⟨p, r1, r2, r3, _⟩ := redRows_spec hw
  obtain ⟨d, hd, h1, h2⟩ := r1.split n
  rw [vecs_length] at hd h2
  have hs := halves_split r3 r1 hd h1 h2
  have hm : meetL a b n = ((redRows (wideL a b) (n + n)).drop d).map fun r => r.drop n := hs
  have hv : vecs (meetL a b n) = ((vecs (redRows (wideL a b) (n + n))).drop d).map (hi n) := by
    rw [hm]
    unfold vecs
    rw [List.map_map, ← List.map_drop, List.map_map]
    exact List.map_congr_left fun r _ => vec_drop
  have hSa := vecs_supp ha
  have hSb := vecs_supp hb
  have hd' : d ≤ (vecs (redRows (wideL a b) (n + n))).length := by rw [vecs_length]; exact hd
  have h2' : ∀ i, d ≤ i → i < (vecs (redRows (wideL a b) (n + n))).length → n ≤ p.getD i 0 := fun i q1 q2 => h2 i q1 (by rw [vecs_length] at q2; exact q2)
  refine ⟨?_, ⟨_, by rw [hv]; exact r1.highs hd' h2'⟩, fun v => ?_, ?_⟩
  · rw [hm]
    intro r hr
    obtain ⟨x, hx, rfl⟩ := List.mem_map.1 hr
    have := r3 x (List.mem_of_mem_drop hx)
    exact ⟨by rw [List.length_drop, this.1]; omega, fun y hy => this.2 y (List.mem_of_mem_drop hy)⟩
  · rw [hv, drop_hi_span r1 hd' h1 h2', ← r2, wide_vec ha hb, meet_span hSa hSb]
  · obtain ⟨pa, a1, a2, a3, _⟩ := redRows_spec ha
    obtain ⟨pb, b1, b2, b3, _⟩ := redRows_spec hb
    obtain ⟨ps, s1, s2, s3, _⟩ := redRows_spec (Small.append ha hb)
    have e := wide_rank hSa hSb a1 a2 b1 b2 r1 (by rw [← wide_vec ha hb]; exact r2)
    rw [vecs_length, vecs_length, vecs_length] at e
    have hlow := r1.lows hd' h1
    -- the first halves' rows span the sum
    have hsum : SpEq (vecs (redRows (a ++ b) n)) (((vecs (redRows (wideL a b) (n + n))).take d).map (lo n)) := by
      intro v
      rw [take_lo_span r1 hd' h2', ← s2]
      have hab : vecs (a ++ b) = vecs a ++ vecs b := by unfold vecs; rw [List.map_append]
      rw [hab, Sp.append]
      constructor
      · rintro ⟨x, y, hx, hy, rfl⟩
        refine ⟨cat n (va x y) x, (r2 _).1 (by rw [wide_vec ha hb]; exact wide_span.2 ⟨x, y, hx, hy, rfl⟩), lo_cat ((Sp.supp hSa hx).add (Sp.supp hSb hy)) _⟩
      · rintro ⟨u, hu, rfl⟩
        have hu2 := (r2 _).2 hu
        rw [wide_vec ha hb] at hu2
        obtain ⟨x, y, hx, hy, rfl⟩ := wide_span.1 hu2
        exact ⟨x, y, hx, hy, lo_cat ((Sp.supp hSa hx).add (Sp.supp hSb hy)) _⟩
    have hl := congrArg List.length (s1.unique hlow hsum)
    rw [vecs_length, List.length_map, List.length_take, vecs_length] at hl
    rw [hm, List.length_map, List.length_drop]
    omega
theorem vecs_append (a b : List (List Int)) : vecs (a ++ b) = vecs a ++ vecs b := by unfold vecs; rw [List.map_append]
theorem meet_small {n : Nat} {a b : List (List Int)} (ha : Fits n a) (hb : Fits n b) (hn : n < 1000) : Small n (meetL a b n) := by
  obtain ⟨h1, ⟨p, h2⟩, _, _⟩ := meet_spec ha hb
  exact ⟨h1, by have := Red.le_cols h2 (vecs_supp h1); rw [vecs_length] at this; omega⟩
end Go.Proofs.Ythgpmneplpdeiaa.Plain
end

section
namespace Go.Proofs.Ythgpmneplpdeiaa.LA
open Go.Proofs.Ythgpmneplpdeiaa.GF
theorem meet_perp {n : Nat} {RA RB SA SB RU SC : List V} {pA pB pU : List Nat} (hA : Red RA pA) (sA : AllSupp n RA) (hB : Red RB pB) (sB : AllSupp n RB) (kA : IsSquare n RA pA SA) (kB : IsSquare n RB pB SB) (hU : Red RU pU) (sU : AllSupp n RU) (eU : SpEq (SA ++ SB) RU) (kC : IsSquare n RU pU SC) (w : V) : Sp SC w ↔ Sp RA w ∧ Sp RB w := by
  rw [kC.perp hU sU, ← perp_perp hA sA kA, ← perp_perp hB sB kB]
  have key : (∀ v, v ∈ RU → dot n v w = 0#8) ↔ (∀ v, v ∈ SA → dot n v w = 0#8) ∧ (∀ v, v ∈ SB → dot n v w = 0#8) := by
    constructor
    · intro h
      have h2 : ∀ v, v ∈ SA ++ SB → dot n v w = 0#8 := fun v hv => dot_sp h ((eU v).1 (.mem hv))
      exact ⟨fun v hv => h2 v (List.mem_append_left _ hv), fun v hv => h2 v (List.mem_append_right _ hv)⟩
    · rintro ⟨h1, h2⟩ v hv
      exact dot_sp (l := SA ++ SB) (fun u hu => (List.mem_append.1 hu).elim (h1 u) (h2 u)) ((eU v).2 (.mem hv))
  unfold Perp
  rw [key]
  constructor
  · rintro ⟨h, h1, h2⟩; exact ⟨⟨h, h1⟩, h, h2⟩
  · rintro ⟨⟨h, h1⟩, -, h2⟩; exact ⟨h, h1, h2⟩
theorem idx_get {p : List Nat} {x : Nat} (h : x ∈ p) : p.idxOf x < p.length ∧ p.getD (p.idxOf x) 0 = x := by
  have hi := List.idxOf_lt_length_of_mem h
  refine ⟨hi, ?_⟩
  rw [List.getD_eq_getElem?_getD, List.getElem?_eq_getElem hi]
  exact List.getElem_idxOf hi
end Go.Proofs.Ythgpmneplpdeiaa.LA
namespace Go.Proofs.Ythgpmneplpdeiaa.Plain
open Go.Proofs.Ythgpmneplpdeiaa.Hand Go.Proofs.Ythgpmneplpdeiaa.GF Go.Proofs.Ythgpmneplpdeiaa.LA Go.RowKit
def sqRow (R : List (List Int)) (p : List Nat) (n k : Nat) : List Int := (List.range n).map fun x => if x = k then 1 else if x ∈ p then (R.getD (p.idxOf x) []).getD k 0 else 0
def sqL (R : List (List Int)) (p : List Nat) (n : Nat) : List (List Int) := ((List.range n).filter fun k => decide (k ∉ p)).map (sqRow R p n)
theorem sqRow_fits {n : Nat} {R : List (List Int)} (hR : Fits n R) (p : List Nat) (k : Nat) : (sqRow R p n k).length = n ∧ areB (sqRow R p n k) := by
  refine ⟨by simp [sqRow], fun x hx => ?_⟩
  obtain ⟨y, -, rfl⟩ := List.mem_map.1 hx
  split
  · exact ⟨by decide, by decide⟩
  · split
    · exact getD_B hR _ _
    · exact ⟨by decide, by decide⟩
theorem sqRow_vec {n : Nat} {R : List (List Int)} {p : List Nat} (hR : Fits n R) (h : Red (vecs R) p) (k : Nat) : vec (sqRow R p n k) = if k < n then fun x => if x = k then 1#8 else S (vecs R).length fun j => if x = p.getD j 0 then row (vecs R) j k else 0#8 else vec (sqRow R p n k) := by
  by_cases hk : k < n
  · rw [if_pos hk]
    have hlt := h.lt (vecs_supp hR)
    funext x
    by_cases hx : x < n
    · have e : vec (sqRow R p n k) x = toG (if x = k then 1 else if x ∈ p then (R.getD (p.idxOf x) []).getD k 0 else 0) := by
        rw [vec_lt (by rw [(sqRow_fits hR p k).1]; exact hx)]
        unfold sqRow
        rw [List.getElem_map, List.getElem_range]
      rw [e]
      by_cases a : x = k
      · rw [if_pos a, if_pos a]; rfl
      · rw [if_neg a, if_neg a]
        by_cases b : x ∈ p
        · obtain ⟨hi, hg⟩ := idx_get b
          rw [if_pos b, S_one (i := p.idxOf x) (by rw [h.len]; exact hi) (fun j hj hne => if_neg fun e => hne (pget_inj h.inc (by rw [← h.len]; exact hj) hi (e.symm.trans hg.symm))), if_pos hg.symm, vecs_row]
          rfl
        · rw [if_neg b, S_zero fun j hj => if_neg fun e => b (by rw [e]; exact pget_mem (by rw [← h.len]; exact hj))]
          rfl
    · rw [vec_ge (by rw [(sqRow_fits hR p k).1]; omega), if_neg (by omega), S_zero fun j hj => if_neg fun e => hx (by rw [e]; exact hlt _ (pget_mem (by rw [← h.len]; exact hj)))]
  · rw [if_neg hk]
theorem sq_square {n : Nat} {R : List (List Int)} {p : List Nat} (hR : Fits n R) (h : Red (vecs R) p) : IsSquare n (vecs R) p (vecs (sqL R p n)) := by
  constructor
  · intro w hw
    obtain ⟨r, hr, rfl⟩ := List.mem_map.1 hw
    obtain ⟨k, hk, rfl⟩ := List.mem_map.1 hr
    obtain ⟨k1, k2⟩ := List.mem_filter.1 hk
    have k3 := List.mem_range.1 k1
    exact ⟨k, k3, of_decide_eq_true k2, by rw [sqRow_vec hR h k, if_pos k3]⟩
  · intro k k1 k2
    have := sqRow_vec hR h k
    rw [if_pos k1] at this
    rw [← this]
    exact List.mem_map.2 ⟨_, List.mem_map.2 ⟨k, List.mem_filter.2 ⟨List.mem_range.2 k1, decide_eq_true k2⟩, rfl⟩, rfl⟩
theorem sq_fits {n : Nat} {R : List (List Int)} (hR : Fits n R) (p : List Nat) : Fits n (sqL R p n) := fun r hr => by
  obtain ⟨k, -, rfl⟩ := List.mem_map.1 hr
  exact sqRow_fits hR p k
theorem sq_few (R : List (List Int)) (p : List Nat) (n : Nat) : (sqL R p n).length ≤ n := by
  unfold sqL
  rw [List.length_map]
  have := List.length_filter_le (fun k => decide (k ∉ p)) (List.range n)
  rwa [List.length_range] at this
theorem sq_meet {n : Nat} {A B U : List (List Int)} (hA : Fits n A) (hB : Fits n B) {pA pB pU : List Nat} (rA : Red (vecs (redRows A n)) pA) (rB : Red (vecs (redRows B n)) pB) (hU : U = sqL (redRows A n) pA n ++ sqL (redRows B n) pB n) (rU : Red (vecs (redRows U n)) pU) : redRows (sqL (redRows U n) pU n) n = meetL A B n := by
  obtain ⟨-, -, a2, a3, -⟩ := redRows_spec hA
  obtain ⟨-, -, b2, b3, -⟩ := redRows_spec hB
  have fU : Fits n U := by rw [hU]; exact Small.append (sq_fits a3 _) (sq_fits b3 _)
  obtain ⟨-, -, u2, u3, -⟩ := redRows_spec fU
  have fC := sq_fits u3 pU
  obtain ⟨q, c1, c2, c3, -⟩ := redRows_spec fC
  obtain ⟨m1, ⟨pm, m2⟩, m3, -⟩ := meet_spec hA hB
  refine vecs_inj c3 m1 (c1.unique m2 fun w => ?_)
  rw [← c2 w, m3 w, a2 w, b2 w]
  refine meet_perp rA (vecs_supp a3) rB (vecs_supp b3) (sq_square a3 rA) (sq_square b3 rB) rU (vecs_supp u3) ?_ (sq_square u3 rU) w
  have e : vecs U = vecs (sqL (redRows A n) pA n) ++ vecs (sqL (redRows B n) pB n) := by rw [hU, vecs_append]
  rw [← e]
  exact u2
theorem meet_none {n : Nat} {A B : List (List Int)} (hA : Fits n A) (hB : Fits n B) (h : A = [] ∨ B = []) : meetL A B n = [] := by
  obtain ⟨m1, ⟨pm, m2⟩, m3, -⟩ := meet_spec hA hB
  have hz : ∀ v, Sp (vecs (meetL A B n)) v → v = vz := fun v hv => by
    have := (m3 v).1 hv
    rcases h with rfl | rfl
    · exact this.1.nil
    · exact this.2.nil
  have hn : Red ([] : List V) [] := ⟨rfl, .nil, fun i j hi => absurd hi (Nat.not_lt_zero _), fun i hi => absurd hi (Nat.not_lt_zero _)⟩
  have := m2.unique hn fun v => ⟨fun q => by rw [hz v q]; exact .zero, fun q => by rw [q.nil]; exact .zero⟩
  have := congrArg List.length this
  rw [vecs_length] at this
  exact List.length_eq_zero_iff.1 this
end Go.Proofs.Ythgpmneplpdeiaa.Plain
end

section
namespace Go.Proofs.Ythgpmneplpdeiaa.Plain
open Go.Proofs.Ythgpmneplpdeiaa.Hand Go.Proofs.Ythgpmneplpdeiaa.GF Go.Proofs.Ythgpmneplpdeiaa.LA Go.RowKit Go.Proofs.YthgpmneplpdeiaaW.PrintWords Go.Proofs.YthgpmneplpdeiaaW.PrintLast
def clV (s : V) (k : Nat) (v : V) : V := va v (vs (v k) s)
theorem lay_row {M : List V} {s : V} {t : Nat} (f : V → V) (ht : t ≤ M.length) (i : Nat) : row ((M.take t).map f ++ [s] ++ (M.drop t).map f) i = if i < t then f (row M i) else if i = t then s else if i ≤ M.length then f (row M (i - 1)) else vz := by
  have hl : ((M.take t).map f).length = t := by rw [List.length_map, List.length_take]; omega
  unfold row
  rw [List.append_assoc]
  by_cases h1 : i < t
  · rw [if_pos h1, List.getD_eq_getElem?_getD, List.getElem?_append_left (by omega), List.getElem?_map, List.getElem?_take, if_pos h1, List.getD_eq_getElem?_getD, List.getElem?_eq_getElem (by omega)]; rfl
  · rw [if_neg h1, List.getD_eq_getElem?_getD, List.getElem?_append_right (by omega), hl]
    by_cases h2 : i = t
    · rw [if_pos h2, h2, Nat.sub_self]; rfl
    · rw [if_neg h2, List.getElem?_append_right (by rw [List.length_singleton]; omega), List.length_singleton, List.getElem?_map, List.getElem?_drop]
      by_cases h3 : i ≤ M.length
      · rw [if_pos h3, show t + (i - t - 1) = i - 1 from by omega, List.getD_eq_getElem?_getD, List.getElem?_eq_getElem (by omega)]; rfl
      · rw [if_neg h3, List.getElem?_eq_none (by omega)]; rfl
theorem lay_place {p : List Nat} {k t : Nat} (ht : t ≤ p.length) (i : Nat) : (p.take t ++ [k] ++ p.drop t).getD i 0 = if i < t then p.getD i 0 else if i = t then k else p.getD (i - 1) 0 := by
  have hl : (p.take t).length = t := by rw [List.length_take]; omega
  rw [List.append_assoc]
  by_cases h1 : i < t
  · rw [if_pos h1, List.getD_eq_getElem?_getD, List.getElem?_append_left (by omega), List.getElem?_take, if_pos h1, List.getD_eq_getElem?_getD]
  · rw [if_neg h1, List.getD_eq_getElem?_getD, List.getElem?_append_right (by omega), hl]
    by_cases h2 : i = t
    · rw [if_pos h2, h2, Nat.sub_self]; rfl
    · rw [if_neg h2, List.getElem?_append_right (by rw [List.length_singleton]; omega), List.length_singleton, List.getElem?_drop, show t + (i - t - 1) = i - 1 from by omega, List.getD_eq_getElem?_getD]
theorem red_lay {M : List V} {p : List Nat} (h : Red M p) {s : V} {k t : Nat} (hk : s k = 1#8) (hlow : ∀ x, x < k → s x = 0#8) (hp : ∀ j, j < M.length → s (p.getD j 0) = 0#8) (ht : t ≤ M.length) (h1 : ∀ j, j < t → p.getD j 0 < k) (h2 : ∀ j, t ≤ j → j < M.length → k < p.getD j 0) :
    Red ((M.take t).map (clV s k) ++ [s] ++ (M.drop t).map (clV s k)) (p.take t ++ [k] ++ p.drop t) := by
  have hlen := h.len
  have hL : ((M.take t).map (clV s k) ++ [s] ++ (M.drop t).map (clV s k)).length = M.length + 1 := by
    simp only [List.length_append, List.length_map, List.length_take, List.length_drop, List.length_singleton]; omega
  have at_p : ∀ i j, i < M.length → j < M.length → clV s k (row M i) (p.getD j 0) = if i = j then 1#8 else 0#8 := fun i j hi hj => by
    show row M i (p.getD j 0) ^^^ mul (row M i k) (s (p.getD j 0)) = _
    rw [hp j hj, mul_zero, BitVec.xor_zero, h.one i j hi hj]
  have at_k : ∀ i, clV s k (row M i) k = 0#8 := fun i => by
    show row M i k ^^^ mul (row M i k) (s k) = 0#8
    rw [hk, mul_one, BitVec.xor_self]
  refine ⟨by rw [hL]; simp only [List.length_append, List.length_take, List.length_drop, List.length_singleton]; omega, ?_, fun i j hi hj => ?_, fun i hi x hx => ?_⟩
  · rw [List.append_assoc, List.pairwise_append]
    refine ⟨h.inc.sublist (List.take_sublist t p), ?_, fun a ha b hb => ?_⟩
    · rw [List.singleton_append, List.pairwise_cons]
      refine ⟨fun b hb => ?_, h.inc.sublist (List.drop_sublist t p)⟩
      obtain ⟨j, hj, rfl⟩ := mem_pget hb
      rw [List.length_drop] at hj
      rw [pget_drop]
      exact h2 _ (by omega) (by omega)
    · obtain ⟨j, hj, rfl⟩ := mem_pget ha
      rw [List.length_take] at hj
      rw [pget_take (by omega)]
      have hjk := h1 j (by omega)
      rw [List.singleton_append] at hb
      rcases List.mem_cons.1 hb with q | q
      · rw [q]; exact hjk
      · obtain ⟨m, hm, rfl⟩ := mem_pget q
        rw [List.length_drop] at hm
        rw [pget_drop]
        have := h2 (t + m) (by omega) (by omega)
        omega
  · rw [hL] at hi hj
    rw [lay_row _ ht, lay_place (by omega) j]
    by_cases i1 : i < t
    · rw [if_pos i1]
      by_cases j1 : j < t
      · rw [if_pos j1, at_p i j (by omega) (by omega)]
      · rw [if_neg j1]
        by_cases j2 : j = t
        · rw [if_pos j2, at_k, if_neg (by omega)]
        · rw [if_neg j2, at_p i (j - 1) (by omega) (by omega), if_neg (by omega), if_neg (by omega)]
    · rw [if_neg i1]
      by_cases i2 : i = t
      · rw [if_pos i2]
        by_cases j1 : j < t
        · rw [if_pos j1, hp j (by omega), if_neg (by omega)]
        · rw [if_neg j1]
          by_cases j2 : j = t
          · rw [if_pos j2, hk, if_pos (by omega)]
          · rw [if_neg j2, hp (j - 1) (by omega), if_neg (by omega)]
      · rw [if_neg i2, if_pos (by omega)]
        by_cases j1 : j < t
        · rw [if_pos j1, at_p (i - 1) j (by omega) (by omega), if_neg (by omega), if_neg (by omega)]
        · rw [if_neg j1]
          by_cases j2 : j = t
          · rw [if_pos j2, at_k, if_neg (by omega)]
          · rw [if_neg j2, at_p (i - 1) (j - 1) (by omega) (by omega)]
            by_cases e : i = j
            · rw [if_pos (by omega), if_pos e]
            · rw [if_neg (by omega), if_neg e]
  · rw [hL] at hi
    rw [lay_place (by omega) i] at hx
    rw [lay_row _ ht]
    by_cases i1 : i < t
    · rw [if_pos i1] at hx ⊢
      show row M i x ^^^ mul (row M i k) (s x) = 0#8
      rw [h.low i (by omega) x hx, hlow x (by have := h1 i i1; omega), mul_zero, BitVec.xor_zero]
    · rw [if_neg i1] at hx ⊢
      by_cases i2 : i = t
      · rw [if_pos i2] at hx ⊢
        exact hlow x hx
      · rw [if_neg i2] at hx
        rw [if_neg i2, if_pos (by omega)]
        show row M (i - 1) x ^^^ mul (row M (i - 1) k) (s x) = 0#8
        rw [h.low (i - 1) (by omega) x hx, h.low (i - 1) (by omega) k (h2 (i - 1) (by omega) (by omega)), zero_mul, BitVec.xor_zero]
theorem lay_span {M : List V} {s : V} {k t : Nat} : SpEq ((M.take t).map (clV s k) ++ [s] ++ (M.drop t).map (clV s k)) (M ++ [s]) := by
  have hs : s ∈ (M.take t).map (clV s k) ++ [s] ++ (M.drop t).map (clV s k) := by simp
  refine SpEq.of_mem (fun v hv => ?_) (fun v hv => ?_)
  · have key : ∀ u, u ∈ M → Sp (M ++ [s]) (clV s k u) := fun u hu => .add (.mem (List.mem_append_left _ hu)) (.smul _ (.mem (List.mem_append_right _ (List.mem_singleton.2 rfl))))
    rcases List.mem_append.1 hv with q | q
    · rcases List.mem_append.1 q with q | q
      · obtain ⟨u, hu, rfl⟩ := List.mem_map.1 q
        exact key u (List.mem_of_mem_take hu)
      · rw [List.mem_singleton.1 q]; exact .mem (List.mem_append_right _ (List.mem_singleton.2 rfl))
    · obtain ⟨u, hu, rfl⟩ := List.mem_map.1 q
      exact key u (List.mem_of_mem_drop hu)
  · rcases List.mem_append.1 hv with q | q
    · have hc : clV s k v ∈ (M.take t).map (clV s k) ++ [s] ++ (M.drop t).map (clV s k) := by
        rw [← List.take_append_drop t M] at q
        rcases List.mem_append.1 q with q | q
        · exact List.mem_append_left _ (List.mem_append_left _ (List.mem_map.2 ⟨v, q, rfl⟩))
        · exact List.mem_append_right _ (List.mem_map.2 ⟨v, q, rfl⟩)
      have e : v = va (clV s k v) (vs (v k) s) := by unfold clV; rw [va_assoc, va_self, va_zero]
      rw [e]
      exact .add (.mem hc) (.smul _ (.mem hs))
    · rw [List.mem_singleton.1 q]; exact .mem hs
def one1 (l : List Int) : List Int := l.map fun x => gm x (gi (l.getD (leadN l).toNat 0))
def insW (M : List (List Int)) (l : List Int) : List (List Int) :=
  if leadN l < 0 then M else
    (M.take (M.findIdx fun x => decide (leadN x > leadN l))).map (fun x => addS x (one1 l) (x.getD (leadN l).toNat 0)) ++ [one1 l] ++ (M.drop (M.findIdx fun x => decide (leadN x > leadN l))).map (fun x => addS x (one1 l) (x.getD (leadN l).toNat 0))
def insL (M : List (List Int)) (r : List Int) : List (List Int) := insW M (leftL M r M.length)
theorem leadN_spec (l : List Int) : (leadN l = -1 ∧ ∀ x ∈ l, x = 0) ∨ ∃ i, ∃ h : i < l.length, leadN l = (i : Int) ∧ l[i] ≠ 0 ∧ ∀ j (q : j < i), l[j] = 0 := by
  by_cases h : ∀ x ∈ l, x = 0
  · exact Or.inl ⟨leadN_neg h, h⟩
  · obtain ⟨x, hx⟩ := Classical.not_forall.1 h
    obtain ⟨hx, hn⟩ := Classical.not_imp.1 hx
    obtain ⟨i, hi, rfl⟩ := List.mem_iff_getElem.1 hx
    obtain ⟨m, hm, ⟨hml, hmn⟩, hlw⟩ := least (fun k => ∃ q : k < l.length, l[k] ≠ 0) i ⟨hi, hn⟩
    have hz : ∀ j (q : j < m), l[j] = 0 := fun j q => Classical.byContradiction fun e => hlw j q ⟨by omega, e⟩
    exact Or.inr ⟨m, hml, leadN_pos hml hmn hz, hmn, hz⟩
theorem vec_at {l : List Int} {i : Nat} (h : i < l.length) : vec l i = toG l[i] := vec_lt h
theorem vecs_append' (a b : List (List Int)) : vecs (a ++ b) = vecs a ++ vecs b := by unfold vecs; rw [List.map_append]
theorem ins_red {n : Nat} {M : List (List Int)} {p : List Nat} (hM : Fits n M) (h : Red (vecs M) p) {r : List Int} (hr : r.length = n ∧ areB r) :
    Fits n (insL M r) ∧ (∃ p', Red (vecs (insL M r)) p') ∧ SpEq (vecs (insL M r)) (vecs (M ++ [r])) := by
  have hv := leftL_vec hM h hr M.length (Nat.le_refl _)
  have hf := leftL_fits hM hr M.length (Nat.le_refl _)
  -- what is left, and the row: one span with the rows
  have hspan : SpEq (vecs M ++ [vec (leftL M r M.length)]) (vecs (M ++ [r])) := by
    rw [vecs_append']
    have hc : vec (leftL M r M.length) = va (vec r) (comb (vecs M) fun j => vec r (p.getD j 0)) := by
      rw [hv]; funext x; unfold va comb; rw [vecs_length]
    show SpEq _ (vecs M ++ [vec r])
    refine SpEq.of_mem (fun v hv_ => ?_) (fun v hv_ => ?_)
    · rcases List.mem_append.1 hv_ with q | q
      · exact .mem (List.mem_append_left _ q)
      · rw [List.mem_singleton.1 q, hc]
        exact .add (.mem (List.mem_append_right _ (List.mem_singleton.2 rfl))) (SpLe.left _ _ _ (comb_sp _ _))
    · rcases List.mem_append.1 hv_ with q | q
      · exact .mem (List.mem_append_left _ q)
      · have e : vec r = va (vec (leftL M r M.length)) (comb (vecs M) fun j => vec r (p.getD j 0)) := by rw [hc, va_assoc, va_self, va_zero]
        rw [List.mem_singleton.1 q, e]
        exact .add (.mem (List.mem_append_right _ (List.mem_singleton.2 rfl))) (SpLe.left _ _ _ (comb_sp _ _))
  have hpz : ∀ j, j < M.length → vec (leftL M r M.length) (p.getD j 0) = 0#8 := fun j hj => by
    rw [hv]
    show vec r (p.getD j 0) ^^^ S M.length (fun i => mul (vec r (p.getD i 0)) (row (vecs M) i (p.getD j 0))) = 0#8
    rw [S_one hj fun i hi hne => by rw [h.one i j (by rw [vecs_length]; exact hi) (by rw [vecs_length]; exact hj), if_neg hne, mul_zero], h.one j j (by rw [vecs_length]; exact hj) (by rw [vecs_length]; exact hj), if_pos rfl, mul_one, BitVec.xor_self]
  unfold insL
  clear hv
  generalize leftL M r M.length = l at hf hspan hpz ⊢
  rcases leadN_spec l with ⟨e, hz⟩ | ⟨k, hk, e, hne, hlow⟩
  · have hl : insW M l = M := by unfold insW; rw [if_pos (by omega)]
    rw [hl]
    refine ⟨hM, ⟨p, h⟩, SpEq.trans ?_ hspan⟩
    have hl0 : vec l = vz := by
      funext j
      by_cases q : j < l.length
      · rw [vec_at q, hz _ (List.getElem_mem q)]; rfl
      · unfold vec; rw [List.getD_eq_getElem?_getD, List.getElem?_eq_none (by omega)]; rfl
    exact (SpLe.left _ _).eq (SpLe.append (fun _ q => q) (SpLe.of_mem fun v q => by rw [List.mem_singleton.1 q, hl0]; exact .zero))
  · have hk1 : (leadN l).toNat = k := by rw [e]; rfl
    have hgd : l.getD k 0 = l[k] := by rw [List.getD_eq_getElem?_getD, List.getElem?_eq_getElem hk, Option.getD_some]
    have hB := hf.2 _ (List.getElem_mem hk)
    have hg : toG l[k] ≠ 0#8 := fun q => hne (byte_eq (b := 0) hB ⟨by decide, by decide⟩ q)
    have hs : vec (one1 l) = vs (inv (toG l[k])) (vec l) := by unfold one1; rw [vec_scale, toG_gi, hk1, hgd]
    have hsf : (one1 l).length = n ∧ areB (one1 l) := ⟨by unfold one1; rw [List.length_map]; exact hf.1, by unfold one1; exact areB_map _ (fun x => gm_B x _) _⟩
    have hsk : vec (one1 l) k = 1#8 := by
      rw [hs]; show mul (inv (toG l[k])) (vec l k) = 1#8
      rw [vec_at hk, inv_mul _ hg]
    have hsl : ∀ x, x < k → vec (one1 l) x = 0#8 := fun x hx => by
      rw [hs]; show mul _ (vec l x) = 0#8
      rw [vec_at (by omega), hlow x hx]; exact mul_zero _
    have hsp : ∀ j, j < M.length → vec (one1 l) (p.getD j 0) = 0#8 := fun j hj => by
      rw [hs]; show mul _ (vec l (p.getD j 0)) = 0#8
      rw [hpz j hj, mul_zero]
    have hlen : M.length = p.length := by have := h.len; rwa [vecs_length] at this
    have hlead : ∀ j (q : j < M.length), leadN M[j] = ((p.getD j 0 : Nat) : Int) := fun j q => by
      have := (red_lead hM h q).2.1
      rwa [List.getD_eq_getElem?_getD, List.getElem?_eq_getElem q, Option.getD_some] at this
    obtain ⟨t, ht⟩ : ∃ t, t = M.findIdx fun x => decide (leadN x > leadN l) := ⟨_, rfl⟩
    have htl : t ≤ M.length := by rw [ht]; exact List.findIdx_le_length
    have hne_k : ∀ j, j < M.length → p.getD j 0 ≠ k := fun j hj q => by
      have := hsp j hj
      rw [q, hsk] at this
      exact absurd this (by decide)
    have h1 : ∀ j, j < t → p.getD j 0 < k := fun j hj => by
      have := List.not_of_lt_findIdx (show j < M.findIdx (fun x => decide (leadN x > leadN l)) by omega)
      have h2 := hlead j (by omega)
      have h3 := hne_k j (by omega)
      have h4 : ¬ leadN M[j] > leadN l := by simpa using this
      rw [h2, e] at h4
      omega
    have h2 : ∀ j, t ≤ j → j < M.length → k < p.getD j 0 := fun j hj hjl => by
      have ht2 : t < M.length := by omega
      have q := List.findIdx_getElem (xs := M) (p := fun x => decide (leadN x > leadN l)) (w := by rw [← ht]; exact ht2)
      have q2 := hlead t ht2
      simp only [← ht, decide_eq_true_eq] at q
      rw [q2, e] at q
      rcases Nat.lt_or_ge t j with c | c
      · have := pget h.inc c (by omega); omega
      · have : t = j := by omega
        subst this; omega
    have hadd : ∀ x, x ∈ M → vec (addS x (one1 l) (x.getD k 0)) = clV (vec (one1 l)) k (vec x) := fun x hx => by
      unfold addS clV
      rw [vec_addScaled (by rw [(hM x hx).1, hsf.1])]; rfl
    have hI : insW M l = (M.take t).map (fun x => addS x (one1 l) (x.getD k 0)) ++ [one1 l] ++ (M.drop t).map (fun x => addS x (one1 l) (x.getD k 0)) := by
      unfold insW; rw [if_neg (by omega), hk1, ← ht]
    have hV : vecs (insW M l) = ((vecs M).take t).map (clV (vec (one1 l)) k) ++ [vec (one1 l)] ++ ((vecs M).drop t).map (clV (vec (one1 l)) k) := by
      rw [hI]
      unfold vecs
      rw [List.map_append, List.map_append, List.map_map, List.map_map, ← List.map_take, ← List.map_drop, List.map_map, List.map_map]
      congr 1
      · congr 1
        exact List.map_congr_left fun x hx => hadd x (List.mem_of_mem_take hx)
      · exact List.map_congr_left fun x hx => hadd x (List.mem_of_mem_drop hx)
    refine ⟨?_, ⟨_, by rw [hV]; exact red_lay h hsk hsl (fun j hj => hsp j (by rw [vecs_length] at hj; exact hj)) (by rw [vecs_length]; exact htl) h1 (fun j a b => h2 j a (by rw [vecs_length] at b; exact b))⟩, ?_⟩
    · rw [hI]
      intro x hx
      have ok : ∀ y, y ∈ M → (addS y (one1 l) (y.getD k 0)).length = n ∧ areB (addS y (one1 l) (y.getD k 0)) := fun y hy => addS_fits (hM y hy).1 hsf.1 _
      rcases List.mem_append.1 hx with q | q
      · rcases List.mem_append.1 q with q | q
        · obtain ⟨y, hy, rfl⟩ := List.mem_map.1 q
          exact ok y (List.mem_of_mem_take hy)
        · rw [List.mem_singleton.1 q]; exact hsf
      · obtain ⟨y, hy, rfl⟩ := List.mem_map.1 q
        exact ok y (List.mem_of_mem_drop hy)
    · rw [hV]
      refine (lay_span.trans ?_).trans hspan
      have e2 : vec l = vs (toG l[k]) (vec (one1 l)) := by rw [hs, vs_vs, mul_inv _ hg, vs_one]
      refine SpEq.of_mem (fun v q => ?_) (fun v q => ?_)
      · rcases List.mem_append.1 q with q | q
        · exact .mem (List.mem_append_left _ q)
        · rw [List.mem_singleton.1 q, hs]; exact .smul _ (.mem (List.mem_append_right _ (List.mem_singleton.2 rfl)))
      · rcases List.mem_append.1 q with q | q
        · exact .mem (List.mem_append_left _ q)
        · rw [List.mem_singleton.1 q, e2]; exact .smul _ (.mem (List.mem_append_right _ (List.mem_singleton.2 rfl)))
theorem ins_eq {n : Nat} {L : List (List Int)} (hL : Fits n L) {r : List Int} (hr : r.length = n ∧ areB r) : insL (redRows L n) r = redRows (L ++ [r]) n := by
  obtain ⟨p, h1, h2, h3, _⟩ := redRows_spec hL
  obtain ⟨k1, ⟨p', k2⟩, k3⟩ := ins_red h3 h1 hr
  have hLr : Fits n (L ++ [r]) := fun x hx => (List.mem_append.1 hx).elim (hL x) (fun q => by rw [List.mem_singleton.1 q]; exact hr)
  obtain ⟨q, m1, m2, m3, _⟩ := redRows_spec hLr
  refine vecs_inj k1 m3 (k2.unique m1 ((k3.trans ?_).trans m2))
  rw [vecs_append', vecs_append']
  exact SpEq.append h2.symm (SpEq.refl _)
end Go.Proofs.Ythgpmneplpdeiaa.Plain
end

section
set_option linter.unusedVariables false
set_option linter.unusedSimpArgs false
namespace Go.Proofs.Ythgpmneplpdeiaa.Hand
open Go.RowKit Go.Proofs.Ythgpmneplpdeiaa.P Go.Proofs.Ythgpmneplpdeiaa.GF
theorem isB_ofG (g : G) : isB (ofG g) := ofG_range g
theorem toG_gm (a b : Int) : toG (gm a b) = mul (toG a) (toG b) := toG_ofG _
theorem of_isB {a : Int} (h : isB a) : ∃ g : G, a = ofG g := ⟨toG a, (ofG_toG h.1 h.2).symm⟩
theorem tx_succ (a : G) : ∀ i, tx a (i + 1) = xt (tx a i) := by
  intro i
  induction i generalizing a with
  | zero => rfl
  | succ n ih => exact ih (xt a)
theorem xt_high : ∀ g : G, (ofG g ≥ 128) → Go.bits .xor .u8 ((ofG g * 2) % 256) 27 = ofG (xt g) := by decide +kernel
theorem xt_low : ∀ g : G, ¬ (ofG g ≥ 128) → (ofG g * 2) % 256 = ofG (xt g) := by decide +kernel
def tail_ (a b : G) : Nat → Nat → G | _, 0 => 0#8 | i, d + 1 => sel (b.getLsbD i) (tx a i) ^^^ tail_ a b (i + 1) d
theorem tail_mul (a b : G) : tail_ a b 0 8 = mul a b := by
  simp only [tail_, BitVec.xor_zero]; rfl
theorem bit_test (b : G) (i : Nat) : ((Int.tmod ((b.toNat / 2 ^ i : Nat) : Int) 2) = 1) ↔ b.getLsbD i = true := by
  rw [Int.tmod_eq_emod_of_nonneg (Int.natCast_nonneg _), BitVec.getLsbD, Nat.testBit_eq_decide_div_mod_eq]
  simp only [decide_eq_true_eq]
  omega
theorem bit_next (b : G) (i : Nat) : (Int.tdiv ((b.toNat / 2 ^ i : Nat) : Int) 2) % 256 = ((b.toNat / 2 ^ (i + 1) : Nat) : Int) := by
  rw [Int.tdiv_eq_ediv_of_nonneg (Int.natCast_nonneg _), Nat.pow_succ, ← Nat.div_div_eq_div_mul]
  have := b.isLt
  have : b.toNat / 2 ^ i ≤ b.toNat := Nat.div_le_self _ _
  generalize b.toNat / 2 ^ i = q at *
  omega
theorem refmul_loop (a b : G) (d : Nat) : ∀ (i k : Nat) (s : G), i + d = 8 → d < k →
    braidworkref01_Mul.l0 k (ofG (tx a i)) ((b.toNat / 2 ^ i : Nat) : Int) (ofG s) i = some (ofG (s ^^^ tail_ a b i d)) := by
  induction d with
  | zero =>
    intro i k s hi hk
    obtain ⟨k, rfl⟩ : ∃ m, k = m + 1 := ⟨k - 1, by omega⟩
    simp only [braidworkref01_Mul.l0]
    rw [if_neg (by omega)]
    simp [tail_]
  | succ d ih =>
    intro i k s hi hk
    obtain ⟨k, rfl⟩ : ∃ m, k = m + 1 := ⟨k - 1, by omega⟩
    simp only [braidworkref01_Mul.l0]
    have hw : wrap64 ((i : Int) + 1) = ((i + 1 : Nat) : Int) := by unfold wrap64; omega
    rw [if_pos (by omega), hw, bit_next]
    have e : (tail_ a b i (d + 1)) = sel (b.getLsbD i) (tx a i) ^^^ tail_ a b (i + 1) d := rfl
    rw [e]
    by_cases hb : b.getLsbD i = true
    · rw [if_pos ((bit_test b i).2 hb), bits_xor (ofG s), toG_ofG, toG_ofG, hb]
      have hs : sel true (tx a i) = tx a i := rfl
      rw [hs, ← BitVec.xor_assoc]
      by_cases hh : ofG (tx a i) ≥ 128
      · rw [if_pos hh, xt_high _ hh, ← tx_succ]; exact ih (i + 1) k _ (by omega) (by omega)
      · rw [if_neg hh, xt_low _ hh, ← tx_succ]; exact ih (i + 1) k _ (by omega) (by omega)
    · rw [if_neg (fun h => hb ((bit_test b i).1 h))]
      have hs : sel (b.getLsbD i) (tx a i) = 0#8 := by simp [sel, hb]
      rw [hs, BitVec.zero_xor]
      by_cases hh : ofG (tx a i) ≥ 128
      · rw [if_pos hh, xt_high _ hh, ← tx_succ]; exact ih (i + 1) k _ (by omega) (by omega)
      · rw [if_neg hh, xt_low _ hh, ← tx_succ]; exact ih (i + 1) k _ (by omega) (by omega)
theorem ref_mul {a b : Int} (ha : isB a) (hb : isB b) {k : Nat} (hk : 8 < k) : braidworkref01_Mul.f k a b = some (gm a b) := by
  obtain ⟨x, rfl⟩ := of_isB ha
  obtain ⟨y, rfl⟩ := of_isB hb
  have h := refmul_loop x y 8 0 k 0#8 rfl hk
  unfold braidworkref01_Mul.f
  have e : ((y.toNat / 2 ^ 0 : Nat) : Int) = ofG y := by simp [ofG]
  rw [e, tail_mul, BitVec.zero_xor] at h
  have e2 : gm (ofG x) (ofG y) = ofG (mul x y) := by unfold gm; rw [toG_ofG, toG_ofG]
  rw [e2]; exact h
end Go.Proofs.Ythgpmneplpdeiaa.Hand
end
