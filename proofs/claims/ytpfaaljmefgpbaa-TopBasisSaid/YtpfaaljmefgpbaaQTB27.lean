/- QTB, part 27: HTopA. -/
import Derived.Test.YtpfaaljmefgpbaaQTB26

section
set_option linter.unusedVariables false
set_option linter.unusedSimpArgs false
namespace Go.Proofs.Ytpfaaljmefgpbaa.Plain
open Go.Proofs.Ytpfaaljmefgpbaa.Hand Go.Proofs.Ytpfaaljmefgpbaa.GF Go.Proofs.Ytpfaaljmefgpbaa.LA Go.RowKit Go.Proofs.Ytpfaaljmefgpbaa.P Go.Proofs.YtpfaaljmefgpbaaW.PrintWords Go.Proofs.YtpfaaljmefgpbaaW.PrintLast Go.Proofs.YtpfaaljmefgpbaaW.PrintMore
theorem N_slice_n {d : Kd (List Int)} {e base n : Nat} {W : World} {ok : Nat → Prop} {v : Value} {xs : List (List Int)} (hn : xs.length = n) (h : Kd.N d e W base ok v xs) : ∃ A c, v = .slice A n c ∧ xs.length ≤ c ∧ Kd.C d W A xs.length xs := by
  obtain ⟨A, c, rfl⟩ := Kd.N_slice h
  have := Kd.N_reads' h
  subst hn
  exact ⟨A, c, rfl, this.2.1, this.2.2⟩
theorem S_slice_n {d : Kd (List Int)} {e base n : Nat} {W : World} {ok : Nat → Prop} {v : Value} {xs : List (List Int)} (hn : xs.length = n) (h : Kd.S d e W base ok v xs) : ∃ A c, v = .slice A n c ∧ xs.length ≤ c ∧ Kd.C d W A xs.length xs := N_slice_n hn (Kd.S_N h)
theorem P_slice_n {e base n : Nat} {W : World} {ok : Nat → Prop} {v : Value} {xs : List (List Int × List Int)} (hn : xs.length = n) (h : Kd.N brK e W base ok v xs) : ∃ A c, v = .slice A n c := by
  obtain ⟨A, c, rfl⟩ := Kd.N_slice h
  exact ⟨A, c, by rw [hn]⟩
section
variable {g s : Nat} {sy C : List (List Int)}
theorem pairs_row {W : World} {base n c : Nat} {ok : Nat → Prop} {A : Option Addr} {R : List (List Int)} (h : Kd.N brK 35 W base ok (.slice A n c) (pairs s sy R)) (hR : Fits g R) (hsy : Fits s sy) {i : Nat} (hi : i < R.length) :
    ∃ (gb : Nat) (A1 : Option Addr) (c1 : Nat) (A2 : Option Addr) (c2 : Nat), A = some ⟨gb, 0, none⟩ ∧ W.cell? ⟨gb, i * 2, none⟩ = some (.slice A1 g c1) ∧ W.cell? ⟨gb, i * 2 + 1, none⟩ = some (.slice A2 s c2) ∧ g ≤ c1 ∧ s ≤ c2 ∧ Kd.F (Kd.int .u8) W ok A1 (R.getD i []).length (R.getD i []) ∧ Kd.F (Kd.int .u8) W ok A2 (payL s sy (R.getD i [])).length (payL s sy (R.getD i [])) := by
  have hi' : i < (pairs s sy R).length := by rw [pairs_length]; exact hi
  obtain ⟨gb, cap, e, -, -, -⟩ := Kd.N_form h (by omega)
  injection e with e1 e2 e3
  subst e1; subst e2; subst e3
  obtain ⟨A1, c1, A2, c2, x1, x2, -, -, k1, k2, f1, f2⟩ := brN_row h hi'
  have e : (pairs s sy R)[i] = (R.getD i [], payL s sy (R.getD i [])) := by
    have := pairs_getD (s := s) (sy := sy) R hi
    rw [List.getD_eq_getElem?_getD, List.getElem?_eq_getElem hi'] at this
    exact this
  rw [e] at x1 x2 k1 k2 f1 f2
  have l1 := (getD_fits hR hi).1
  have l2 := (payL_spec hsy (R.getD i [])).1
  refine ⟨gb, A1, c1, A2, c2, rfl, ?_, ?_, ?_, ?_, Kd.F_mono f1 (fun _ h => h.1), Kd.F_mono f2 (fun _ h => h.1)⟩
  · rw [x1]; show some (Value.slice A1 (R.getD i []).length c1) = _; rw [l1]
  · rw [x2]; show some (Value.slice A2 (payL s sy (R.getD i [])).length c2) = _; rw [l2]
  · rw [← l1]; exact k1
  · rw [← l2]; exact k2
abbrev put (g s : Nat) (sy C : List (List Int)) (i : Nat) : List (List Int × List Int) := pairs s sy (redRows (C.take i) g)
theorem red_le (hC : Fits g C) (i : Nat) : (redRows (C.take i) g).length ≤ C.length := by
  have := (redRows_spec (take_fits hC i)).choose_spec.2.2.2
  rw [List.length_take] at this
  omega
theorem put_le (hC : Fits g C) (hl : C.length ≤ 16) (i : Nat) : (put g s sy C i).length < 1000 := by
  unfold put
  rw [pairs_length]
  have := red_le hC i
  omega
def Foot (W : World) (B : Nat) (u v : Value) (A : Option Addr) (R : List (List Int × List Int)) : Prop := Kd.F brK W (fun k => k ≠ B ∧ some k ≠ u.ownBlock ∧ some k ≠ v.ownBlock) A R.length R
theorem basis_foot {W W' : World} {B c : Nat} {A : Option Addr} {R : List (List Int × List Int)} {P : Nat → Prop} (h : BasisIs W B g s A c R) (hP : Kd.F brK W P A R.length R) (hPB : ∀ j, P j → j ≠ B) (hm : ∀ k, (k = B ∨ P k) → k < W.heap.size → W'.heap[k]? = W.heap[k]?) : BasisIs W' B g s A c R :=
  ⟨(hm B (Or.inl rfl) (WorkIs.heap_lt' h.blk)).trans h.blk, h.cap, Kd.F_mono (Kd.F_step hP (fun k hk hlt => hm k (Or.inr hk) hlt)) hPB, h.at0⟩
theorem foot_left {W w1 : World} {B c : Nat} {u u1 v : Value} {A : Option Addr} {R : List (List Int × List Int)} (h : BasisIs W B g s A c R) (hF : Foot W B u v A R) (hu : some B ≠ u.ownBlock) (hg : W.grownBy w1 u.ownBlock) (hat : u1.ownBlock = u.ownBlock ∨ ∃ b, u1.ownBlock = some b ∧ W.heap.size ≤ b) : BasisIs w1 B g s A c R ∧ Foot w1 B u1 v A R := by
  refine ⟨basis_foot h hF (fun j hj => hj.1) (fun k hk hlt => hg.block k hlt ?_), ?_⟩
  · rcases hk with rfl | hk
    · exact hu
    · exact hk.2.1
  · refine Kd.F_mono (Kd.F_step (Kd.F_bound hF) (fun k hk hlt => hg.block k hlt hk.1.2.1)) (fun k hk => ⟨hk.1.1, ?_, hk.1.2.2⟩)
    rcases hat with hat | ⟨b, hb, hle⟩
    · rw [hat]; exact hk.1.2.1
    · rw [hb]
      intro he
      injection he with he
      have := hk.2
      omega
theorem foot_below {W w1 : World} {B : Nat} {u v : Value} {A : Option Addr} {R : List (List Int × List Int)} (h : Foot W B u v A R) (hb : Below W.heap.size W w1) : Foot w1 B u v A R := Kd.F_below h hb
theorem foot_swap {W : World} {B : Nat} {u v : Value} {A : Option Addr} {R : List (List Int × List Int)} (h : Foot W B u v A R) : Foot W B v u A R := Kd.F_mono h fun k hk => ⟨hk.1, hk.2.2, hk.2.1⟩
theorem foot_right {W w1 : World} {B c : Nat} {u u1 v : Value} {A : Option Addr} {R : List (List Int × List Int)} (h : BasisIs W B g s A c R) (hF : Foot W B v u A R) (hu : some B ≠ u.ownBlock) (hg : W.grownBy w1 u.ownBlock) (hat : u1.ownBlock = u.ownBlock ∨ ∃ b, u1.ownBlock = some b ∧ W.heap.size ≤ b) : BasisIs w1 B g s A c R ∧ Foot w1 B v u1 A R := by
  obtain ⟨h1, h2⟩ := foot_left h (foot_swap hF) hu hg hat
  exact ⟨h1, foot_swap h2⟩
theorem ins_at (W : World) (B : Nat) (A : Option Addr) (c : Nat) (i : Nat) (hC : Fits g C) (hi : i < C.length) (hCl : C.length ≤ 16) (hsy : Fits s sy) (hg : 1 ≤ g ∧ g ≤ 6) (hs : 1 ≤ s ∧ s ≤ 6) (H : BasisIs W B g s A c (put g s sy C i)) (a1 a2 : List Int) (ha1 : a1 = C.getD i []) (ha2 : a2 = payL s sy a1) (A1 : Option Addr) (c1 : Nat) (A2 : Option Addr) (c2 : Nat) (H1 : Kd.C (Kd.int .u8) W A1 a1.length a1) (C1 : g ≤ c1) (H2 : Kd.C (Kd.int .u8) W A2 a2.length a2) (C2 : s ≤ c2) (b : Bool) (hb : isIn C i = b) (u v : Value) (hF : Foot W B u v A (put g s sy C i)) (hu : ∀ k, u.ownBlock = some k → k < W.heap.size) (hv : ∀ k, v.ownBlock = some k → k < W.heap.size) :
    Calls Try.prog 8 #[.pointer (some ⟨B, 0, none⟩), .agg #[.slice A1 g c1, .slice A2 s c2]] W fun e w' => e = .returned (.tuple #[.bool (!b), .int .i64 0]) ∧ (∃ A' c', BasisIs w' B g s A' c' (put g s sy C (i + 1)) ∧ Foot w' B u v A' (put g s sy C (i + 1))) ∧ Below B W w' ∧ W.heap.size ≤ w'.heap.size ∧ ∀ k, k ≠ B → k < W.heap.size → w'.heap[k]? = W.heap[k]? := by
  have l1 : a1.length = g := by rw [ha1]; exact (getD_fits hC hi).1
  have b1 : areB a1 := by rw [ha1]; exact (getD_fits hC hi).2
  obtain ⟨p1, p2, -⟩ := payL_spec hsy a1
  rw [← ha2] at p1 p2
  have hRf : Fits g (redRows (C.take i) g) := (redRows_spec (take_fits hC i)).choose_spec.2.2.1
  have hRok := pairs_ok (s := s) (g := g) hsy (take_fits hC i)
  have hlen : (put g s sy C i).length < 1000 := put_le hC hCl i
  have hq : redP (put g s sy C i) (a1, a2) (put g s sy C i).length = (leftL (redRows (C.take i) g) a1 (redRows (C.take i) g).length, payL s sy (leftL (redRows (C.take i) g) a1 (redRows (C.take i) g).length)) := by
    unfold put
    rw [pairs_length, ha2]
    exact redP_pairs hsy hRf ⟨l1, b1⟩ _ (Nat.le_refl _)
  have hone : insL (redRows (C.take i) g) a1 = redRows (C.take (i + 1)) g := by rw [ha1]; exact one_by_one hC hi
  have hisin : isIn C i = (leftL (redRows (C.take i) g) a1 (redRows (C.take i) g).length).all (fun z => z == 0) := by
    unfold isIn hasB
    rw [← ha1, l1]
  have BL := WorkIs.heap_lt' H.blk
  obtain ⟨q1, hq1⟩ : ∃ q1, q1 = leftL (redRows (C.take i) g) a1 (redRows (C.take i) g).length := ⟨_, rfl⟩
  rw [← hq1] at hq hisin
  have ql : q1.length = g := by rw [hq1]; exact (leftL_fits hRf ⟨l1, b1⟩ _ (Nat.le_refl _)).1
  cases b with
  | true =>
    rw [hb] at hisin
    have hz : ∀ x ∈ q1, x = 0 := fun x hx => by simpa using List.all_eq_true.1 hisin.symm x hx
    have hins : redRows (C.take (i + 1)) g = redRows (C.take i) g := by
      rw [← hone]
      unfold insL insW
      rw [← hq1, if_pos (by rw [leadN_neg hz]; omega)]
    have h := insOld_calls W B A c (put g s sy C i) A1 c1 a1 A2 c2 a2 ⟨by rw [l1, p1]; exact H⟩ ⟨by rw [l1, p1]; exact hRok⟩ ⟨by omega⟩ ⟨hlen⟩ ⟨H1⟩ ⟨by omega⟩ ⟨H2⟩ ⟨by omega⟩ ⟨b1⟩ ⟨p2⟩ ⟨by rw [hq]; exact hisin.symm⟩
    rw [l1, p1] at h
    refine h.mono ?_
    rintro e w' ⟨rfl, hb⟩
    exact ⟨rfl, ⟨A, c, by unfold put; rw [hins]; exact ⟨H.step hb, Kd.F_below hF hb⟩⟩, hb.mono (by omega), hb.size, fun k _ hk => hb.block k hk⟩
  | false =>
    rw [hb] at hisin
    rcases leadN_spec q1 with ⟨-, hz⟩ | ⟨k, hk, hlead, hne, -⟩
    · have : (q1.all fun z => z == 0) = true := List.all_eq_true.2 fun x hx => by simp [hz x hx]
      rw [this] at hisin
      cases hisin
    · have hz : q1.getD k 0 = q1[k] := by rw [List.getD_eq_getElem?_getD, List.getElem?_eq_getElem hk]; rfl
      have h := insNew_calls W B A c (put g s sy C i) A1 c1 a1 A2 c2 a2 ⟨by rw [l1, p1]; exact H⟩ ⟨by rw [l1, p1]; exact hRok⟩ ⟨by omega⟩ ⟨hlen⟩ ⟨H1⟩ ⟨by omega⟩ ⟨H2⟩ ⟨by omega⟩ ⟨b1⟩ ⟨p2⟩ (q1, payL s sy q1) ⟨hq.symm⟩ ⟨hisin.symm⟩ k q1[k] ⟨hlead⟩ hk hz hne _ _ rfl rfl (fun k => k ≠ B ∧ some k ≠ u.ownBlock ∧ some k ≠ v.ownBlock) ⟨fun j hj => hj.1⟩ ⟨hF⟩
      rw [l1, p1] at h
      refine h.mono ?_
      rintro e w' ⟨A', c', W1, rfl, hb, hw, hB, hFo⟩
      have hL := ins_pairs hsy hRf ⟨l1, b1⟩ hq1 hlead hz rfl rfl
      rw [hone] at hL
      unfold put at hB
      unfold put at hFo
      rw [hL] at hB hFo
      refine ⟨rfl, ⟨A', c', hB, Kd.F_mono hFo (fun k hk => ?_)⟩, ?_, ?_, ?_⟩
      · rcases hk with hk | hk
        · exact hk.1
        · exact ⟨by omega, fun e => by have := hu k e.symm; omega, fun e => by have := hv k e.symm; omega⟩
      · rw [hw]; exact (hb.mono (by omega)).setCell (p := ⟨B, 2, none⟩) (Nat.le_refl B) _
      · rw [hw]
        exact Nat.le_trans hb.size ((Below.refl W1.heap.size W1).mono (Nat.zero_le _) |>.setCell (p := ⟨B, 2, none⟩) (Nat.zero_le _) _).size
      · intro j hj hlt
        rw [hw, Below.heap_setCell W1 ⟨B, 2, none⟩ _ j hj]
        exact hb.block j hlt
theorem FK_row_n {W : World} {ok : Nat → Prop} {x : List Int} {A : Option Addr} {c n : Nat} (hn : x.length = n) (h : n ≤ c) (f : Kd.F (Kd.int .u8) W ok A x.length x) : Kd.FK rowK W ok x [.slice A n c] := by
  subst hn
  exact Kd.FK_slice_mk h f
theorem has_at {n : Nat} {L : List (List Int)} {v : List Int} (W : World) (hL : Fits g L) (hn : L.length = n) (hv : v.length = g) (hB : areB v) (hg : g ≤ 6) (hk : n ≤ 16) {A0 : Option Addr} {c0 : Nat} {A1 : Option Addr} {c1 : Nat} (hr0 : Kd.C rowK W A0 L.length L) (hc0 : L.length ≤ c0) (hr1 : Kd.C (Kd.int .u8) W A1 v.length v) (hc1 : g ≤ c1) (b : Bool) (hb : hasB L v = b) :
    Calls Try.prog 7 #[.slice A0 n c0, .slice A1 g c1] W fun e w' => e = .returned (.tuple #[.bool b, .int .i64 0]) ∧ Below W.heap.size W w' := by
  have h := span_Has.calls A0 c0 L A1 c1 v (hasB L v) 0 W hr0 hc0 hr1 (by omega) (has_f hL ⟨hv, hB⟩ (by omega) (by omega))
  rw [hn, hv, hb] at h
  exact h
theorem rank_at {n : Nat} {L : List (List Int)} (W : World) (hL : Fits g L) (hn : L.length = n) (hg : g ≤ 6) (hk : n ≤ 16) {A0 : Option Addr} {c0 : Nat} (hr0 : Kd.C rowK W A0 L.length L) (hc0 : L.length ≤ c0) (r : Nat) (hr : rk g (vecs L) = r) :
    Calls Try.prog 11 #[.slice A0 n c0] W fun e w' => e = .returned (.tuple #[.int .i64 (r : Int), .int .i64 0]) ∧ Below W.heap.size W w' := by
  have h := matrix_Rank.calls A0 c0 L (r : Int) 0 W hr0 hc0 (by
    unfold matrix_Rank.f
    rw [reduce_f hL (by omega) (by omega)]
    show some (((redRows L g).length : Int), (0 : Int)) = _
    rw [redRows_rank hL, hr])
  rw [hn] at h
  exact h
theorem red_at {n : Nat} {L : List (List Int)} (W : World) (hL : Fits g L) (hn : L.length = n) (hg : g ≤ 6) (hk : n ≤ 16) {A0 : Option Addr} {c0 : Nat} (hr0 : Kd.C rowK W A0 L.length L) (hc0 : L.length ≤ c0) :
    Calls Try.prog 10 #[.slice A0 n c0] W fun e w' => ∃ v : Value, e = .returned (.tuple #[v, .int .i64 0]) ∧ Kd.S rowK 22 w' W.heap.size (fun _ => True) v (redRows L g) ∧ Below W.heap.size W w' := by
  have h := matrix_Reduce.calls A0 c0 L (redRows L g) 0 W hr0 hc0 (reduce_f hL (by omega) (by omega))
  rw [hn] at h
  exact h
theorem inv_at {n : Nat} {L Y : List (List Int)} (W : World) (hn : L.length = n) (hY : matrix_Inverse.f L = some (Y, 0)) {A0 : Option Addr} {c0 : Nat} (hr0 : Kd.C rowK W A0 L.length L) (hc0 : L.length ≤ c0) :
    Calls Try.prog 16 #[.slice A0 n c0] W fun e w' => ∃ v : Value, e = .returned (.tuple #[v, .int .i64 0]) ∧ Kd.S rowK 22 w' W.heap.size (fun _ => True) v Y ∧ Below W.heap.size W w' := by
  have h := matrix_Inverse.calls A0 c0 L Y 0 W hr0 hc0 hY
  rw [hn] at h
  exact h
theorem mul_at {n m : Nat} {L M Y : List (List Int)} (W : World) (hn : L.length = n) (hm : M.length = m) (hY : matrix_Mul.f 200 L M = some (Y, 0)) {A0 : Option Addr} {c0 : Nat} {A1 : Option Addr} {c1 : Nat} (hr0 : Kd.C rowK W A0 L.length L) (hc0 : L.length ≤ c0) (hr1 : Kd.C rowK W A1 M.length M) (hc1 : M.length ≤ c1) :
    Calls Try.prog 17 #[.slice A0 n c0, .slice A1 m c1] W fun e w' => ∃ v : Value, e = .returned (.tuple #[v, .int .i64 0]) ∧ Kd.S rowK 22 w' W.heap.size (fun _ => True) v Y ∧ Below W.heap.size W w' := by
  have h := matrix_Mul.calls 200 A0 c0 L A1 c1 M Y 0 W hr0 hc0 hr1 hc1 hY
  rw [hn, hm] at h
  exact h
theorem same_at {n m : Nat} {L M : List (List Int)} (W : World) (hn : L.length = n) (hm : M.length = m) (hL : Fits s L) (hM : Fits s M) (hk : n ≤ 16) (he : L = M) {A0 : Option Addr} {c0 : Nat} {A1 : Option Addr} {c1 : Nat} (hr0 : Kd.C rowK W A0 L.length L) (hc0 : L.length ≤ c0) (hr1 : Kd.C rowK W A1 M.length M) (hc1 : M.length ≤ c1) :
    Calls Try.prog 18 #[.slice A0 n c0, .slice A1 m c1] W fun e w' => e = .returned (.bool true) ∧ Below W.heap.size W w' := by
  have h := matrix_Same.calls A0 c0 L A1 c1 M true W hr0 hc0 hr1 hc1 (by rw [same_f hL hM (by omega), decide_eq_true he])
  rw [hn, hm] at h
  refine h.mono ?_
  rintro e w' ⟨rfl, hd⟩
  exact ⟨rfl, drawn_below hd⟩
theorem con_at (W : World) (B : Nat) (A : Option Addr) (c : Nat) (hC : Fits g C) (hCl : C.length ≤ 16) (hsy : Fits s sy) (hg : 1 ≤ g ∧ g ≤ 6) (hs : 1 ≤ s ∧ s ≤ 6) (H : BasisIs W B g s A c (pairs s sy (redRows C g))) (l : List Int) (hl : l.length = g) (hB : areB l) {AL : Option Addr} {cL : Nat} (hr : Kd.C (Kd.int .u8) W AL l.length l) (hc : g ≤ cL) (b : Bool) (hb : hasB C l = b) :
    Calls Try.prog 14 #[.pointer (some ⟨B, 0, none⟩), .slice AL g cL] W fun e w' => e = .returned (.tuple #[.bool b, .int .i64 0]) ∧ Below W.heap.size W w' := by
  have hlen : (pairs s sy (redRows C g)).length < 1000 := by
    have := red_le hC C.length
    rw [List.take_length] at this
    rw [pairs_length]; omega
  have h := containsB_calls W B s A c (pairs s sy (redRows C g)) AL cL l ⟨by rw [hl]; exact H⟩ ⟨by rw [hl]; exact pairs_ok hsy hC⟩ (by omega) (by omega) (by omega) ⟨hlen⟩ ⟨hr⟩ ⟨by omega⟩ ⟨hB⟩ _ ⟨rfl⟩ b ⟨by
    rw [pairs_length, redP_fst l _ _ (Nat.le_refl _), ← hb]
    unfold hasB
    rw [hl]⟩
  rw [hl] at h
  exact h
theorem rankB_at (W : World) (B : Nat) (A : Option Addr) (c : Nat) (hC : Fits g C) (hg : 1 ≤ g) (H : BasisIs W B g s A c (pairs s sy (redRows C g))) (r : Nat) (hr : rk g (vecs C) = r) :
    Calls Try.prog 12 #[.pointer (some ⟨B, 0, none⟩)] W fun e W' => e = .returned (.int .i64 (r : Int)) ∧ W' = W := by
  have h := rankB_calls W B g s A c _ H (by omega)
  rw [pairs_length, redRows_rank hC, hr] at h
  exact h
theorem rowsB_at (W : World) (B : Nat) (A : Option Addr) (c : Nat) (hC : Fits g C) (hCl : C.length ≤ 16) (hsy : Fits s sy) (hg : 1 ≤ g ∧ g ≤ 6) (hs : 1 ≤ s ∧ s ≤ 6) (H : BasisIs W B g s A c (pairs s sy (redRows C g))) :
    Calls Try.prog 9 #[.pointer (some ⟨B, 0, none⟩)] W fun e W' => ∃ v : Value, e = .returned v ∧ Kd.N brK 35 W' W.heap.size (fun j => W.heap.size ≤ j) v (pairs s sy (redRows C g)) ∧ Below W.heap.size W W' := by
  have hlen : (pairs s sy (redRows C g)).length < 1000 := by
    have := red_le hC C.length
    rw [List.take_length] at this
    rw [pairs_length]; omega
  exact rows_calls W B g s A c _ ⟨H⟩ (by omega) g s ⟨pairs_ok hsy hC⟩ (by omega) (by omega) ⟨hlen⟩
theorem solveErr_at (W : World) (B : Nat) (A : Option Addr) (c : Nat) (hC : Fits g C) (hg : 1 ≤ g) (H : BasisIs W B g s A c (pairs s sy (redRows C g))) (hr : rk g (vecs C) < g) :
    Calls Try.prog 15 #[.pointer (some ⟨B, 0, none⟩)] W fun e w' => e = .returned (.tuple #[.slice none 0 0, .int .i64 24]) ∧ Below W.heap.size W w' :=
  solveErr_calls W B g s A c _ ⟨H⟩ (by omega) (by rw [pairs_length, redRows_rank hC]; exact hr)
theorem solve_at (W : World) (B : Nat) (A : Option Addr) (c : Nat) (hC : Fits g C) (hCl : C.length ≤ 16) (hsy : Fits s sy) (hsl : sy.length = g) (hg : 1 ≤ g ∧ g ≤ 6) (hs : 1 ≤ s ∧ s ≤ 6) (H : BasisIs W B g s A c (pairs s sy (redRows C g))) (hr : rk g (vecs C) = g) :
    Calls Try.prog 15 #[.pointer (some ⟨B, 0, none⟩)] W fun e w' => ∃ v : Value, e = .returned (.tuple #[v, .int .i64 0]) ∧ Kd.N rowK 22 w' W.heap.size (fun j => W.heap.size ≤ j) v sy ∧ Below W.heap.size W w' := by
  have hlen : (pairs s sy (redRows C g)).length < 1000 := by
    have := red_le hC C.length
    rw [List.take_length] at this
    rw [pairs_length]; omega
  have h := solve_calls W B g s A c _ ⟨H⟩ (by omega) (by rw [pairs_length, redRows_rank hC]; omega) g s ⟨pairs_ok hsy hC⟩ (by omega) (by omega) ⟨hlen⟩
  have e : (pairs s sy (redRows C g)).map (·.2) = sy := by
    unfold pairs
    rw [List.map_map]
    exact solved_rows hsy hsl hC hr
  rw [e] at h
  exact h
end
end Go.Proofs.Ytpfaaljmefgpbaa.Plain
end
