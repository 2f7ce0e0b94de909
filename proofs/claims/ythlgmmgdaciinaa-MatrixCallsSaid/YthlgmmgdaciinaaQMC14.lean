/- QMC, part 14: HSame InvPlain P0. -/
import Derived.Test.YthlgmmgdaciinaaQMC1
import Derived.Test.YthlgmmgdaciinaaQMC2
import Derived.Test.YthlgmmgdaciinaaQMC3
import Derived.Test.YthlgmmgdaciinaaQMC4
import Derived.Test.YthlgmmgdaciinaaQMC6
import Derived.Test.YthlgmmgdaciinaaQMC7
import Derived.Test.YthlgmmgdaciinaaQMC10
import Derived.Test.YthlgmmgdaciinaaQMC11
import Derived.Test.YthlgmmgdaciinaaQMC13
import Derived.Test.YthlgmmgdaciinaaProg
import Derived.Below
import Derived.Deep.Draws
import Derived.Deep.AppendLies
import Derived.Maps.AppendAt
import Derived.OwnWalk
import Derived.Laws.BytesArg
import Derived.Laws.MakeOwn
import Derived.Laws.OwnMore
import Derived.Deep.OwnRows
import Derived.Tactics
import Derived.Lib.ConvBytes
import Derived.Laws.Slices
import Derived.WalkKit
import Derived.KernelRfl
import Derived.RowKit3
import Derived.Deep.LoopGhost
import Derived.Deep.QuietTactic
import Derived.BigQuiet
import Derived.WideLaws
import Derived.Deep.DeepCutAuto
import Derived.Deep.CutBlock
import Derived.Deep.RegionHeld3
import Derived.Laws.Rows
import Derived.Lib.AppendStr
import Derived.ArgAppend
import Derived.Laws.IdiomCopy
import Derived.OrdersHeld
import Derived.Laws.BitsLemmas
import Derived.RowKit

section
set_option linter.unusedVariables false
set_option linter.unusedSimpArgs false
namespace Go.Proofs.Ythlgmmgdaciinaa.Hand
open Go.RowKit Go.Proofs.YthlgmmgdaciinaaW.PrintWords Go.Proofs.YthlgmmgdaciinaaW.PrintLast Go.Proofs.YthlgmmgdaciinaaW.PrintMore
theorem strOf_inj : ∀ {a b : List Int}, areB a → areB b → (strOfNums a).toList = (strOfNums b).toList → a = b := by
  intro a b ha hb h
  have h1 : (strOfNums a).data.toList = (strOfNums b).data.toList := by
    rw [ByteArray.toList_eq, ByteArray.toList_eq] at h
    exact h
  rw [strOfNums_data, strOfNums_data] at h1
  clear h
  induction a generalizing b with
  | nil => cases b with
    | nil => rfl
    | cons y b => cases h1
  | cons x a ih => cases b with
    | nil => cases h1
    | cons y b =>
      simp only [List.map_cons, List.cons.injEq] at h1
      have hx := ha x (List.mem_cons_self)
      have hy := hb y (List.mem_cons_self)
      have e : x = y := by
        have h2 := congrArg UInt8.toNat h1.1
        rw [UInt8.toNat_ofNat', UInt8.toNat_ofNat'] at h2
        have := hx.1; have := hx.2; have := hy.1; have := hy.2
        omega
      rw [e, ih (fun z hz => ha z (List.mem_cons_of_mem _ hz)) (fun z hz => hb z (List.mem_cons_of_mem _ hz)) h1.2]
theorem bytesEq_f {a b : List Int} (ha : areB a) (hb : areB b) : PK.bytes_Equal.f a b = some (decide (a = b)) := by
  unfold PK.bytes_Equal.f
  by_cases e : a = b
  · subst e; simp
  · congr 1
    rw [decide_eq_false e]
    exact beq_eq_false_iff_ne.2 (fun h => e (strOf_inj ha hb h))
def matrix_Same.f (l0 l1 : List (List Int)) : Option Bool := if l0.length < 1000000000 ∧ (∀ x ∈ l0, areB x) ∧ (∀ x ∈ l1, areB x) then some (decide (l0 = l1)) else none
set_option maxHeartbeats 4000000 in
set_option maxRecDepth 100000 in
theorem equalFunc_calls (A0 : Option Addr) (c0 : Nat) (l0 : List (List Int)) (A1 : Option Addr) (c1 : Nat) (l1 : List (List Int)) (w : World) (hr0 : Kd.C (Kd.slice 5 (Kd.int .u8)) w A0 l0.length l0) (hr1 : Kd.C (Kd.slice 5 (Kd.int .u8)) w A1 l1.length l1)
    (hl : l0.length < 1000000000) (h0 : ∀ x ∈ l0, areB x) (h1 : ∀ x ∈ l1, areB x) :
    Calls Try.prog 40 #[.slice A0 l0.length c0, .slice A1 l1.length c1, .func (.func 41) #[] #[]] w fun e w' => e = .returned (.bool (decide (l0 = l1))) ∧ Drawn0 w w' := by
  have HR0 := Aside0.mk hr0
  have HR1 := Aside0.mk hr1
  have HB0 := Aside0.mk h0
  have HB1 := Aside0.mk h1
  have HL := Aside0.mk hl
  clear hr0 hr1 h0 h1 hl
  by_cases hn : l0.length = l1.length
  · have q0 : ((l0.length : Int) != (l1.length : Int)) = false := by simp [hn]
    have Hn := Aside0.mk hn
    clear hn
    go_enter Try.func40, Try.ntmps40
    go_wp2
    go_loopg [17] l0.length (fun kq v17 w' => ∃ i : Nat, v17 = .int .i64 (i : Int) ∧ Aside0 (kq + i = l0.length) ∧ Aside0 (∀ j, j < i → l0[j]? = l1[j]?) ∧ Aside0 (Drawn0 w w'))
    case atStart => exact ⟨0, rfl, ⟨by omega⟩, ⟨fun j hj => absurd hj (by omega)⟩, ⟨Drawn0.refl _⟩⟩
    case round =>
      obtain ⟨i, rfl, HI, HE, HD⟩ := hrel
      by_cases hi : i < l0.length
      · have hi' : i < l1.length := by have := Hn.out; omega
        have q1 : decide ((i : Int) < (l0.length : Int)) = true := decide_eq_true (by omega)
        have p0 : (0 : Int) ≤ (i : Int) := by omega
        have p1 : (i : Int) < (l0.length : Int) := by omega
        have p2 : (i : Int) < (l1.length : Int) := by omega
        obtain ⟨ad, Ai, ci, e1, hx1, hl1, hi1⟩ := at_R HR0.out (i : Int) p0 p1
        cases e1
        obtain ⟨bd, Bi, di, e2, hx2, hl2, hi2⟩ := at_R HR1.out (i : Int) p0 p2
        cases e2
        have er : rdR l0 (i : Int) = l0[i] := by unfold rdR; rw [Int.toNat_natCast, List.getD_eq_getElem?_getD, List.getElem?_eq_getElem hi, Option.getD_some]
        have er' : rdR l1 (i : Int) = l1[i] := by unfold rdR; rw [Int.toNat_natCast, List.getD_eq_getElem?_getD, List.getElem?_eq_getElem hi', Option.getD_some]
        rw [er] at hx1 hl1 hi1
        rw [er'] at hx2 hl2 hi2
        rw [Int.toNat_natCast] at hx1 hx2
        replace hx1 := (HD.out.below.cell (World.block_lt_of_cell? _ _ hx1)).trans hx1
        replace hx2 := (HD.out.below.cell (World.block_lt_of_cell? _ _ hx2)).trans hx2
        have HF := Aside0.mk (PK.bytes_Equal.calls Ai ci l0[i] Bi di l1[i] _ wr (Kd.C_below hi1 HD.out.below) hl1 (Kd.C_below hi2 HD.out.below) hl2 (bytesEq_f (HB0.out _ (List.getElem_mem hi)) (HB1.out _ (List.getElem_mem hi'))))
        have G0 := Aside0.mk (List.getElem?_eq_getElem hi)
        have G1 := Aside0.mk (List.getElem?_eq_getElem hi')
        have hi9 : (i : Int) ≤ 1000000000 := by have := HL.out; omega
        have hi8 := p0
        have q4 := eq_true p0
        have q5 := eq_true p1
        have q6 := eq_true hi
        have q7 := eq_true p2
        have q8 := eq_true hi'
        have Hi := Aside0.mk hi
        generalize l0[i] = x at *
        generalize l1[i] = y at *
        clear p0 p1 p2 hi hi' er er' hi1 hl1 hi2 hl2
        by_cases e : x = y
        · rw [decide_eq_true e] at HF
          have E := Aside0.mk e
          clear e
          cases gk with
          | zero => exact absurd HI.out (by have := Hi.out; omega)
          | succ k1 =>
            go_wp2_with (go_at_call 41; refine HF.out.mono ?_; rintro e w2 ⟨rfl, hd⟩; have HD2 := Aside0.mk hd; clear hd)
            go_roundg k1
            case measure => omega
            case rel => exact ⟨i + 1, by go_num, ⟨by have := HI.out; omega⟩, ⟨fun j hj => by
              by_cases e : j = i
              · rw [e, G0.out, G1.out, E.out]
              · exact HE.out j (by omega)⟩, ⟨by obtain ⟨⟨n, h⟩⟩ := HD2.out; rw [h]; exact HD.out.step n⟩⟩
        · rw [decide_eq_false e] at HF
          have E := Aside0.mk e
          clear e
          go_wp2_with (go_at_call 41; refine HF.out.mono ?_; rintro e w2 ⟨rfl, hd⟩; have HD2 := Aside0.mk hd; clear hd)
          go_ret
          have hne : l0 ≠ l1 := fun h => E.out (by have := G0.out; rw [h, G1.out] at this; injection this with this; exact this.symm)
          exact ⟨by rw [decide_eq_false hne]; rfl, by obtain ⟨⟨n, h⟩⟩ := HD2.out; rw [h]; exact HD.out.step n⟩
      · have q1 : decide ((i : Int) < (l0.length : Int)) = false := decide_eq_false (by omega)
        have e : i = l0.length := by have := HI.out; omega
        subst e
        go_wp2
        go_ret
        have hee : l0 = l1 := List.ext_getElem? fun j => by
          by_cases h : j < l0.length
          · exact HE.out j h
          · rw [List.getElem?_eq_none (by omega), List.getElem?_eq_none (by have := Hn.out; omega)]
        exact ⟨by rw [decide_eq_true hee]; rfl, HD.out⟩
  · have q0 : ((l0.length : Int) != (l1.length : Int)) = true := by simp; omega
    have hne : decide (l0 = l1) = false := decide_eq_false (fun e => hn (by rw [e]))
    rw [hne]
    clear hn hne
    go_enter Try.func40, Try.ntmps40
    go_wp2
    go_ret
    exact ⟨rfl, Drawn0.refl _⟩
set_option maxHeartbeats 1000000 in
set_option maxRecDepth 100000 in
theorem matrix_Same.calls (A0 : Option Addr) (c0 : Nat) (l0 : List (List Int)) (A1 : Option Addr) (c1 : Nat) (l1 : List (List Int)) (r : Bool) (w : World) (hr0 : Kd.C (Kd.slice 5 (Kd.int .u8)) w A0 l0.length l0) (hc0 : l0.length ≤ c0) (hr1 : Kd.C (Kd.slice 5 (Kd.int .u8)) w A1 l1.length l1) (hc1 : l1.length ≤ c1) (h : matrix_Same.f l0 l1 = some r) :
    Calls Try.prog 15 #[.slice A0 l0.length c0, .slice A1 l1.length c1] w fun e w' => e = .returned (.bool r) ∧ Drawn0 w w' := by
  unfold matrix_Same.f at h
  by_cases hb : l0.length < 1000000000 ∧ (∀ x ∈ l0, areB x) ∧ (∀ x ∈ l1, areB x)
  · rw [if_pos hb] at h
    obtain rfl := Option.some.inj h
    have HE := Aside0.mk (equalFunc_calls A0 c0 l0 A1 c1 l1 w hr0 hr1 hb.1 hb.2.1 hb.2.2)
    clear h hr0 hr1 hb
    generalize decide (l0 = l1) = b at *
    go_enter Try.func15, Try.ntmps15
    go_wp2_with (go_at_call 40; refine HE.out.mono ?_; rintro e w2 ⟨rfl, hd⟩)
    go_ret
    exact ⟨rfl, hd⟩
  · rw [if_neg hb] at h; cases h
end Go.Proofs.Ythlgmmgdaciinaa.Hand
end

section
namespace Go.Proofs.Ythlgmmgdaciinaa.Plain
open Go.Proofs.Ythlgmmgdaciinaa.Hand Go.Proofs.Ythlgmmgdaciinaa.GF Go.Proofs.Ythlgmmgdaciinaa.LA Go.RowKit Go.Proofs.YthlgmmgdaciinaaW.PrintWords Go.Proofs.YthlgmmgdaciinaaW.PrintLast
def vecs (L : List (List Int)) : List V := L.map vec
theorem vecs_length (L : List (List Int)) : (vecs L).length = L.length := by simp [vecs]
theorem vec_nil : vec [] = vz := funext fun _ => rfl
theorem vecs_row (L : List (List Int)) (i : Nat) : row (vecs L) i = vec (L.getD i []) := by
  unfold row vecs
  rw [List.getD_eq_getElem?_getD, List.getElem?_map, List.getD_eq_getElem?_getD]
  cases L[i]? with
  | none => exact vec_nil.symm
  | some x => rfl
theorem vecs_supp {n : Nat} {L : List (List Int)} (h : Fits n L) : AllSupp n (vecs L) := fun v hv => by
  obtain ⟨r, hr, rfl⟩ := List.mem_map.1 hv
  have := vec_supp r
  rw [(h r hr).1] at this
  exact this
theorem vecs_take (L : List (List Int)) (d : Nat) : vecs (L.take d) = (vecs L).take d := by simp [vecs, List.map_take]
theorem vecs_inj {n : Nat} : ∀ {A B : List (List Int)}, Fits n A → Fits n B → vecs A = vecs B → A = B
  | [], [], _, _, _ => rfl
  | [], b :: B, _, _, h => by simp [vecs] at h
  | a :: A, [], _, _, h => by simp [vecs] at h
  | a :: A, b :: B, hA, hB, h => by
    simp only [vecs, List.map_cons, List.cons.injEq] at h
    have h1 := hA a (List.mem_cons_self)
    have h2 := hB b (List.mem_cons_self)
    rw [vec_ext (h1.1.trans h2.1.symm) h1.2 h2.2 (fun j _ => by rw [h.1]), vecs_inj (fun r hr => hA r (List.mem_cons_of_mem _ hr)) (fun r hr => hB r (List.mem_cons_of_mem _ hr)) h.2]
theorem toG_gi (x : Int) : toG (gi x) = inv (toG x) := toG_ofG _
theorem getD_set (M : List (List Int)) (i j : Nat) (x : List Int) (hi : i < M.length) : (M.set i x).getD j [] = if j = i then x else M.getD j [] := by
  rw [List.getD_eq_getElem?_getD, List.getD_eq_getElem?_getD]
  by_cases e : j = i
  · subst e; rw [if_pos rfl, List.getElem?_set_self hi]; rfl
  · rw [if_neg e, List.getElem?_set_ne (fun q => e q.symm)]
theorem pivoted_getD (M : List (List Int)) (d i k j : Nat) (hd : d < M.length) (hi : i < M.length) : (pivoted M d i k).getD j [] = if j = d then (M.getD i []).map (fun x => gm x (gi ((M.getD i []).getD k 0))) else if j = i then M.getD d [] else M.getD j [] := by
  unfold pivoted
  rw [getD_set _ _ _ _ (by rw [List.length_set]; exact hd)]
  by_cases e : j = d
  · rw [if_pos e, if_pos e]
  · rw [if_neg e, if_neg e, getD_set _ _ _ _ hi]
theorem step_vec {n : Nat} {M : List (List Int)} (hM : Fits n M) {d i : Nat} (hd : d < M.length) (hi : i < M.length) (k : Nat) : vecs (stepI M d i k) = LA.step (vecs M) d i k := by
  have hP := pivoted_fits hM hd hi k
  have hlen : (vecs (stepI M d i k)).length = (LA.step (vecs M) d i k).length := by rw [vecs_length, stepI_length, step_length, vecs_length]
  refine ext_rows hlen fun j hj => ?_
  rw [vecs_length, stepI_length] at hj
  have hPl := pivoted_length M d i k
  have hdP : vec ((pivoted M d i k).getD d []) = pivot (vecs M) i k := by
    rw [pivoted_getD M d i k d hd hi, if_pos rfl, vec_scale, toG_gi]
    unfold pivot
    rw [vecs_row]
    rfl
  have hjP : j ≠ d → vec ((pivoted M d i k).getD j []) = swapped (vecs M) d i j := fun e => by
    rw [pivoted_getD M d i k j hd hi, if_neg e]
    unfold swapped
    by_cases e2 : j = i
    · rw [if_pos e2, if_pos e2, vecs_row]
    · rw [if_neg e2, if_neg e2, vecs_row]
  rw [step_row (by rw [vecs_length]; exact hj), vecs_row]
  have e0 : (stepI M d i k).getD j [] = if j < M.length ∧ j ≠ d then addS ((pivoted M d i k).getD j []) ((pivoted M d i k).getD d []) (((pivoted M d i k).getD j []).getD k 0) else (pivoted M d i k).getD j [] := by
    unfold stepI clr
    rw [List.getD_eq_getElem?_getD, List.getElem?_map, hPl, List.getElem?_range hj]
    rfl
  rw [e0]
  by_cases e : j = d
  · rw [if_neg (by omega), if_pos e, e, hdP]
  · rw [if_pos ⟨hj, e⟩, if_neg e]
    unfold addS
    rw [vec_addScaled (by rw [(getD_fits hP (by rw [hPl]; exact hj)).1, (getD_fits hP (by rw [hPl]; exact hd)).1]), hdP, hjP e]
    have : toG (((pivoted M d i k).getD j []).getD k 0) = vec ((pivoted M d i k).getD j []) k := rfl
    rw [this, hjP e]
theorem redTo_inv {n : Nat} {L : List (List Int)} (hL : Fits n L) (k : Nat) : ∃ p, LA.Inv (vecs (redTo L k).1) (redTo L k).2 k p ∧ SpEq (vecs L) (vecs (redTo L k).1) := by
  induction k with
  | zero => exact ⟨[], .start _, .refl _⟩
  | succ k ih =>
    obtain ⟨p, h1, h2⟩ := ih
    have hF := redTo_fits hL k
    show ∃ p, LA.Inv (vecs (colStep (redTo L k) k).1) (colStep (redTo L k) k).2 (k + 1) p ∧ SpEq (vecs L) (vecs (colStep (redTo L k) k).1)
    generalize redTo L k = S at *
    unfold colStep
    cases e : pick S.1 S.2 k with
    | none =>
      refine ⟨p, h1.pass fun i hi1 hi2 => ?_, h2⟩
      rw [vecs_length] at hi2
      unfold pick at e
      rw [List.find?_eq_none] at e
      have := e i (List.mem_range.2 hi2)
      rw [vecs_row]
      have h0 : (S.1.getD i []).getD k 0 = 0 := by
        rcases Decidable.em ((S.1.getD i []).getD k 0 = 0) with q | q
        · exact q
        · exact absurd (by simp only [Bool.and_eq_true, decide_eq_true_eq, bne_iff_ne, ne_eq]; exact ⟨hi1, q⟩) this
      show toG ((S.1.getD i []).getD k 0) = _
      rw [h0]; rfl
    | some i =>
      obtain ⟨hi1, hi2, hi3⟩ := pick_some e
      have hne : row (vecs S.1) i k ≠ 0#8 := by
        rw [vecs_row]
        intro h0
        have hB := (getD_fits hF.1 hi2).2
        have hb : isB ((S.1.getD i []).getD k 0) := by
          rw [List.getD_eq_getElem?_getD]
          cases q : (S.1.getD i [])[k]? with
          | none => exact ⟨by decide, by decide⟩
          | some x => exact hB x (List.mem_of_getElem? q)
        exact hi3 (byte_eq hb ⟨by decide, by decide⟩ h0)
      dsimp only
      rw [step_vec hF.1 (by omega) hi2 k]
      exact ⟨p ++ [k], h1.step hi1 (by rw [vecs_length]; exact hi2) hne, h2.trans (step_span (by rw [vecs_length]; omega) (by rw [vecs_length]; exact hi2) hne)⟩
def redRows (L : List (List Int)) (n : Nat) : List (List Int) := (redTo L n).1.take (redTo L n).2
theorem redRows_spec {n : Nat} {L : List (List Int)} (hL : Fits n L) : ∃ p, Red (vecs (redRows L n)) p ∧ SpEq (vecs L) (vecs (redRows L n)) ∧ Fits n (redRows L n) ∧ (redRows L n).length ≤ L.length := by
  obtain ⟨p, h1, h2⟩ := redTo_inv hL n
  have hF := redTo_fits hL n
  refine ⟨p, ?_, ?_, fun r hr => hF.1 r (List.mem_of_mem_take hr), ?_⟩
  · unfold redRows; rw [vecs_take]; exact h1.red
  · unfold redRows; rw [vecs_take]; exact h2.trans (h1.span (vecs_supp hF.1))
  · unfold redRows; rw [List.length_take, hF.2]; omega
theorem redRows_rank {n : Nat} {L : List (List Int)} (hL : Fits n L) : (redRows L n).length = rk n (vecs L) := by
  obtain ⟨p, h1, h2, _, _⟩ := redRows_spec hL
  rw [rk_eq (vecs_supp hL) h1 h2, vecs_length]
theorem any_len {n : Nat} {L : List (List Int)} (hL : Fits n L) : (L.any fun x => (x.length : Int) != ((rdR L 0).length : Int)) = false := by
  refine List.any_eq_false.2 fun x hx => ?_
  have h0 : (rdR L 0).length = n := by
    have hp : 0 < L.length := List.length_pos_of_mem hx
    exact (getD_fits hL hp).1
  rw [h0, (hL x hx).1]; simp
theorem width {n : Nat} {L : List (List Int)} (hL : Fits n L) (hp : 0 < L.length) : (rdR L 0).length = n := (getD_fits hL hp).1
theorem redTo_nil (k : Nat) : redTo [] k = ([], 0) := by
  induction k with
  | zero => rfl
  | succ k ih => show colStep (redTo [] k) k = _; rw [ih]; rfl
theorem reduce_f {n : Nat} {L : List (List Int)} (hL : Fits n L) (hl : L.length < 1000000000) (hn : n < 140737488355328) : matrix_Reduce.f L = some (redRows L n, 0) := by
  unfold matrix_Reduce.f
  rw [if_pos hl, if_neg (by rw [any_len hL]; decide)]
  by_cases hp : 0 < L.length
  · rw [width hL hp, if_pos ⟨hn, fun x hx => (hL x hx).2⟩]; rfl
  · have e := List.length_eq_zero_iff.1 (show L.length = 0 by omega)
    subst e
    unfold redRows
    rw [redTo_nil, redTo_nil, if_pos ⟨by decide, fun x hx => by cases hx⟩]
end Go.Proofs.Ythlgmmgdaciinaa.Plain
namespace Go.Proofs.Ythlgmmgdaciinaa.Plain
open Go.Proofs.Ythlgmmgdaciinaa.Hand Go.Proofs.Ythlgmmgdaciinaa.GF Go.Proofs.Ythlgmmgdaciinaa.LA Go.RowKit Go.Proofs.YthlgmmgdaciinaaW.PrintWords Go.Proofs.YthlgmmgdaciinaaW.PrintLast
theorem vec_append (a b : List Int) : vec (a ++ b) = cat a.length (vec a) (vec b) := funext fun k => by
  show toG ((a ++ b).getD k 0) = if k < a.length then toG (a.getD k 0) else toG (b.getD (k - a.length) 0)
  by_cases h : k < a.length
  · rw [if_pos h, List.getD_eq_getElem?_getD, List.getElem?_append_left h, List.getD_eq_getElem?_getD]
  · rw [if_neg h, List.getD_eq_getElem?_getD, List.getElem?_append_right (by omega), List.getD_eq_getElem?_getD]
theorem vec_drop (t : List Int) (n : Nat) : vec (t.drop n) = hi n (vec t) := funext fun k => by
  show toG ((t.drop n).getD k 0) = toG (t.getD (n + k) 0)
  rw [List.getD_eq_getElem?_getD, List.getElem?_drop, List.getD_eq_getElem?_getD]
theorem areB_drop {a : List Int} (ha : areB a) (n : Nat) : areB (a.drop n) := fun x h => ha x (List.mem_of_mem_drop h)
theorem wide_at (M : List (List Int)) (i : Nat) (hi : i < M.length) : (wideOf M).getD i [] = M.getD i [] ++ unitRow M.length i := by
  unfold wideOf
  rw [List.getD_eq_getElem?_getD, List.getElem?_map, List.getElem?_range hi]
  rfl
theorem wide_vec {M : List (List Int)} (hM : Fits M.length M) {i : Nat} (hi : i < M.length) : vec ((wideOf M).getD i []) = cat M.length (row (vecs M) i) (unit i) := by
  rw [wide_at M i hi, vec_append, (getD_fits hM hi).1, vecs_row]
  unfold unitRow
  rw [vec_unit hi]
theorem sorted_full {n : Nat} {p : List Nat} (h : p.Pairwise (· < ·)) (hlt : ∀ x, x ∈ p → x < n) (hl : p.length = n) {j : Nat} (hj : j < n) : p.getD j 0 = j := by
  have lower : ∀ j, j < n → j ≤ p.getD j 0 := by
    intro j
    induction j with
    | zero => intro _; exact Nat.zero_le _
    | succ j ih =>
      intro hj
      have h1 := ih (by omega)
      have h2 := pget h (show j < j + 1 by omega) (by rw [hl]; exact hj)
      omega
  have upper : ∀ m j, j + m < n → p.getD j 0 + m ≤ p.getD (j + m) 0 := by
    intro m
    induction m with
    | zero => intro j _; exact Nat.le_refl _
    | succ m ih =>
      intro j hj
      have h1 := ih j (by omega)
      have h2 := pget h (show j + m < j + (m + 1) by omega) (by rw [hl]; exact hj)
      omega
  have h1 := lower j hj
  have h2 := upper (n - 1 - j) j (by omega)
  have h3 := hlt _ (pget_mem (p := p) (i := j + (n - 1 - j)) (by omega))
  omega
theorem rk_ident (n : Nat) : rk n (ident n) = n := rk_all (ident_supp n) fun i hi => by rw [← ident_row hi]; exact .mem (row_mem (by rw [ident_length]; exact hi))
theorem hi_vz (n : Nat) : hi n vz = vz := rfl
theorem lo_vz (n : Nat) : lo n vz = vz := funext fun k => by simp [lo, vz]
theorem wide_law {M : List (List Int)} (hM : Fits M.length M) {v : V} (hv : Sp (vecs (wideOf M)) v) : lo M.length v = comb (vecs M) (hi M.length v) := by
  induction hv with
  | zero => rw [lo_vz, hi_vz, comb_vz]
  | mem h =>
    obtain ⟨i, hi, rfl⟩ := mem_row h
    rw [vecs_length, wideOf_length] at hi
    have hs : Supp M.length (row (vecs M) i) := vecs_supp hM _ (row_mem (by rw [vecs_length]; exact hi))
    rw [vecs_row, wide_vec hM hi, lo_cat hs, hi_cat, comb_unit (by rw [vecs_length]; exact hi)]
  | add _ _ iha ihb => rw [lo_va, hi_va, comb_va, iha, ihb]
  | smul c _ ih => rw [lo_vs, hi_vs, comb_vs, ih]
theorem wide_full {M : List (List Int)} (hM : Fits M.length M) : M.length ≤ rk (M.length + M.length) (vecs (wideOf M)) := by
  have h := rk_map (vecs_supp (wideOf_fits hM)) (lin_hi M.length) (m := M.length) (fun v hv => Supp.hi hv)
  have e : (vecs (wideOf M)).map (hi M.length) = ident M.length := by
    refine ext_rows (by rw [List.length_map, vecs_length, wideOf_length, ident_length]) fun i hi => ?_
    rw [List.length_map, vecs_length, wideOf_length] at hi
    rw [row_mapf (by rw [vecs_length, wideOf_length]; exact hi), ident_row hi, vecs_row, wide_vec hM hi, hi_cat]
  rw [e, rk_ident] at h
  exact h
theorem inv_spec {n : Nat} {M : List (List Int)} (hM : Fits n M) (hl : M.length = n) (hn : n ≤ 70000) :
    (rk n (vecs M) = n ∧ ∃ B, matrix_Inverse.f M = some (B, 0) ∧ B.length = n ∧ Fits n B ∧ prod (vecs B) (vecs M) = ident n) ∨ (rk n (vecs M) < n ∧ matrix_Inverse.f M = some ([], 24)) := by
  subst hl
  have hMs := vecs_supp hM
  have hW := wideOf_fits hM
  have e0 : matrix_Inverse.f M = if (redTo (wideOf M) M.length).2 < M.length then some ([], 24) else some ((redTo (wideOf M) M.length).1.map (·.drop M.length), 0) := by
    unfold matrix_Inverse.f
    have hw : M.length = (rdR M 0).length := by
      by_cases hp : 0 < M.length
      · exact (width hM hp).symm
      · have e := List.length_eq_zero_iff.1 (show M.length = 0 by omega)
        subst e; rfl
    rw [if_pos (by omega), if_neg (by rw [any_len hM]; decide), if_pos hw, if_pos ⟨hn, fun x hx => (hM x hx).2⟩]
  obtain ⟨p, hI, hS⟩ := redTo_inv hW M.length
  have hF := redTo_fits hW M.length
  rw [e0]
  generalize redTo (wideOf M) M.length = S at *
  obtain ⟨T, d⟩ := S
  dsimp only at *
  rw [wideOf_length] at hF
  have hTl : (vecs T).length = M.length := by rw [vecs_length, hF.2]
  have law : ∀ i, i < M.length → lo M.length (row (vecs T) i) = comb (vecs M) (hi M.length (row (vecs T) i)) := fun i hi => wide_law hM (hS.ge _ (.mem (row_mem (by rw [hTl]; exact hi))))
  by_cases hd : d < M.length
  · right
    rw [if_pos hd]
    refine ⟨?_, rfl⟩
    refine Nat.lt_of_le_of_ne (rk_le_cols hMs) fun hr => ?_
    have h0 : lo M.length (row (vecs T) d) = vz := funext fun k => by
      simp only [lo]
      by_cases hk : k < M.length
      · rw [if_pos hk]; exact hI.rest d (Nat.le_refl _) (by rw [hTl]; exact hd) k hk
      · rw [if_neg hk]; rfl
    have hz := free_of_full hMs (by rw [vecs_length]; exact Nat.le_refl _) hr ((law d hd).symm.trans h0)
    have hrow : row (vecs T) d = vz := funext fun k => by
      by_cases hk : k < M.length
      · exact hI.rest d (Nat.le_refl _) (by rw [hTl]; exact hd) k hk
      · by_cases hk2 : k < M.length + M.length
        · have := hz (k - M.length) (by rw [vecs_length]; omega)
          simp only [LA.hi] at this
          rw [show M.length + (k - M.length) = k by omega] at this
          exact this
        · exact vecs_supp hF.1 _ (row_mem (by rw [hTl]; exact hd)) k (by omega)
    have hT' : AllSupp (M.length + M.length) ((vecs T).eraseIdx d) := fun v hv => vecs_supp hF.1 v (List.mem_of_mem_eraseIdx hv)
    have hle : SpLe (vecs T) ((vecs T).eraseIdx d) := SpLe.of_mem fun v hv => by
      obtain ⟨i, hi, rfl⟩ := mem_row hv
      by_cases e : i = d
      · rw [e, hrow]; exact .zero
      · refine .mem (List.mem_eraseIdx_iff_getElem?.2 ⟨i, e, ?_⟩)
        unfold row
        rw [List.getD_eq_getElem?_getD, List.getElem?_eq_getElem hi]; rfl
    have h1 := wide_full hM
    have h2 := rk_congr (vecs_supp hF.1) hS
    have h3 := rk_mono hT' hle
    have h4 := rk_le_length hT'
    rw [List.length_eraseIdx, if_pos (by rw [hTl]; exact hd), hTl] at h4
    omega
  · left
    rw [if_neg hd]
    have hdn : d = M.length := by have := hI.dle; rw [hTl] at this; omega
    have hp : ∀ j, j < M.length → p.getD j 0 = j := fun j hj => sorted_full hI.inc hI.lt (by rw [← hI.len, hdn]) hj
    have hone : ∀ i, i < M.length → lo M.length (row (vecs T) i) = unit i := fun i hi => funext fun k => by
      simp only [lo, unit]
      by_cases hk : k < M.length
      · have := hI.one i k (by rw [hTl]; exact hi) (by omega)
        rw [hp k hk] at this
        rw [if_pos hk, this]
        by_cases e : i = k
        · rw [if_pos e, if_pos e.symm]
        · rw [if_neg e, if_neg (fun q => e q.symm)]
      · rw [if_neg hk, if_neg (by omega)]
    have hBl : (T.map (·.drop M.length)).length = M.length := by rw [List.length_map, hF.2]
    have hrowB : ∀ i, i < M.length → row (vecs (T.map (·.drop M.length))) i = hi M.length (row (vecs T) i) := fun i hi => by
      rw [vecs_row, vecs_row, ← vec_drop]
      congr 1
      rw [List.getD_eq_getElem?_getD, List.getElem?_map, List.getD_eq_getElem?_getD, List.getElem?_eq_getElem (by rw [hF.2]; exact hi)]
      rfl
    have hB : prod (vecs (T.map (·.drop M.length))) (vecs M) = ident M.length := by
      refine ext_rows (by rw [prod_length, vecs_length, hBl, ident_length]) fun i hi => ?_
      rw [prod_length, vecs_length, hBl] at hi
      rw [prod_row (by rw [vecs_length, hBl]; exact hi), ident_row hi, hrowB i hi, ← law i hi, hone i hi]
    refine ⟨?_, _, rfl, hBl, fun r hr => ?_, hB⟩
    · refine rk_all hMs fun i hi => ?_
      rw [← hone i hi, law i hi]
      exact comb_sp _ _
    · obtain ⟨t, ht, rfl⟩ := List.mem_map.1 hr
      have := hF.1 t ht
      exact ⟨by rw [List.length_drop, this.1]; omega, areB_drop this.2 _⟩
end Go.Proofs.Ythlgmmgdaciinaa.Plain
end

section
namespace Go.Proofs.Ythlgmmgdaciinaa.P
open Go.Proofs.Ythlgmmgdaciinaa.Hand Go.RowKit Go.Proofs.YthlgmmgdaciinaaW.PrintWords Go.Proofs.YthlgmmgdaciinaaW.PrintLast Go.Proofs.YthlgmmgdaciinaaW.PrintMore
attribute [local go_sem] max2_int min2_int max_two min_two max_three min_three max_four min_four   -- for this text's walks alone
set_option linter.unusedVariables false
set_option linter.unusedSimpArgs false
def errW : Option Int → Value
  | none => .nilIface
  | some c => .iface 0 (.int .i64 c)
theorem errW_none : errW none = .nilIface := rfl
theorem errW_some (c : Int) : errW (some c) = .iface 0 (.int .i64 c) := rfl
theorem info5 : (Try.prog.info? 5).map (fun i => (i.zero, i.size, i.bytes)) = some (some (.int .u8 0), 1, 1) := by kernel_rfl
theorem info22 : (Try.prog.info? 22).map (fun i => (i.zero, i.size, i.bytes)) = some (some (.slice none 0 0), 1, 24) := by kernel_rfl
-- the values' own types
def rd_L1 (xs : List (List Int)) (i : Int) : (List Int) := xs.getD i.toNat ([] : List Int)
theorem at_L1 {w : World} {A : Option Addr} {n : Nat} {xs : List (List Int)} (h : Kd.C (Kd.slice 5 (Kd.int .u8)) w A n xs) (i : Int) (h0 : 0 ≤ i) (h1 : i < n) : ∃ ad A0 c0, A = some ad ∧ w.cell? (ad.add i.toNat) = some (.slice A0 (rd_L1 xs i).length c0) ∧ (rd_L1 xs i).length ≤ c0 ∧ (Kd.int .u8).C w A0 (rd_L1 xs i).length (rd_L1 xs i) := by
  obtain ⟨ad, c, e, _, hK, hc0⟩ := Kd.C_get h ([] : List Int) i h0 h1
  have hc : ∀ j u, c[j]? = some u → w.cell? (ad.add (i.toNat * 1 + j)) = some u := hc0
  obtain ⟨A0, c0, rfl, l0, g0⟩ := hK
  exact ⟨ad, A0, c0, e, by have hq := hc 0 _ rfl; rwa [Nat.mul_one, Nat.add_zero] at hq, l0, g0⟩
end Go.Proofs.Ythlgmmgdaciinaa.P
end
