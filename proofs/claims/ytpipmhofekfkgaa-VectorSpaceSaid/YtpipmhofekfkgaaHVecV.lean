/- The contracts of vector.Add, AddScaled and Scale, their results told as rows that are only read. -/
import Derived.Test.YtpipmhofekfkgaaHMore
set_option linter.unusedVariables false
namespace Go.Proofs.Ytpipmhofekfkgaa.Hand
open Go.RowKit Go.Proofs.YtpipmhofekfkgaaW.PrintWords Go.Proofs.YtpipmhofekfkgaaW.PrintLast Go.Proofs.YtpipmhofekfkgaaW.PrintMore
theorem V_of_R {e b : Nat} {w : World} {v : Value} {xs : List Int} (h : Kd.R (Kd.int .u8) e w b (fun _ => True) v xs) : Kd.V (Kd.int .u8) e w b (fun k_ => (b ≤ k_)) v xs := by
  obtain ⟨A, c, rfl, hl, _⟩ := Kd.R_reads h
  exact ⟨A, c, rfl, hl, Kd.R_F (Kd.R_mono (Kd.R_bound h) (fun k hk => hk.2.1))⟩
theorem V_string {P : Program} {w : World} {e0 b : Nat} {ok : Nat → Prop} {src dst e : TypeId} {v : Value} {xs : List Int} (hs : P.underlying src = some (.slice e)) (he : P.underlying e = some (.int .u8)) (hd : P.underlying dst = some .string)
    (h : Kd.V (Kd.int .u8) e0 w b ok v xs) : (convert src dst v).run P w = .ok (.string (strOfNums xs)) w := by
  obtain ⟨A, c, rfl, hl, hF⟩ := h
  exact Kd.C_string (A := A) (c := c) hs he hd (Kd.F_now hF)
theorem vector_Add.callsV (A0 : Option Addr) (c0 : Nat) (l0 : List Int) (A1 : Option Addr) (c1 : Nat) (l1 : List Int) (r1 : List Int) (r2 : Int) (w : World) (hr0 : Kd.C (Kd.int .u8) w A0 l0.length l0) (hc0 : l0.length ≤ c0) (hr1 : Kd.C (Kd.int .u8) w A1 l1.length l1) (hc1 : l1.length ≤ c1) (h : vector_Add.f l0 l1 = some (r1, r2)) :
    Calls Try.prog 14 #[.slice A0 l0.length c0, .slice A1 l1.length c1] w fun e w' => ∃ v0_ : Value, e = .returned (.tuple #[v0_, .int .i64 r2]) ∧ Kd.V (Kd.int .u8) 5 w' w.heap.size (fun k_ => (w.heap.size ≤ k_)) v0_ r1 ∧ Below w.heap.size w w' :=
  (vector_Add.calls A0 c0 l0 A1 c1 l1 r1 r2 w hr0 hc0 hr1 hc1 h).mono fun e w' ⟨v, he, hR, hb⟩ => ⟨v, he, V_of_R hR, hb⟩
theorem vector_AddScaled.callsV (A0 : Option Addr) (c0 : Nat) (l0 : List Int) (A1 : Option Addr) (c1 : Nat) (l1 : List Int) (a2 : Int) (r1 : List Int) (r2 : Int) (w : World) (hr0 : Kd.C (Kd.int .u8) w A0 l0.length l0) (hc0 : l0.length ≤ c0) (hr1 : Kd.C (Kd.int .u8) w A1 l1.length l1) (hc1 : l1.length ≤ c1) (h : vector_AddScaled.f l0 l1 a2 = some (r1, r2)) :
    Calls Try.prog 16 #[.slice A0 l0.length c0, .slice A1 l1.length c1, .int .u8 a2] w fun e w' => ∃ v0_ : Value, e = .returned (.tuple #[v0_, .int .i64 r2]) ∧ Kd.V (Kd.int .u8) 5 w' w.heap.size (fun k_ => (w.heap.size ≤ k_)) v0_ r1 ∧ Below w.heap.size w w' :=
  (vector_AddScaled.calls A0 c0 l0 A1 c1 l1 a2 r1 r2 w hr0 hc0 hr1 hc1 h).mono fun e w' ⟨v, he, hR, hb⟩ => ⟨v, he, V_of_R hR, hb⟩
theorem vector_Scale.callsV (A0 : Option Addr) (c0 : Nat) (l0 : List Int) (a1 : Int) (r : List Int) (w : World) (hr0 : Kd.C (Kd.int .u8) w A0 l0.length l0) (hc0 : l0.length ≤ c0) (h : vector_Scale.f l0 a1 = some r) :
    Calls Try.prog 19 #[.slice A0 l0.length c0, .int .u8 a1] w fun e w' => ∃ v0_ : Value, e = .returned (v0_) ∧ Kd.V (Kd.int .u8) 5 w' w.heap.size (fun k_ => (w.heap.size ≤ k_)) v0_ r ∧ Below w.heap.size w w' :=
  (vector_Scale.calls A0 c0 l0 a1 r w hr0 hc0 h).mono fun e w' ⟨v, he, hR, hb⟩ => ⟨v, he, V_of_R hR, hb⟩
end Go.Proofs.Ytpipmhofekfkgaa.Hand
