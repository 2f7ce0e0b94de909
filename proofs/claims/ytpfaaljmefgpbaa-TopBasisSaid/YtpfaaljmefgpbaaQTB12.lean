/- QTB, part 12: LD. -/
import Derived.Test.YtpfaaljmefgpbaaQTB6

section
namespace Go.Proofs.Ytpfaaljmefgpbaa.LA
open Go.Proofs.Ytpfaaljmefgpbaa.GF
def S : Nat → (Nat → G) → G | 0, _ => 0#8 | n + 1, f => S n f ^^^ f n
theorem S_congr {n : Nat} {f g : Nat → G} (h : ∀ i, i < n → f i = g i) : S n f = S n g := by
  induction n with
  | zero => rfl
  | succ n ih => simp only [S]; rw [ih (fun i hi => h i (by omega)), h n (by omega)]
theorem S_zero {n : Nat} {f : Nat → G} (h : ∀ i, i < n → f i = 0#8) : S n f = 0#8 := by
  induction n with
  | zero => rfl
  | succ n ih => simp only [S]; rw [ih (fun i hi => h i (by omega)), h n (by omega)]; simp
theorem S_add (n : Nat) (f g : Nat → G) : S n (fun i => f i ^^^ g i) = S n f ^^^ S n g := by
  induction n with
  | zero => simp [S]
  | succ n ih => simp only [S]; rw [ih]; ac_rfl
theorem S_mul (n : Nat) (c : G) (f : Nat → G) : mul c (S n f) = S n (fun i => mul c (f i)) := by
  induction n with
  | zero => simp [S, mul_zero]
  | succ n ih => simp only [S]; rw [mul_add, ih]
theorem S_comm (n m : Nat) (f : Nat → Nat → G) : S n (fun i => S m (fun j => f i j)) = S m (fun j => S n (fun i => f i j)) := by
  induction n with
  | zero => simp only [S]; exact (S_zero (fun _ _ => rfl)).symm
  | succ n ih => simp only [S]; rw [ih, ← S_add]
theorem S_one {n : Nat} {f : Nat → G} {i : Nat} (hi : i < n) (h : ∀ j, j < n → j ≠ i → f j = 0#8) : S n f = f i := by
  induction n with
  | zero => omega
  | succ n ih =>
    simp only [S]
    by_cases e : i = n
    · subst e; rw [S_zero (fun j hj => h j (by omega) (by omega))]; simp
    · rw [ih (by omega) (fun j hj => h j (by omega)), h n (by omega) (by omega)]; simp
theorem S_delta {n i : Nat} (hi : i < n) (f : Nat → G) : S n (fun j => mul (if j = i then 1#8 else 0#8) (f j)) = f i := by
  rw [S_one hi (fun j _ hj => by rw [if_neg hj, zero_mul])]
  simp [one_mul]
theorem S_append (n m : Nat) (f : Nat → G) : S (n + m) f = S n f ^^^ S m (fun i => f (n + i)) := by
  induction m with
  | zero => simp [S]
  | succ m ih => rw [← Nat.add_assoc]; simp only [S]; rw [ih]; ac_rfl
abbrev V := Nat → G
def vz : V := fun _ => 0#8
def va (u v : V) : V := fun k => u k ^^^ v k
def vs (c : G) (u : V) : V := fun k => mul c (u k)
theorem va_comm (u v : V) : va u v = va v u := funext fun _ => BitVec.xor_comm _ _
theorem va_assoc (u v w : V) : va (va u v) w = va u (va v w) := funext fun _ => BitVec.xor_assoc _ _ _
theorem va_self (u : V) : va u u = vz := funext fun _ => BitVec.xor_self
theorem va_zero (u : V) : va u vz = u := funext fun _ => BitVec.xor_zero
theorem va_cancel (u v : V) : va u (va u v) = v := funext fun _ => xor_cancel _ _
theorem vs_one (u : V) : vs 1#8 u = u := funext fun _ => one_mul _
theorem vs_vs (a b : G) (u : V) : vs a (vs b u) = vs (mul a b) u := funext fun _ => (mul_assoc _ _ _).symm
theorem vs_va (a : G) (u v : V) : vs a (va u v) = va (vs a u) (vs a v) := funext fun _ => mul_add _ _ _
inductive Sp (l : List V) : V → Prop
  | zero : Sp l vz
  | mem {v : V} : v ∈ l → Sp l v
  | add {u v : V} : Sp l u → Sp l v → Sp l (va u v)
  | smul {v : V} (c : G) : Sp l v → Sp l (vs c v)
theorem Sp.sub {l m : List V} (h : ∀ v, v ∈ l → Sp m v) {v : V} (hv : Sp l v) : Sp m v := by
  induction hv with
  | zero => exact .zero
  | mem hv => exact h _ hv
  | add _ _ h1 h2 => exact .add h1 h2
  | smul c _ h1 => exact .smul c h1
def SpEq (l m : List V) : Prop := ∀ v, Sp l v ↔ Sp m v
def SpLe (l m : List V) : Prop := ∀ v, Sp l v → Sp m v
theorem SpEq.refl (l : List V) : SpEq l l := fun _ => Iff.rfl
theorem SpEq.symm {l m : List V} (h : SpEq l m) : SpEq m l := fun v => (h v).symm
theorem SpEq.trans {l m n : List V} (h : SpEq l m) (k : SpEq m n) : SpEq l n := fun v => (h v).trans (k v)
theorem SpEq.le {l m : List V} (h : SpEq l m) : SpLe l m := fun v => (h v).1
theorem SpEq.ge {l m : List V} (h : SpEq l m) : SpLe m l := fun v => (h v).2
theorem SpLe.trans {l m n : List V} (h : SpLe l m) (k : SpLe m n) : SpLe l n := fun v hv => k v (h v hv)
theorem SpLe.eq {l m : List V} (h : SpLe l m) (k : SpLe m l) : SpEq l m := fun v => ⟨h v, k v⟩
theorem SpLe.of_mem {l m : List V} (h : ∀ v, v ∈ l → Sp m v) : SpLe l m := fun _ hv => hv.sub h
theorem SpLe.of_sub {l m : List V} (h : ∀ v, v ∈ l → v ∈ m) : SpLe l m := SpLe.of_mem fun v hv => .mem (h v hv)
theorem SpEq.of_mem {l m : List V} (h : ∀ v, v ∈ l → Sp m v) (k : ∀ v, v ∈ m → Sp l v) : SpEq l m := (SpLe.of_mem h).eq (SpLe.of_mem k)
theorem Sp.nil {v : V} (h : Sp [] v) : v = vz := by
  induction h with
  | zero => rfl
  | mem h => cases h
  | add _ _ h1 h2 => rw [h1, h2, va_zero]
  | smul c _ h1 => rw [h1]; exact funext fun _ => mul_zero _
theorem Sp.append {l m : List V} {v : V} : Sp (l ++ m) v ↔ ∃ a b, Sp l a ∧ Sp m b ∧ v = va a b := by
  constructor
  · intro h
    induction h with
    | zero => exact ⟨vz, vz, .zero, .zero, (va_zero _).symm⟩
    | @mem v hv =>
      rcases List.mem_append.1 hv with h | h
      · exact ⟨v, vz, .mem h, .zero, (va_zero _).symm⟩
      · exact ⟨vz, v, .zero, .mem h, by rw [va_comm, va_zero]⟩
    | add _ _ h1 h2 =>
      obtain ⟨a, b, ha, hb, rfl⟩ := h1
      obtain ⟨c, d, hc, hd, rfl⟩ := h2
      exact ⟨va a c, va b d, .add ha hc, .add hb hd, funext fun k => by simp only [va]; ac_rfl⟩
    | smul c _ h1 =>
      obtain ⟨a, b, ha, hb, rfl⟩ := h1
      exact ⟨vs c a, vs c b, .smul c ha, .smul c hb, vs_va _ _ _⟩
  · rintro ⟨a, b, ha, hb, rfl⟩
    exact .add (ha.sub fun v hv => .mem (List.mem_append_left _ hv)) (hb.sub fun v hv => .mem (List.mem_append_right _ hv))
theorem SpLe.append {l m n : List V} (h : SpLe l n) (k : SpLe m n) : SpLe (l ++ m) n :=
  SpLe.of_mem fun v hv => (List.mem_append.1 hv).elim (fun h' => h v (.mem h')) (fun h' => k v (.mem h'))
theorem SpLe.left (l m : List V) : SpLe l (l ++ m) := SpLe.of_sub fun _ h => List.mem_append_left _ h
theorem SpLe.right (l m : List V) : SpLe m (l ++ m) := SpLe.of_sub fun _ h => List.mem_append_right _ h
theorem SpEq.append {l l' m m' : List V} (h : SpEq l l') (k : SpEq m m') : SpEq (l ++ m) (l' ++ m') :=
  (SpLe.append (h.le.trans (SpLe.left _ _)) (k.le.trans (SpLe.right _ _))).eq (SpLe.append (h.ge.trans (SpLe.left _ _)) (k.ge.trans (SpLe.right _ _)))
def row (l : List V) (i : Nat) : V := l.getD i vz
def comb (l : List V) (c : Nat → G) : V := fun k => S l.length (fun j => mul (c j) (row l j k))
theorem row_mem {l : List V} {i : Nat} (h : i < l.length) : row l i ∈ l := by
  unfold row
  rw [List.getD_eq_getElem?_getD, List.getElem?_eq_getElem h]
  exact List.getElem_mem h
theorem mem_row {l : List V} {v : V} (h : v ∈ l) : ∃ i, i < l.length ∧ row l i = v := by
  obtain ⟨i, hi, e⟩ := List.getElem_of_mem h
  exact ⟨i, hi, by unfold row; rw [List.getD_eq_getElem?_getD, List.getElem?_eq_getElem hi]; exact e⟩
theorem sp_sum {l : List V} (n : Nat) (f : Nat → V) (h : ∀ i, i < n → Sp l (f i)) : Sp l (fun k => S n (fun i => f i k)) := by
  induction n with
  | zero => exact .zero
  | succ n ih => exact .add (ih (fun i hi => h i (by omega))) (h n (by omega))
theorem comb_sp (l : List V) (c : Nat → G) : Sp l (comb l c) := sp_sum l.length (fun j => vs (c j) (row l j)) fun _ hi => .smul _ (.mem (row_mem hi))
theorem sp_comb {l : List V} {v : V} (h : Sp l v) : ∃ c, v = comb l c := by
  induction h with
  | zero => exact ⟨fun _ => 0#8, funext fun k => (S_zero (fun _ _ => zero_mul _)).symm⟩
  | mem hv =>
    obtain ⟨i, hi, rfl⟩ := mem_row hv
    exact ⟨fun j => if j = i then 1#8 else 0#8, funext fun k => (S_delta hi (fun j => row l j k)).symm⟩
  | add _ _ h1 h2 =>
    obtain ⟨c, rfl⟩ := h1
    obtain ⟨d, rfl⟩ := h2
    exact ⟨fun j => c j ^^^ d j, funext fun k => by simp only [va, comb]; rw [← S_add]; exact S_congr fun i _ => (add_mul _ _ _).symm⟩
  | smul a _ h1 =>
    obtain ⟨c, rfl⟩ := h1
    exact ⟨fun j => mul a (c j), funext fun k => by simp only [vs, comb]; rw [S_mul]; exact S_congr fun i _ => (mul_assoc _ _ _).symm⟩
structure Red (r : List V) (p : List Nat) : Prop where
  len : r.length = p.length
  inc : p.Pairwise (· < ·)
  one : ∀ i j, i < r.length → j < r.length → row r i (p.getD j 0) = if i = j then 1#8 else 0#8
  low : ∀ i, i < r.length → ∀ k, k < p.getD i 0 → row r i k = 0#8
theorem pget {p : List Nat} (h : p.Pairwise (· < ·)) {i j : Nat} (hij : i < j) (hj : j < p.length) : p.getD i 0 < p.getD j 0 := by
  rw [List.getD_eq_getElem?_getD, List.getD_eq_getElem?_getD, List.getElem?_eq_getElem hj, List.getElem?_eq_getElem (Nat.lt_trans hij hj)]
  exact List.pairwise_iff_getElem.1 h i j (Nat.lt_trans hij hj) hj hij
theorem pget_mem {p : List Nat} {i : Nat} (h : i < p.length) : p.getD i 0 ∈ p := by
  rw [List.getD_eq_getElem?_getD, List.getElem?_eq_getElem h]; exact List.getElem_mem h
theorem mem_pget {p : List Nat} {x : Nat} (h : x ∈ p) : ∃ i, i < p.length ∧ p.getD i 0 = x := by
  obtain ⟨i, hi, e⟩ := List.getElem_of_mem h
  exact ⟨i, hi, by rw [List.getD_eq_getElem?_getD, List.getElem?_eq_getElem hi]; exact e⟩
theorem Red.coord {r : List V} {p : List Nat} (h : Red r p) {v : V} (hv : Sp r v) : v = comb r (fun j => v (p.getD j 0)) := by
  obtain ⟨c, rfl⟩ := sp_comb hv
  refine funext fun k => S_congr fun j hj => ?_
  show mul (c j) _ = mul (S r.length fun i => mul (c i) (row r i (p.getD j 0))) _
  rw [S_one hj (fun i hi hij => by rw [h.one i j hi hj, if_neg hij, mul_zero]), h.one j j hj hj, if_pos rfl, mul_one]
def Lead (v : V) (k : Nat) : Prop := v k ≠ 0#8 ∧ ∀ i, i < k → v i = 0#8
theorem Lead.unique {v : V} {a b : Nat} (h : Lead v a) (k : Lead v b) : a = b := by
  rcases Nat.lt_trichotomy a b with l | l | l
  · exact absurd (k.2 a l) h.1
  · exact l
  · exact absurd (h.2 b l) k.1
theorem least (p : Nat → Prop) (n : Nat) (h : p n) : ∃ m, m ≤ n ∧ p m ∧ ∀ i, i < m → ¬ p i := by
  induction n using Nat.strongRecOn with
  | _ n ih =>
    by_cases e : ∃ i, i < n ∧ p i
    · obtain ⟨i, hi, hp⟩ := e
      obtain ⟨m, hm, h1, h2⟩ := ih i hi hp
      exact ⟨m, by omega, h1, h2⟩
    · exact ⟨n, Nat.le_refl _, h, fun i hi hp => e ⟨i, hi, hp⟩⟩
theorem Red.lead_row {r : List V} {p : List Nat} (h : Red r p) {i : Nat} (hi : i < r.length) : Lead (row r i) (p.getD i 0) :=
  ⟨by rw [h.one i i hi hi, if_pos rfl]; decide, h.low i hi⟩
theorem Red.lead {r : List V} {p : List Nat} (h : Red r p) {v : V} (hv : Sp r v) {k : Nat} (hk : Lead v k) : ∃ i, i < r.length ∧ p.getD i 0 = k := by
  have hc := h.coord hv
  by_cases e : ∃ j, j < r.length ∧ v (p.getD j 0) ≠ 0#8
  · obtain ⟨j, hj, hne⟩ := e
    obtain ⟨m, hm, ⟨hml, h1⟩, h2⟩ := least (fun j => j < r.length ∧ v (p.getD j 0) ≠ 0#8) j ⟨hj, hne⟩
    refine ⟨m, hml, Lead.unique ⟨h1, fun i hi => ?_⟩ hk⟩
    rw [hc]
    refine S_zero fun j' hj' => ?_
    by_cases l : j' < m
    · have : v (p.getD j' 0) = 0#8 := Classical.byContradiction fun hn => h2 j' l ⟨hj', hn⟩
      show mul (v (p.getD j' 0)) _ = _
      rw [this, zero_mul]
    · have hp : p.getD m 0 ≤ p.getD j' 0 := by
        rcases Nat.lt_or_eq_of_le (Nat.le_of_not_lt l) with q | q
        · exact Nat.le_of_lt (pget h.inc q (by rw [← h.len]; exact hj'))
        · rw [q]; exact Nat.le_refl _
      rw [h.low j' hj' i (by omega), mul_zero]
  · have : v = vz := by
      rw [hc]
      exact funext fun k => S_zero fun j hj => by
        have : v (p.getD j 0) = 0#8 := Classical.byContradiction fun hn => e ⟨j, hj, hn⟩
        show mul (v (p.getD j 0)) _ = _
        rw [this, zero_mul]
    exact absurd (by rw [this]; rfl) hk.1
theorem sorted_ext : ∀ {p q : List Nat}, p.Pairwise (· < ·) → q.Pairwise (· < ·) → (∀ x, x ∈ p ↔ x ∈ q) → p = q
  | [], [], _, _, _ => rfl
  | [], b :: q, _, _, h => by have := (h b).2 (List.mem_cons_self ..); cases this
  | a :: p, [], _, _, h => by have := (h a).1 (List.mem_cons_self ..); cases this
  | a :: p, b :: q, hp, hq, h => by
    have hp' := List.pairwise_cons.1 hp
    have hq' := List.pairwise_cons.1 hq
    have e : a = b := by
      have h1 := (h a).1 (List.mem_cons_self ..)
      have h2 := (h b).2 (List.mem_cons_self ..)
      rcases List.mem_cons.1 h1 with h1 | h1
      · exact h1
      rcases List.mem_cons.1 h2 with h2 | h2
      · exact h2.symm
      have := hq'.1 a h1
      have := hp'.1 b h2
      omega
    subst e
    rw [sorted_ext hp'.2 hq'.2 fun x => ?_]
    constructor
    · intro hx
      rcases List.mem_cons.1 ((h x).1 (List.mem_cons_of_mem _ hx)) with e | e
      · have := hp'.1 x hx; omega
      · exact e
    · intro hx
      rcases List.mem_cons.1 ((h x).2 (List.mem_cons_of_mem _ hx)) with e | e
      · have := hq'.1 x hx; omega
      · exact e
theorem sorted_le : ∀ {p q : List Nat}, p.Pairwise (· < ·) → q.Pairwise (· < ·) → (∀ x, x ∈ p → x ∈ q) → p.length ≤ q.length
  | [], _, _, _, _ => Nat.zero_le _
  | a :: p, [], _, _, h => by have := h a (List.mem_cons_self ..); cases this
  | a :: p, b :: q, hp, hq, h => by
    have hp' := List.pairwise_cons.1 hp
    have hq' := List.pairwise_cons.1 hq
    by_cases e : a = b
    · subst e
      have := sorted_le hp'.2 hq'.2 fun x hx => by
        rcases List.mem_cons.1 (h x (List.mem_cons_of_mem _ hx)) with e | e
        · have := hp'.1 x hx; omega
        · exact e
      simp only [List.length_cons]; omega
    · have ha : a ∈ q := by
        rcases List.mem_cons.1 (h a (List.mem_cons_self ..)) with h1 | h1
        · exact absurd h1 e
        · exact h1
      have hb := hq'.1 a ha
      have := sorted_le hp hq'.2 fun x hx => by
        rcases List.mem_cons.1 (h x hx) with e' | e'
        · rcases List.mem_cons.1 hx with e2 | e2
          · omega
          · have := hp'.1 x e2; omega
        · exact e'
      simp only [List.length_cons] at *; omega
termination_by p q => p.length + q.length
theorem Red.places_sub {r s : List V} {p q : List Nat} (h : Red r p) (k : Red s q) (hl : SpLe r s) : ∀ x, x ∈ p → x ∈ q := by
  intro x hx
  obtain ⟨i, hi, rfl⟩ := mem_pget hx
  have hi' : i < r.length := by rw [h.len]; exact hi
  obtain ⟨j, hj, e⟩ := k.lead (hl _ (.mem (row_mem hi'))) (h.lead_row hi')
  rw [← e]; exact pget_mem (by rw [← k.len]; exact hj)
theorem Red.le {r s : List V} {p q : List Nat} (h : Red r p) (k : Red s q) (hl : SpLe r s) : r.length ≤ s.length := by
  rw [h.len, k.len]; exact sorted_le h.inc k.inc (h.places_sub k hl)
theorem Red.places {r s : List V} {p q : List Nat} (h : Red r p) (k : Red s q) (he : SpEq r s) : p = q :=
  sorted_ext h.inc k.inc fun x => ⟨h.places_sub k he.le x, k.places_sub h he.ge x⟩
theorem Red.unique {r s : List V} {p q : List Nat} (h : Red r p) (k : Red s q) (he : SpEq r s) : r = s := by
  have e := h.places k he
  subst e
  have hl : r.length = s.length := by rw [h.len, k.len]
  have hrow : ∀ i, i < r.length → row r i = row s i := by
    intro i hi
    have hi' : i < s.length := by omega
    have hc := k.coord ((he _).1 (.mem (row_mem hi)))
    rw [hc]
    refine funext fun x => ?_
    show S s.length _ = _
    rw [S_congr (g := fun j => mul (if j = i then 1#8 else 0#8) (row s j x)) (fun j hj => ?_)]
    · exact S_delta hi' (fun j => row s j x)
    · show mul (row r i (p.getD j 0)) _ = _
      rw [h.one i j hi (by omega)]
      by_cases e : i = j
      · rw [if_pos e, if_pos e.symm]
      · rw [if_neg e, if_neg (fun h => e h.symm)]
  refine List.ext_getElem hl fun i h1 h2 => ?_
  have := hrow i h1
  unfold row at this
  rwa [List.getD_eq_getElem?_getD, List.getD_eq_getElem?_getD, List.getElem?_eq_getElem h1, List.getElem?_eq_getElem h2] at this
theorem Red.eq_of_le {r s : List V} {p q : List Nat} (h : Red r p) (k : Red s q) (hl : SpLe r s) (hn : s.length ≤ r.length) : SpEq r s := by
  refine hl.eq fun v hv => ?_
  have hpq : p = q := by
    have hsub := h.places_sub k hl
    have hlen : q.length ≤ p.length := by rw [← h.len, ← k.len]; exact hn
    clear hl hv v hn
    have key : ∀ (p q : List Nat), p.Pairwise (· < ·) → q.Pairwise (· < ·) → (∀ x, x ∈ p → x ∈ q) → q.length ≤ p.length → p = q := by
      intro p
      induction p with
      | nil => intro q _ _ _ hn; exact (List.length_eq_zero_iff.1 (by simpa using hn)).symm
      | cons a p ih =>
        intro q hp hq hs hn
        cases q with
        | nil => exact absurd (hs a (List.mem_cons_self ..)) List.not_mem_nil
        | cons b q =>
          have hp' := List.pairwise_cons.1 hp
          have hq' := List.pairwise_cons.1 hq
          by_cases e : a = b
          · subst e
            rw [ih q hp'.2 hq'.2 (fun x hx => by
              rcases List.mem_cons.1 (hs x (List.mem_cons_of_mem _ hx)) with e | e
              · have := hp'.1 x hx; omega
              · exact e) (by simpa using hn)]
          · exfalso
            have ha : a ∈ q := by
              rcases List.mem_cons.1 (hs a (List.mem_cons_self ..)) with h1 | h1
              · exact absurd h1 e
              · exact h1
            have hb := hq'.1 a ha
            have := sorted_le hp hq'.2 fun x hx => by
              rcases List.mem_cons.1 (hs x hx) with e' | e'
              · rcases List.mem_cons.1 hx with e2 | e2
                · omega
                · have := hp'.1 x e2; omega
              · exact e'
            simp only [List.length_cons] at *; omega
    exact key p q h.inc k.inc hsub hlen
  subst hpq
  -- v less its coordinates on r has no lead
  have hr : Sp s (comb r (fun j => v (p.getD j 0))) := hl _ (comb_sp _ _)
  have hd : Sp s (va v (comb r (fun j => v (p.getD j 0)))) := .add hv hr
  have hz : va v (comb r (fun j => v (p.getD j 0))) = vz := by
    rw [k.coord hd]
    refine funext fun x => S_zero fun j hj => ?_
    have hj' : j < r.length := by rw [h.len, ← k.len]; exact hj
    have : va v (comb r (fun j => v (p.getD j 0))) (p.getD j 0) = 0#8 := by
      show v _ ^^^ S r.length _ = 0#8
      rw [S_one hj' (fun i hi hij => by rw [h.one i j hi hj', if_neg hij, mul_zero]), h.one j j hj' hj', if_pos rfl, mul_one, BitVec.xor_self]
    show mul (va v (comb r (fun j => v (p.getD j 0))) (p.getD j 0)) _ = _
    rw [this, zero_mul]
  have : v = comb r (fun j => v (p.getD j 0)) := by
    have := congrArg (va (comb r (fun j => v (p.getD j 0)))) hz
    rw [va_comm v, va_cancel, va_zero] at this
    exact this
  rw [this]; exact comb_sp _ _
end Go.Proofs.Ytpfaaljmefgpbaa.LA
namespace Go.Proofs.Ytpfaaljmefgpbaa.LA
open Go.Proofs.Ytpfaaljmefgpbaa.GF
def Supp (n : Nat) (v : V) : Prop := ∀ k, n ≤ k → v k = 0#8
def AllSupp (n : Nat) (l : List V) : Prop := ∀ v, v ∈ l → Supp n v
theorem Supp.zero (n : Nat) : Supp n vz := fun _ _ => rfl
theorem Supp.add {n : Nat} {u v : V} (h : Supp n u) (k : Supp n v) : Supp n (va u v) := fun i hi => by simp only [va]; rw [h i hi, k i hi]; simp
theorem Supp.smul {n : Nat} {v : V} (c : G) (h : Supp n v) : Supp n (vs c v) := fun i hi => by simp only [vs]; rw [h i hi, mul_zero]
theorem Sp.supp {n : Nat} {l : List V} (h : AllSupp n l) {v : V} (hv : Sp l v) : Supp n v := by
  induction hv with
  | zero => exact .zero n
  | mem hv => exact h _ hv
  | add _ _ h1 h2 => exact h1.add h2
  | smul c _ h1 => exact h1.smul c
theorem AllSupp.append {n : Nat} {l m : List V} (h : AllSupp n l) (k : AllSupp n m) : AllSupp n (l ++ m) :=
  fun v hv => (List.mem_append.1 hv).elim (h v) (k v)
theorem AllSupp.of_le {n : Nat} {l m : List V} (h : AllSupp n l) (k : SpLe m l) : AllSupp n m := fun _ hv => Sp.supp h (k _ (.mem hv))
theorem row_map {f : Nat → V} {n i : Nat} (h : i < n) : row ((List.range n).map f) i = f i := by
  unfold row
  rw [List.getD_eq_getElem?_getD, List.getElem?_map, List.getElem?_range h]; rfl
structure Inv (rows : List V) (d k : Nat) (p : List Nat) : Prop where
  len : d = p.length
  dle : d ≤ rows.length
  inc : p.Pairwise (· < ·)
  lt : ∀ x, x ∈ p → x < k
  one : ∀ i j, i < rows.length → j < d → row rows i (p.getD j 0) = if i = j then 1#8 else 0#8
  low : ∀ i, i < d → ∀ x, x < p.getD i 0 → row rows i x = 0#8
  rest : ∀ i, d ≤ i → i < rows.length → ∀ x, x < k → row rows i x = 0#8
theorem Inv.start (rows : List V) : Inv rows 0 0 [] :=
  ⟨rfl, Nat.zero_le _, List.Pairwise.nil, fun _ h => by simp at h, fun _ _ _ h => by omega, fun _ h => by omega, fun _ _ _ x hx => by omega⟩
theorem Inv.pass {rows : List V} {d k : Nat} {p : List Nat} (h : Inv rows d k p) (hn : ∀ i, d ≤ i → i < rows.length → row rows i k = 0#8) : Inv rows d (k + 1) p :=
  ⟨h.len, h.dle, h.inc, fun x hx => Nat.lt_succ_of_lt (h.lt x hx), h.one, h.low, fun i h1 h2 x hx => by
    rcases Nat.lt_succ_iff_lt_or_eq.1 hx with q | q
    · exact h.rest i h1 h2 x q
    · rw [q]; exact hn i h1 h2⟩
def pivot (rows : List V) (i k : Nat) : V := vs (inv (row rows i k)) (row rows i)
def swapped (rows : List V) (d i j : Nat) : V := if j = i then row rows d else row rows j
def step (rows : List V) (d i k : Nat) : List V :=
  (List.range rows.length).map fun j => if j = d then pivot rows i k else va (swapped rows d i j) (vs (swapped rows d i j k) (pivot rows i k))
theorem step_length (rows : List V) (d i k : Nat) : (step rows d i k).length = rows.length := by simp [step]
theorem step_row {rows : List V} {d i k j : Nat} (h : j < rows.length) : row (step rows d i k) j = if j = d then pivot rows i k else va (swapped rows d i j) (vs (swapped rows d i j k) (pivot rows i k)) := by
  unfold step; rw [row_map h]
theorem inv_mul (a : G) (h : a ≠ 0#8) : mul (inv a) a = 1#8 := by rw [mul_comm]; exact mul_inv a h
theorem step_span {rows : List V} {d i k : Nat} (hd : d < rows.length) (hi : i < rows.length) (hne : row rows i k ≠ 0#8) : SpEq rows (step rows d i k) := by
  have hp : Sp rows (pivot rows i k) := .smul _ (.mem (row_mem hi))
  have hsw : ∀ j, j < rows.length → Sp rows (swapped rows d i j) := fun j hj => by
    unfold swapped; split
    · exact .mem (row_mem hd)
    · exact .mem (row_mem hj)
  refine .of_mem (fun v hv => ?_) (fun v hv => ?_)
  · obtain ⟨j, hj, rfl⟩ := mem_row hv
    have hpn : Sp (step rows d i k) (pivot rows i k) := by
      have : row (step rows d i k) d = pivot rows i k := by rw [step_row hd, if_pos rfl]
      rw [← this]; exact .mem (row_mem (by rw [step_length]; exact hd))
    have back : ∀ j, j < rows.length → j ≠ d → Sp (step rows d i k) (swapped rows d i j) := by
      intro j hj hjd
      have e : swapped rows d i j = va (row (step rows d i k) j) (vs (swapped rows d i j k) (pivot rows i k)) := by
        rw [step_row hj, if_neg hjd, va_assoc, va_self, va_zero]
      rw [e]; exact .add (.mem (row_mem (by rw [step_length]; exact hj))) (.smul _ hpn)
    by_cases e : j = i
    · subst e
      have : row rows j = vs (row rows j k) (pivot rows j k) := by
        unfold pivot; rw [vs_vs, mul_inv _ hne, vs_one]
      rw [this]; exact .smul _ hpn
    · by_cases e2 : j = d
      · subst e2
        have := back i hi (fun h => e h.symm)
        unfold swapped at this; rwa [if_pos rfl] at this
      · have := back j hj e2
        unfold swapped at this; rwa [if_neg e] at this
  · obtain ⟨j, hj, rfl⟩ := mem_row hv
    rw [step_length] at hj
    rw [step_row hj]
    split
    · exact hp
    · exact .add (hsw j hj) (.smul _ hp)
theorem Inv.step {rows : List V} {d k i : Nat} {p : List Nat} (h : Inv rows d k p) (hdi : d ≤ i) (hi : i < rows.length) (hne : row rows i k ≠ 0#8) : Inv (LA.step rows d i k) (d + 1) (k + 1) (p ++ [k]) := by
  have hd : d < rows.length := by omega
  -- rows at or behind d, exchanged or not
  have hsw : ∀ j, d ≤ j → j < rows.length → ∃ j', d ≤ j' ∧ j' < rows.length ∧ swapped rows d i j = row rows j' := fun j h1 h2 => by
    unfold swapped; split
    · exact ⟨d, Nat.le_refl _, hd, rfl⟩
    · exact ⟨j, h1, h2, rfl⟩
  have hlow : ∀ x, x < k → pivot rows i k x = 0#8 := fun x hx => by
    show mul _ (row rows i x) = _; rw [h.rest i hdi hi x hx, mul_zero]
  have hk : pivot rows i k k = 1#8 := by show mul _ (row rows i k) = _; exact inv_mul _ hne
  have hpiv : ∀ j, j < d → pivot rows i k (p.getD j 0) = 0#8 := fun j hj => hlow _ (h.lt _ (pget_mem (by rw [← h.len]; exact hj)))
  have hpl : ∀ j, j < d → (p ++ [k]).getD j 0 = p.getD j 0 := fun j hj => by
    rw [List.getD_eq_getElem?_getD, List.getD_eq_getElem?_getD, List.getElem?_append_left (by rw [← h.len]; exact hj)]
  have hpk : (p ++ [k]).getD d 0 = k := by
    rw [List.getD_eq_getElem?_getD, h.len, List.getElem?_append_right (Nat.le_refl _)]; simp
  refine ⟨by simp [h.len], by rw [step_length]; omega, ?_, ?_, ?_, ?_, ?_⟩
  · rw [List.pairwise_append]
    refine ⟨h.inc, List.pairwise_singleton _ _, fun a ha b hb => ?_⟩
    simp only [List.mem_singleton] at hb; subst hb; exact h.lt a ha
  · intro x hx
    rcases List.mem_append.1 hx with q | q
    · have := h.lt x q; omega
    · simp only [List.mem_singleton] at q; omega
  · intro a j ha hj
    rw [step_length] at ha
    rw [step_row ha]
    rcases Nat.lt_succ_iff_lt_or_eq.1 hj with q | q
    · rw [hpl j q]
      by_cases e : a = d
      · rw [if_pos e, hpiv j q, if_neg (by omega)]
      · rw [if_neg e]
        show _ ^^^ mul _ (pivot rows i k _) = _
        rw [hpiv j q, mul_zero, BitVec.xor_zero]
        unfold swapped
        by_cases e2 : a = i
        · rw [if_pos e2, h.one d j hd q, if_neg (by omega), if_neg (by omega)]
        · rw [if_neg e2, h.one a j ha q]
    · subst q
      rw [hpk]
      by_cases e : a = j
      · rw [if_pos e, if_pos e, hk]
      · rw [if_neg e, if_neg e]
        show _ ^^^ mul _ (pivot rows i k k) = _
        rw [hk, mul_one, BitVec.xor_self]
  · intro a ha x hx
    rw [step_row (by omega)]
    rcases Nat.lt_succ_iff_lt_or_eq.1 ha with q | q
    · rw [hpl a q] at hx
      have hxk : x < k := Nat.lt_trans hx (h.lt _ (pget_mem (by rw [← h.len]; exact q)))
      rw [if_neg (by omega)]
      show _ ^^^ mul _ (pivot rows i k x) = _
      rw [hlow x hxk, mul_zero, BitVec.xor_zero]
      unfold swapped; rw [if_neg (by omega)]; exact h.low a q x hx
    · subst q; rw [hpk] at hx; rw [if_pos rfl]; exact hlow x hx
  · intro a h1 h2 x hx
    rw [step_length] at h2
    rw [step_row h2, if_neg (by omega)]
    obtain ⟨j', hj1, hj2, e⟩ := hsw a (by omega) h2
    show _ ^^^ mul (swapped rows d i a k) (pivot rows i k x) = _
    rcases Nat.lt_succ_iff_lt_or_eq.1 hx with q | q
    · rw [hlow x q, mul_zero, e, h.rest j' hj1 hj2 x q, BitVec.xor_zero]
    · subst q; rw [hk, mul_one, BitVec.xor_self]
theorem row_take {l : List V} {d i : Nat} (h : i < d) : row (l.take d) i = row l i := by
  unfold row; rw [List.getD_eq_getElem?_getD, List.getD_eq_getElem?_getD, List.getElem?_take_of_lt h]
theorem Inv.red {rows : List V} {d k : Nat} {p : List Nat} (h : Inv rows d k p) : Red (rows.take d) p := by
  have hl : (rows.take d).length = d := by rw [List.length_take]; have := h.dle; omega
  exact ⟨by rw [hl, h.len], h.inc, fun i j hi hj => by rw [hl] at hi hj; rw [row_take hi]; exact h.one i j (by have := h.dle; omega) hj,
    fun i hi x hx => by rw [hl] at hi; rw [row_take hi]; exact h.low i hi x hx⟩
theorem Inv.span {rows : List V} {d k : Nat} {p : List Nat} (h : Inv rows d k p) (hs : AllSupp k rows) : SpEq rows (rows.take d) := by
  refine .of_mem (fun v hv => ?_) (fun v hv => .mem (List.mem_of_mem_take hv))
  obtain ⟨j, hj, rfl⟩ := mem_row hv
  by_cases e : j < d
  · rw [← row_take e]; exact .mem (row_mem (by rw [List.length_take]; omega))
  · have : row rows j = vz := funext fun x => by
      by_cases q : x < k
      · exact h.rest j (by omega) hj x q
      · exact hs _ hv x (by omega)
    rw [this]; exact .zero
theorem exists_inv (rows : List V) (k : Nat) : ∃ rows' d p, Inv rows' d k p ∧ SpEq rows rows' ∧ rows'.length = rows.length := by
  induction k with
  | zero => exact ⟨rows, 0, [], .start rows, .refl _, rfl⟩
  | succ k ih =>
    obtain ⟨r, d, p, h, hs, hl⟩ := ih
    by_cases e : ∃ i, d ≤ i ∧ i < r.length ∧ row r i k ≠ 0#8
    · obtain ⟨i, h1, h2, h3⟩ := e
      exact ⟨step r d i k, d + 1, p ++ [k], h.step h1 h2 h3, hs.trans (step_span (by omega) h2 h3), by rw [step_length, hl]⟩
    · refine ⟨r, d, p, h.pass fun i h1 h2 => Classical.byContradiction fun h3 => e ⟨i, h1, h2, h3⟩, hs, hl⟩
theorem exists_red (n : Nat) (l : List V) (h : AllSupp n l) : ∃ r p, Red r p ∧ SpEq l r ∧ r.length ≤ l.length := by
  obtain ⟨rows, d, p, hi, hs, hl⟩ := exists_inv l n
  exact ⟨rows.take d, p, hi.red, hs.trans (hi.span (h.of_le hs.ge)), by rw [List.length_take]; omega⟩
theorem Red.lt {n : Nat} {r : List V} {p : List Nat} (h : Red r p) (hs : AllSupp n r) : ∀ x, x ∈ p → x < n := by
  intro x hx
  obtain ⟨i, hi, rfl⟩ := mem_pget hx
  have hi' : i < r.length := by rw [h.len]; exact hi
  refine Nat.lt_of_not_le fun hle => ?_
  have := hs _ (row_mem hi') _ hle
  rw [h.one i i hi' hi', if_pos rfl] at this
  exact absurd this (by decide)
theorem sorted_bound : ∀ {p : List Nat} {n : Nat}, p.Pairwise (· < ·) → (∀ x, x ∈ p → x < n) → p.length ≤ n := by
  intro p n hp h
  have := sorted_le hp (List.pairwise_lt_range (n := n)) fun x hx => List.mem_range.2 (h x hx)
  simpa using this
theorem Red.le_cols {n : Nat} {r : List V} {p : List Nat} (h : Red r p) (hs : AllSupp n r) : r.length ≤ n := by
  rw [h.len]; exact sorted_bound h.inc (h.lt hs)
noncomputable def rk (n : Nat) (l : List V) : Nat := open Classical in if h : AllSupp n l then (exists_red n l h).choose.length else 0
theorem rk_eq {n : Nat} {l r : List V} {p : List Nat} (hs : AllSupp n l) (h : Red r p) (he : SpEq l r) : rk n l = r.length := by
  unfold rk; rw [dif_pos hs]
  obtain ⟨q, h2, he2, _⟩ := (exists_red n l hs).choose_spec
  exact Nat.le_antisymm (h2.le h (he2.symm.trans he).le) (h.le h2 (he.symm.trans he2).le)
theorem rk_mono {n : Nat} {l m : List V} (hm : AllSupp n m) (h : SpLe l m) : rk n l ≤ rk n m := by
  obtain ⟨r, p, hr, e, _⟩ := exists_red n m hm
  have hl := hm.of_le h
  obtain ⟨s, q, hs, e2, _⟩ := exists_red n l hl
  rw [rk_eq hm hr e, rk_eq hl hs e2]
  exact hs.le hr ((e2.ge.trans h).trans e.le)
theorem rk_congr {n : Nat} {l m : List V} (hm : AllSupp n m) (h : SpEq l m) : rk n l = rk n m :=
  Nat.le_antisymm (rk_mono hm h.le) (rk_mono (hm.of_le h.le) h.ge)
theorem rk_le_length {n : Nat} {l : List V} (hs : AllSupp n l) : rk n l ≤ l.length := by
  obtain ⟨r, p, hr, e, hl⟩ := exists_red n l hs
  rw [rk_eq hs hr e]; exact hl
theorem rk_le_cols {n : Nat} {l : List V} (hs : AllSupp n l) : rk n l ≤ n := by
  obtain ⟨r, p, hr, e, _⟩ := exists_red n l hs
  rw [rk_eq hs hr e]; exact hr.le_cols (hs.of_le e.ge)
theorem eq_of_rk {n : Nat} {l m : List V} (hm : AllSupp n m) (h : SpLe l m) (hr : rk n m ≤ rk n l) : SpEq l m := by
  obtain ⟨r, p, hr', e, _⟩ := exists_red n m hm
  have hl := hm.of_le h
  obtain ⟨s, q, hs, e2, _⟩ := exists_red n l hl
  rw [rk_eq hm hr' e, rk_eq hl hs e2] at hr
  exact (e2.trans (hs.eq_of_le hr' ((e2.ge.trans h).trans e.le) hr)).trans e.symm
end Go.Proofs.Ytpfaaljmefgpbaa.LA
namespace Go.Proofs.Ytpfaaljmefgpbaa.LA
open Go.Proofs.Ytpfaaljmefgpbaa.GF
def cat (n : Nat) (u v : V) : V := fun k => if k < n then u k else v (k - n)
def hi (n : Nat) (v : V) : V := fun k => v (n + k)
def lo (n : Nat) (v : V) : V := fun k => if k < n then v k else 0#8
theorem hi_cat (n : Nat) (a b : V) : hi n (cat n a b) = b := funext fun k => by
  simp only [hi, cat]; rw [if_neg (by omega)]; exact congrArg b (by omega)
theorem lo_cat {n : Nat} {a : V} (h : Supp n a) (b : V) : lo n (cat n a b) = a := funext fun k => by
  simp only [lo, cat]; split
  · rfl
  · exact (h k (by omega)).symm
theorem lo_va (n : Nat) (a b : V) : lo n (va a b) = va (lo n a) (lo n b) := funext fun k => by simp only [lo, va]; split <;> simp
theorem lo_vs (n : Nat) (x : G) (a : V) : lo n (vs x a) = vs x (lo n a) := funext fun k => by simp only [lo, vs]; split <;> simp [mul_zero]
theorem hi_va (n : Nat) (a b : V) : hi n (va a b) = va (hi n a) (hi n b) := rfl
theorem hi_vs (n : Nat) (x : G) (a : V) : hi n (vs x a) = vs x (hi n a) := rfl
theorem Supp.cat {n : Nat} {a b : V} (hb : Supp n b) : Supp (n + n) (cat n a b) := fun k hk => by
  simp only [LA.cat]; rw [if_neg (by omega)]; exact hb _ (by omega)
theorem Supp.lo (n : Nat) (v : V) : Supp n (lo n v) := fun k hk => by simp only [LA.lo]; rw [if_neg (by omega)]
theorem Supp.hi {n : Nat} {v : V} (h : Supp (n + n) v) : Supp n (hi n v) := fun k hk => h _ (by omega)
structure Lin (f : V → V) : Prop where
  zero : f vz = vz
  add : ∀ u v, f (va u v) = va (f u) (f v)
  smul : ∀ c v, f (vs c v) = vs c (f v)
theorem Lin.map {f : V → V} (h : Lin f) {l : List V} {v : V} (hv : Sp l v) : Sp (l.map f) (f v) := by
  induction hv with
  | zero => rw [h.zero]; exact .zero
  | mem hv => exact .mem (List.mem_map.2 ⟨_, hv, rfl⟩)
  | add _ _ h1 h2 => rw [h.add]; exact .add h1 h2
  | smul c _ h1 => rw [h.smul]; exact .smul c h1
theorem lin_hi (n : Nat) : Lin (hi n) := ⟨rfl, fun _ _ => rfl, fun _ _ => rfl⟩
theorem Red.split {r : List V} {p : List Nat} (h : Red r p) (n : Nat) : ∃ d, d ≤ r.length ∧ (∀ i, i < d → p.getD i 0 < n) ∧ (∀ i, d ≤ i → i < r.length → n ≤ p.getD i 0) := by
  by_cases e : ∃ i, i < r.length ∧ n ≤ p.getD i 0
  · obtain ⟨i, hi⟩ := e
    obtain ⟨m, _, ⟨hm1, hm2⟩, hm⟩ := least (fun i => i < r.length ∧ n ≤ p.getD i 0) i hi
    refine ⟨m, Nat.le_of_lt hm1, fun j hj => Nat.lt_of_not_le fun hle => hm j hj ⟨by omega, hle⟩, fun j h1 h2 => ?_⟩
    rcases Nat.lt_or_eq_of_le h1 with q | q
    · have := pget h.inc q (by rw [← h.len]; exact h2); omega
    · rw [← q]; exact hm2
  · exact ⟨r.length, Nat.le_refl _, fun i hi => Nat.lt_of_not_le fun hle => e ⟨i, hi, hle⟩, fun i h1 h2 => by omega⟩
theorem row_mapf {f : V → V} {l : List V} {i : Nat} (h : i < l.length) : row (l.map f) i = f (row l i) := by
  unfold row
  rw [List.getD_eq_getElem?_getD, List.getD_eq_getElem?_getD, List.getElem?_map, List.getElem?_eq_getElem h]; rfl
theorem row_drop {l : List V} {d i : Nat} : row (l.drop d) i = row l (d + i) := by
  unfold row; rw [List.getD_eq_getElem?_getD, List.getD_eq_getElem?_getD, List.getElem?_drop]
theorem pget_take {p : List Nat} {d i : Nat} (h : i < d) : (p.take d).getD i 0 = p.getD i 0 := by
  rw [List.getD_eq_getElem?_getD, List.getD_eq_getElem?_getD, List.getElem?_take_of_lt h]
theorem pget_drop {p : List Nat} {d i : Nat} : (p.drop d).getD i 0 = p.getD (d + i) 0 := by
  rw [List.getD_eq_getElem?_getD, List.getD_eq_getElem?_getD, List.getElem?_drop]
end Go.Proofs.Ytpfaaljmefgpbaa.LA
namespace Go.Proofs.Ytpfaaljmefgpbaa.LA
open Go.Proofs.Ytpfaaljmefgpbaa.GF
theorem comb_va (B : List V) (a b : Nat → G) : comb B (va a b) = va (comb B a) (comb B b) := funext fun k => by
  show S _ _ = S _ _ ^^^ S _ _
  rw [← S_add]; exact S_congr fun j _ => add_mul _ _ _
theorem comb_vs (B : List V) (c : G) (a : Nat → G) : comb B (vs c a) = vs c (comb B a) := funext fun k => by
  show S _ _ = mul c (S _ _)
  rw [S_mul]; exact S_congr fun j _ => mul_assoc _ _ _
theorem comb_vz (B : List V) : comb B vz = vz := funext fun _ => S_zero fun _ _ => zero_mul _
def prod (A B : List V) : List V := A.map (comb B)
theorem prod_length (A B : List V) : (prod A B).length = A.length := by simp [prod]
theorem prod_row {A B : List V} {i : Nat} (h : i < A.length) : row (prod A B) i = comb B (row A i) := row_mapf h
theorem comb_comb (B C : List V) (a : Nat → G) : comb C (comb B a) = comb (prod B C) a := funext fun k => by
  show S C.length (fun j => mul (S B.length fun i => mul (a i) (row B i j)) (row C j k)) = S (prod B C).length fun i => mul (a i) (row (prod B C) i k)
  rw [prod_length]
  have h1 : ∀ j, j < C.length → mul (S B.length fun i => mul (a i) (row B i j)) (row C j k) = S B.length fun i => mul (a i) (mul (row B i j) (row C j k)) := fun j _ => by
    rw [mul_comm, S_mul]; exact S_congr fun i _ => by rw [mul_comm, mul_assoc]
  rw [S_congr h1, S_comm]
  refine S_congr fun i hi => ?_
  rw [← S_mul, prod_row hi]; rfl
theorem prod_assoc (A B C : List V) : prod (prod A B) C = prod A (prod B C) := by
  simp only [prod, List.map_map]
  exact List.map_congr_left fun a _ => comb_comb B C a
def unit (i : Nat) : V := fun k => if k = i then 1#8 else 0#8
def ident (n : Nat) : List V := (List.range n).map unit
theorem ident_length (n : Nat) : (ident n).length = n := by simp [ident]
theorem ident_row {n i : Nat} (h : i < n) : row (ident n) i = unit i := row_map h
theorem unit_supp {n i : Nat} (h : i < n) : Supp n (unit i) := fun k hk => by simp only [unit]; rw [if_neg (by omega)]
theorem ident_supp (n : Nat) : AllSupp n (ident n) := fun v hv => by
  obtain ⟨i, hi, rfl⟩ := List.mem_map.1 hv; exact unit_supp (List.mem_range.1 hi)
theorem comb_unit {B : List V} {i : Nat} (h : i < B.length) : comb B (unit i) = row B i := funext fun k => S_delta h (fun j => row B j k)
theorem ident_prod (B : List V) : prod (ident B.length) B = B := by
  refine List.ext_getElem (by rw [prod_length, ident_length]) fun i h1 h2 => ?_
  have h3 : i < (ident B.length).length := by rw [ident_length]; exact h2
  have := prod_row (A := ident B.length) (B := B) h3
  rw [ident_row h2, comb_unit h2] at this
  unfold row at this
  rwa [List.getD_eq_getElem?_getD, List.getD_eq_getElem?_getD, List.getElem?_eq_getElem h1, List.getElem?_eq_getElem h2] at this
theorem rk_map {n m : Nat} {A : List V} (hA : AllSupp n A) {f : V → V} (hf : Lin f) (hs : ∀ v, Supp n v → Supp m (f v)) : rk m (A.map f) ≤ rk n A := by
  obtain ⟨r, p, hr, e, _⟩ := exists_red n A hA
  have hr2 := hA.of_le e.ge
  have h1 : AllSupp m (A.map f) := fun v hv => by obtain ⟨u, hu, rfl⟩ := List.mem_map.1 hv; exact hs _ (hA u hu)
  have h2 : AllSupp m (r.map f) := fun v hv => by obtain ⟨u, hu, rfl⟩ := List.mem_map.1 hv; exact hs _ (hr2 u hu)
  rw [rk_eq hA hr e]
  refine Nat.le_trans (rk_mono h2 (SpLe.of_mem fun v hv => ?_)) (Nat.le_trans (rk_le_length h2) (by simp))
  obtain ⟨u, hu, rfl⟩ := List.mem_map.1 hv
  exact hf.map ((e u).1 (.mem hu))
theorem ext_rows {l m : List V} (hl : l.length = m.length) (h : ∀ i, i < l.length → row l i = row m i) : l = m := by
  refine List.ext_getElem hl fun i h1 h2 => ?_
  have := h i h1
  unfold row at this
  rwa [List.getD_eq_getElem?_getD, List.getD_eq_getElem?_getD, List.getElem?_eq_getElem h1, List.getElem?_eq_getElem h2] at this
theorem free_of_full {n : Nat} {M : List V} (hM : AllSupp n M) (hl : M.length ≤ n) (hr : rk n M = n) {c : Nat → G} (hc : comb M c = vz) : ∀ i, i < M.length → c i = 0#8 := by
  intro i hi
  refine Classical.byContradiction fun hne => ?_
  -- the i-th row is a combination of the others: they span all
  let M' := M.take i ++ M.drop (i + 1)
  have hM' : AllSupp n M' := fun v hv => hM v ((List.mem_append.1 hv).elim List.mem_of_mem_take List.mem_of_mem_drop)
  have hothers : ∀ j, j < M.length → j ≠ i → Sp M' (row M j) := fun j hj hji => by
    refine .mem ?_
    by_cases h : j < i
    · exact List.mem_append_left _ (by rw [← row_take h]; exact row_mem (by rw [List.length_take]; omega))
    · exact List.mem_append_right _ (by
        have e : row M j = row (M.drop (i + 1)) (j - (i + 1)) := by rw [row_drop]; congr 1; omega
        rw [e]; exact row_mem (by rw [List.length_drop]; omega))
  have hrow : Sp M' (row M i) := by
    have hs : Sp M' (fun k => S M.length fun j => (if j = i then vz else vs (c j) (row M j)) k) := sp_sum M.length (fun j => if j = i then vz else vs (c j) (row M j)) fun j hj => by
      by_cases h : j = i
      · rw [if_pos h]; exact .zero
      · rw [if_neg h]; exact .smul _ (hothers j hj h)
    have e : vs (c i) (row M i) = (fun k => S M.length fun j => (if j = i then vz else vs (c j) (row M j)) k) := funext fun k => by
      have h0 := congrFun hc k
      have h1 : comb M c k = S M.length (fun j => (if j = i then vs (c i) (row M i) k else 0#8) ^^^ (if j = i then vz else vs (c j) (row M j)) k) := S_congr fun j hj => by
        by_cases h : j = i
        · rw [if_pos h, if_pos h, h]; show _ = _ ^^^ 0#8; rw [BitVec.xor_zero]; rfl
        · rw [if_neg h, if_neg h]; show _ = 0#8 ^^^ _; rw [BitVec.zero_xor]; rfl
      rw [h1, S_add, S_one hi (fun j _ hj => if_neg hj), if_pos rfl] at h0
      have h2 := congrArg (vs (c i) (row M i) k ^^^ ·) h0
      simp only [xor_cancel] at h2
      rw [h2]; show _ = _ ^^^ 0#8; rw [BitVec.xor_zero]
    have h3 : row M i = vs (inv (c i)) (vs (c i) (row M i)) := by rw [vs_vs, inv_mul _ hne, vs_one]
    rw [h3, e]; exact .smul _ hs
  have hle : SpLe M M' := SpLe.of_mem fun v hv => by
    obtain ⟨j, hj, rfl⟩ := mem_row hv
    by_cases h : j = i
    · rw [h]; exact hrow
    · exact hothers j hj h
  have := rk_mono hM' hle
  have := rk_le_length hM'
  have : M'.length = M.length - 1 := by simp only [M', List.length_append, List.length_take, List.length_drop]; omega
  omega
theorem rk_all {n : Nat} {M : List V} (hM : AllSupp n M) (h : ∀ i, i < n → Sp M (unit i)) : rk n M = n := by
  have hr : Red (ident n) (List.range n) := by
    refine ⟨by simp [ident], List.pairwise_lt_range, fun i j hi hj => ?_, fun i hi k hk => ?_⟩
    · rw [ident_length] at hi hj
      rw [ident_row hi, List.getD_eq_getElem?_getD, List.getElem?_range hj]
      simp only [unit, Option.getD_some]
      by_cases e : i = j
      · rw [if_pos e.symm, if_pos e]
      · rw [if_neg (fun h => e h.symm), if_neg e]
    · rw [ident_length] at hi
      rw [List.getD_eq_getElem?_getD, List.getElem?_range hi] at hk
      simp only [Option.getD_some] at hk
      rw [ident_row hi]; simp only [unit]; rw [if_neg (by omega)]
  refine Nat.le_antisymm (rk_le_cols hM) ?_
  have h2 := rk_mono hM (l := ident n) (SpLe.of_mem fun v hv => by
    obtain ⟨i, hi, rfl⟩ := List.mem_map.1 hv; exact h i (List.mem_range.1 hi))
  rwa [rk_eq (ident_supp n) hr (SpEq.refl _), ident_length] at h2
structure IsSquare (n : Nat) (r : List V) (p : List Nat) (q : List V) : Prop where
  mem : ∀ w, w ∈ q → ∃ k, k < n ∧ k ∉ p ∧ w = fun x => if x = k then 1#8 else S r.length fun j => if x = p.getD j 0 then row r j k else 0#8
  all : ∀ k, k < n → k ∉ p → (fun x => if x = k then 1#8 else S r.length fun j => if x = p.getD j 0 then row r j k else 0#8) ∈ q
end Go.Proofs.Ytpfaaljmefgpbaa.LA
end
