/- QSC, part 10: LD. -/
import Derived.Test.YthgpmneplpdeiaaQSC6

section
namespace Go.Proofs.Ythgpmneplpdeiaa.LA
open Go.Proofs.Ythgpmneplpdeiaa.GF
def S : Nat → (Nat → G) → G | 0, _ => 0#8 | n + 1, f => S n f ^^^ f n
theorem S_congr {n : Nat} {f g : Nat → G} (h : ∀ i, i < n → f i = g i) : S n f = S n g := by
  induction n with
  | zero => rfl
  | succ n ih => simp only [S]; rw [ih (fun i hi => h i (by omega)), h n (by omega)]
theorem S_zero {n : Nat} {f : Nat → G} (h : ∀ i, i < n → f i = 0#8) : S n f = 0#8 := by
  induction n with
  | zero => rfl
  | succ n ih => simp only [S]; rw [ih (fun i hi => h i (by omega)), h n (by omega)]; simp
theorem S_add (n : Nat) (f g : Nat → G) : S n (fun i => f i ^^^ g i) = S n f ^^^ S n g := by
  induction n with
  | zero => simp [S]
  | succ n ih => simp only [S]; rw [ih]; ac_rfl
theorem S_mul (n : Nat) (c : G) (f : Nat → G) : mul c (S n f) = S n (fun i => mul c (f i)) := by
  induction n with
  | zero => simp [S, mul_zero]
  | succ n ih => simp only [S]; rw [mul_add, ih]
theorem S_one {n : Nat} {f : Nat → G} {i : Nat} (hi : i < n) (h : ∀ j, j < n → j ≠ i → f j = 0#8) : S n f = f i := by
  induction n with
  | zero => omega
  | succ n ih =>
    simp only [S]
    by_cases e : i = n
    · subst e; rw [S_zero (fun j hj => h j (by omega) (by omega))]; simp
    · rw [ih (by omega) (fun j hj => h j (by omega)), h n (by omega) (by omega)]; simp
theorem S_delta {n i : Nat} (hi : i < n) (f : Nat → G) : S n (fun j => mul (if j = i then 1#8 else 0#8) (f j)) = f i := by
  rw [S_one hi (fun j _ hj => by rw [if_neg hj, zero_mul])]
  simp [one_mul]
theorem S_append (n m : Nat) (f : Nat → G) : S (n + m) f = S n f ^^^ S m (fun i => f (n + i)) := by
  induction m with
  | zero => simp [S]
  | succ m ih => rw [← Nat.add_assoc]; simp only [S]; rw [ih]; ac_rfl
abbrev V := Nat → G
def vz : V := fun _ => 0#8
def va (u v : V) : V := fun k => u k ^^^ v k
def vs (c : G) (u : V) : V := fun k => mul c (u k)
theorem va_comm (u v : V) : va u v = va v u := funext fun _ => BitVec.xor_comm _ _
theorem va_assoc (u v w : V) : va (va u v) w = va u (va v w) := funext fun _ => BitVec.xor_assoc _ _ _
theorem va_self (u : V) : va u u = vz := funext fun _ => BitVec.xor_self
theorem va_zero (u : V) : va u vz = u := funext fun _ => BitVec.xor_zero
theorem va_cancel (u v : V) : va u (va u v) = v := funext fun _ => xor_cancel _ _
theorem vs_zero (u : V) : vs 0#8 u = vz := funext fun _ => zero_mul _
theorem vs_one (u : V) : vs 1#8 u = u := funext fun _ => one_mul _
theorem vs_vs (a b : G) (u : V) : vs a (vs b u) = vs (mul a b) u := funext fun _ => (mul_assoc _ _ _).symm
theorem vs_va (a : G) (u v : V) : vs a (va u v) = va (vs a u) (vs a v) := funext fun _ => mul_add _ _ _
inductive Sp (l : List V) : V → Prop
  | zero : Sp l vz
  | mem {v : V} : v ∈ l → Sp l v
  | add {u v : V} : Sp l u → Sp l v → Sp l (va u v)
  | smul {v : V} (c : G) : Sp l v → Sp l (vs c v)
theorem Sp.sub {l m : List V} (h : ∀ v, v ∈ l → Sp m v) {v : V} (hv : Sp l v) : Sp m v := by
  induction hv with
  | zero => exact .zero
  | mem hv => exact h _ hv
  | add _ _ h1 h2 => exact .add h1 h2
  | smul c _ h1 => exact .smul c h1
def SpEq (l m : List V) : Prop := ∀ v, Sp l v ↔ Sp m v
def SpLe (l m : List V) : Prop := ∀ v, Sp l v → Sp m v
theorem SpEq.refl (l : List V) : SpEq l l := fun _ => Iff.rfl
theorem SpEq.symm {l m : List V} (h : SpEq l m) : SpEq m l := fun v => (h v).symm
theorem SpEq.trans {l m n : List V} (h : SpEq l m) (k : SpEq m n) : SpEq l n := fun v => (h v).trans (k v)
theorem SpEq.le {l m : List V} (h : SpEq l m) : SpLe l m := fun v => (h v).1
theorem SpEq.ge {l m : List V} (h : SpEq l m) : SpLe m l := fun v => (h v).2
theorem SpLe.trans {l m n : List V} (h : SpLe l m) (k : SpLe m n) : SpLe l n := fun v hv => k v (h v hv)
theorem SpLe.eq {l m : List V} (h : SpLe l m) (k : SpLe m l) : SpEq l m := fun v => ⟨h v, k v⟩
theorem SpLe.of_mem {l m : List V} (h : ∀ v, v ∈ l → Sp m v) : SpLe l m := fun _ hv => hv.sub h
theorem SpLe.of_sub {l m : List V} (h : ∀ v, v ∈ l → v ∈ m) : SpLe l m := SpLe.of_mem fun v hv => .mem (h v hv)
theorem SpEq.of_mem {l m : List V} (h : ∀ v, v ∈ l → Sp m v) (k : ∀ v, v ∈ m → Sp l v) : SpEq l m := (SpLe.of_mem h).eq (SpLe.of_mem k)
theorem Sp.nil {v : V} (h : Sp [] v) : v = vz := by
  induction h with
  | zero => rfl
  | mem h => cases h
  | add _ _ h1 h2 => rw [h1, h2, va_zero]
  | smul c _ h1 => rw [h1]; exact funext fun _ => mul_zero _
theorem Sp.append {l m : List V} {v : V} : Sp (l ++ m) v ↔ ∃ a b, Sp l a ∧ Sp m b ∧ v = va a b := by
  constructor
  · intro h
    induction h with
    | zero => exact ⟨vz, vz, .zero, .zero, (va_zero _).symm⟩
    | @mem v hv =>
      rcases List.mem_append.1 hv with h | h
      · exact ⟨v, vz, .mem h, .zero, (va_zero _).symm⟩
      · exact ⟨vz, v, .zero, .mem h, by rw [va_comm, va_zero]⟩
    | add _ _ h1 h2 =>
      obtain ⟨a, b, ha, hb, rfl⟩ := h1
      obtain ⟨c, d, hc, hd, rfl⟩ := h2
      exact ⟨va a c, va b d, .add ha hc, .add hb hd, funext fun k => by simp only [va]; ac_rfl⟩
    | smul c _ h1 =>
      obtain ⟨a, b, ha, hb, rfl⟩ := h1
      exact ⟨vs c a, vs c b, .smul c ha, .smul c hb, vs_va _ _ _⟩
  · rintro ⟨a, b, ha, hb, rfl⟩
    exact .add (ha.sub fun v hv => .mem (List.mem_append_left _ hv)) (hb.sub fun v hv => .mem (List.mem_append_right _ hv))
theorem SpLe.append {l m n : List V} (h : SpLe l n) (k : SpLe m n) : SpLe (l ++ m) n :=
  SpLe.of_mem fun v hv => (List.mem_append.1 hv).elim (fun h' => h v (.mem h')) (fun h' => k v (.mem h'))
theorem SpLe.left (l m : List V) : SpLe l (l ++ m) := SpLe.of_sub fun _ h => List.mem_append_left _ h
theorem SpLe.right (l m : List V) : SpLe m (l ++ m) := SpLe.of_sub fun _ h => List.mem_append_right _ h
theorem SpEq.append {l l' m m' : List V} (h : SpEq l l') (k : SpEq m m') : SpEq (l ++ m) (l' ++ m') :=
  (SpLe.append (h.le.trans (SpLe.left _ _)) (k.le.trans (SpLe.right _ _))).eq (SpLe.append (h.ge.trans (SpLe.left _ _)) (k.ge.trans (SpLe.right _ _)))
def row (l : List V) (i : Nat) : V := l.getD i vz
def comb (l : List V) (c : Nat → G) : V := fun k => S l.length (fun j => mul (c j) (row l j k))
theorem row_mem {l : List V} {i : Nat} (h : i < l.length) : row l i ∈ l := by
  unfold row
  rw [List.getD_eq_getElem?_getD, List.getElem?_eq_getElem h]
  exact List.getElem_mem h
theorem mem_row {l : List V} {v : V} (h : v ∈ l) : ∃ i, i < l.length ∧ row l i = v := by
  obtain ⟨i, hi, e⟩ := List.getElem_of_mem h
  exact ⟨i, hi, by unfold row; rw [List.getD_eq_getElem?_getD, List.getElem?_eq_getElem hi]; exact e⟩
theorem sp_sum {l : List V} (n : Nat) (f : Nat → V) (h : ∀ i, i < n → Sp l (f i)) : Sp l (fun k => S n (fun i => f i k)) := by
  induction n with
  | zero => exact .zero
  | succ n ih => exact .add (ih (fun i hi => h i (by omega))) (h n (by omega))
theorem comb_sp (l : List V) (c : Nat → G) : Sp l (comb l c) := sp_sum l.length (fun j => vs (c j) (row l j)) fun _ hi => .smul _ (.mem (row_mem hi))
theorem sp_comb {l : List V} {v : V} (h : Sp l v) : ∃ c, v = comb l c := by
  induction h with
  | zero => exact ⟨fun _ => 0#8, funext fun k => (S_zero (fun _ _ => zero_mul _)).symm⟩
  | mem hv =>
    obtain ⟨i, hi, rfl⟩ := mem_row hv
    exact ⟨fun j => if j = i then 1#8 else 0#8, funext fun k => (S_delta hi (fun j => row l j k)).symm⟩
  | add _ _ h1 h2 =>
    obtain ⟨c, rfl⟩ := h1
    obtain ⟨d, rfl⟩ := h2
    exact ⟨fun j => c j ^^^ d j, funext fun k => by simp only [va, comb]; rw [← S_add]; exact S_congr fun i _ => (add_mul _ _ _).symm⟩
  | smul a _ h1 =>
    obtain ⟨c, rfl⟩ := h1
    exact ⟨fun j => mul a (c j), funext fun k => by simp only [vs, comb]; rw [S_mul]; exact S_congr fun i _ => (mul_assoc _ _ _).symm⟩
structure Red (r : List V) (p : List Nat) : Prop where
  len : r.length = p.length
  inc : p.Pairwise (· < ·)
  one : ∀ i j, i < r.length → j < r.length → row r i (p.getD j 0) = if i = j then 1#8 else 0#8
  low : ∀ i, i < r.length → ∀ k, k < p.getD i 0 → row r i k = 0#8
theorem pget {p : List Nat} (h : p.Pairwise (· < ·)) {i j : Nat} (hij : i < j) (hj : j < p.length) : p.getD i 0 < p.getD j 0 := by
  rw [List.getD_eq_getElem?_getD, List.getD_eq_getElem?_getD, List.getElem?_eq_getElem hj, List.getElem?_eq_getElem (Nat.lt_trans hij hj)]
  exact List.pairwise_iff_getElem.1 h i j (Nat.lt_trans hij hj) hj hij
theorem pget_mem {p : List Nat} {i : Nat} (h : i < p.length) : p.getD i 0 ∈ p := by
  rw [List.getD_eq_getElem?_getD, List.getElem?_eq_getElem h]; exact List.getElem_mem h
theorem mem_pget {p : List Nat} {x : Nat} (h : x ∈ p) : ∃ i, i < p.length ∧ p.getD i 0 = x := by
  obtain ⟨i, hi, e⟩ := List.getElem_of_mem h
  exact ⟨i, hi, by rw [List.getD_eq_getElem?_getD, List.getElem?_eq_getElem hi]; exact e⟩
theorem Red.coord {r : List V} {p : List Nat} (h : Red r p) {v : V} (hv : Sp r v) : v = comb r (fun j => v (p.getD j 0)) := by
  obtain ⟨c, rfl⟩ := sp_comb hv
  refine funext fun k => S_congr fun j hj => ?_
  show mul (c j) _ = mul (S r.length fun i => mul (c i) (row r i (p.getD j 0))) _
  rw [S_one hj (fun i hi hij => by rw [h.one i j hi hj, if_neg hij, mul_zero]), h.one j j hj hj, if_pos rfl, mul_one]
def Lead (v : V) (k : Nat) : Prop := v k ≠ 0#8 ∧ ∀ i, i < k → v i = 0#8
theorem Lead.unique {v : V} {a b : Nat} (h : Lead v a) (k : Lead v b) : a = b := by
  rcases Nat.lt_trichotomy a b with l | l | l
  · exact absurd (k.2 a l) h.1
  · exact l
  · exact absurd (h.2 b l) k.1
theorem least (p : Nat → Prop) (n : Nat) (h : p n) : ∃ m, m ≤ n ∧ p m ∧ ∀ i, i < m → ¬ p i := by
  induction n using Nat.strongRecOn with
  | _ n ih =>
    by_cases e : ∃ i, i < n ∧ p i
    · obtain ⟨i, hi, hp⟩ := e
      obtain ⟨m, hm, h1, h2⟩ := ih i hi hp
      exact ⟨m, by omega, h1, h2⟩
    · exact ⟨n, Nat.le_refl _, h, fun i hi hp => e ⟨i, hi, hp⟩⟩
theorem Red.lead_row {r : List V} {p : List Nat} (h : Red r p) {i : Nat} (hi : i < r.length) : Lead (row r i) (p.getD i 0) :=
  ⟨by rw [h.one i i hi hi, if_pos rfl]; decide, h.low i hi⟩
theorem Red.lead {r : List V} {p : List Nat} (h : Red r p) {v : V} (hv : Sp r v) {k : Nat} (hk : Lead v k) : ∃ i, i < r.length ∧ p.getD i 0 = k := by
  have hc := h.coord hv
  by_cases e : ∃ j, j < r.length ∧ v (p.getD j 0) ≠ 0#8
  · obtain ⟨j, hj, hne⟩ := e
    obtain ⟨m, hm, ⟨hml, h1⟩, h2⟩ := least (fun j => j < r.length ∧ v (p.getD j 0) ≠ 0#8) j ⟨hj, hne⟩
    refine ⟨m, hml, Lead.unique ⟨h1, fun i hi => ?_⟩ hk⟩
    rw [hc]
    refine S_zero fun j' hj' => ?_
    by_cases l : j' < m
    · have : v (p.getD j' 0) = 0#8 := Classical.byContradiction fun hn => h2 j' l ⟨hj', hn⟩
      show mul (v (p.getD j' 0)) _ = _
      rw [this, zero_mul]
    · have hp : p.getD m 0 ≤ p.getD j' 0 := by
        rcases Nat.lt_or_eq_of_le (Nat.le_of_not_lt l) with q | q
        · exact Nat.le_of_lt (pget h.inc q (by rw [← h.len]; exact hj'))
        · rw [q]; exact Nat.le_refl _
      rw [h.low j' hj' i (by omega), mul_zero]
  · have : v = vz := by
      rw [hc]
      exact funext fun k => S_zero fun j hj => by
        have : v (p.getD j 0) = 0#8 := Classical.byContradiction fun hn => e ⟨j, hj, hn⟩
        show mul (v (p.getD j 0)) _ = _
        rw [this, zero_mul]
    exact absurd (by rw [this]; rfl) hk.1
theorem sorted_ext : ∀ {p q : List Nat}, p.Pairwise (· < ·) → q.Pairwise (· < ·) → (∀ x, x ∈ p ↔ x ∈ q) → p = q
  | [], [], _, _, _ => rfl
  | [], b :: q, _, _, h => by have := (h b).2 (List.mem_cons_self ..); cases this
  | a :: p, [], _, _, h => by have := (h a).1 (List.mem_cons_self ..); cases this
  | a :: p, b :: q, hp, hq, h => by
    have hp' := List.pairwise_cons.1 hp
    have hq' := List.pairwise_cons.1 hq
    have e : a = b := by
      have h1 := (h a).1 (List.mem_cons_self ..)
      have h2 := (h b).2 (List.mem_cons_self ..)
      rcases List.mem_cons.1 h1 with h1 | h1
      · exact h1
      rcases List.mem_cons.1 h2 with h2 | h2
      · exact h2.symm
      have := hq'.1 a h1
      have := hp'.1 b h2
      omega
    subst e
    rw [sorted_ext hp'.2 hq'.2 fun x => ?_]
    constructor
    · intro hx
      rcases List.mem_cons.1 ((h x).1 (List.mem_cons_of_mem _ hx)) with e | e
      · have := hp'.1 x hx; omega
      · exact e
    · intro hx
      rcases List.mem_cons.1 ((h x).2 (List.mem_cons_of_mem _ hx)) with e | e
      · have := hq'.1 x hx; omega
      · exact e
theorem sorted_le : ∀ {p q : List Nat}, p.Pairwise (· < ·) → q.Pairwise (· < ·) → (∀ x, x ∈ p → x ∈ q) → p.length ≤ q.length
  | [], _, _, _, _ => Nat.zero_le _
  | a :: p, [], _, _, h => by have := h a (List.mem_cons_self ..); cases this
  | a :: p, b :: q, hp, hq, h => by
    have hp' := List.pairwise_cons.1 hp
    have hq' := List.pairwise_cons.1 hq
    by_cases e : a = b
    · subst e
      have := sorted_le hp'.2 hq'.2 fun x hx => by
        rcases List.mem_cons.1 (h x (List.mem_cons_of_mem _ hx)) with e | e
        · have := hp'.1 x hx; omega
        · exact e
      simp only [List.length_cons]; omega
    · have ha : a ∈ q := by
        rcases List.mem_cons.1 (h a (List.mem_cons_self ..)) with h1 | h1
        · exact absurd h1 e
        · exact h1
      have hb := hq'.1 a ha
      have := sorted_le hp hq'.2 fun x hx => by
        rcases List.mem_cons.1 (h x hx) with e' | e'
        · rcases List.mem_cons.1 hx with e2 | e2
          · omega
          · have := hp'.1 x e2; omega
        · exact e'
      simp only [List.length_cons] at *; omega
termination_by p q => p.length + q.length
theorem Red.places_sub {r s : List V} {p q : List Nat} (h : Red r p) (k : Red s q) (hl : SpLe r s) : ∀ x, x ∈ p → x ∈ q := by
  intro x hx
  obtain ⟨i, hi, rfl⟩ := mem_pget hx
  have hi' : i < r.length := by rw [h.len]; exact hi
  obtain ⟨j, hj, e⟩ := k.lead (hl _ (.mem (row_mem hi'))) (h.lead_row hi')
  rw [← e]; exact pget_mem (by rw [← k.len]; exact hj)
theorem Red.le {r s : List V} {p q : List Nat} (h : Red r p) (k : Red s q) (hl : SpLe r s) : r.length ≤ s.length := by
  rw [h.len, k.len]; exact sorted_le h.inc k.inc (h.places_sub k hl)
theorem Red.places {r s : List V} {p q : List Nat} (h : Red r p) (k : Red s q) (he : SpEq r s) : p = q :=
  sorted_ext h.inc k.inc fun x => ⟨h.places_sub k he.le x, k.places_sub h he.ge x⟩
theorem Red.unique {r s : List V} {p q : List Nat} (h : Red r p) (k : Red s q) (he : SpEq r s) : r = s := by
  have e := h.places k he
  subst e
  have hl : r.length = s.length := by rw [h.len, k.len]
  have hrow : ∀ i, i < r.length → row r i = row s i := by
    intro i hi
    have hi' : i < s.length := by omega
    have hc := k.coord ((he _).1 (.mem (row_mem hi)))
    rw [hc]
    refine funext fun x => ?_
    show S s.length _ = _
    rw [S_congr (g := fun j => mul (if j = i then 1#8 else 0#8) (row s j x)) (fun j hj => ?_)]
    · exact S_delta hi' (fun j => row s j x)
    · show mul (row r i (p.getD j 0)) _ = _
      rw [h.one i j hi (by omega)]
      by_cases e : i = j
      · rw [if_pos e, if_pos e.symm]
      · rw [if_neg e, if_neg (fun h => e h.symm)]
  refine List.ext_getElem hl fun i h1 h2 => ?_
  have := hrow i h1
  unfold row at this
  rwa [List.getD_eq_getElem?_getD, List.getD_eq_getElem?_getD, List.getElem?_eq_getElem h1, List.getElem?_eq_getElem h2] at this
theorem Red.eq_of_le {r s : List V} {p q : List Nat} (h : Red r p) (k : Red s q) (hl : SpLe r s) (hn : s.length ≤ r.length) : SpEq r s := by
  refine hl.eq fun v hv => ?_
  have hpq : p = q := by
    have hsub := h.places_sub k hl
    have hlen : q.length ≤ p.length := by rw [← h.len, ← k.len]; exact hn
    clear hl hv v hn
    have key : ∀ (p q : List Nat), p.Pairwise (· < ·) → q.Pairwise (· < ·) → (∀ x, x ∈ p → x ∈ q) → q.length ≤ p.length → p = q := by
      intro p
      induction p with
      | nil => intro q _ _ _ hn; exact (List.length_eq_zero_iff.1 (by simpa using hn)).symm
      | cons a p ih =>
        intro q hp hq hs hn
        cases q with
        | nil => exact absurd (hs a (List.mem_cons_self ..)) List.not_mem_nil
        | cons b q =>
          have hp' := List.pairwise_cons.1 hp
          have hq' := List.pairwise_cons.1 hq
          by_cases e : a = b
          · subst e
            rw [ih q hp'.2 hq'.2 (fun x hx => by
              rcases List.mem_cons.1 (hs x (List.mem_cons_of_mem _ hx)) with e | e
              · have := hp'.1 x hx; omega
              · exact e) (by simpa using hn)]
          · exfalso
            have ha : a ∈ q := by
              rcases List.mem_cons.1 (hs a (List.mem_cons_self ..)) with h1 | h1
              · exact absurd h1 e
              · exact h1
            have hb := hq'.1 a ha
            have := sorted_le hp hq'.2 fun x hx => by
              rcases List.mem_cons.1 (hs x hx) with e' | e'
              · rcases List.mem_cons.1 hx with e2 | e2
                · omega
                · have := hp'.1 x e2; omega
              · exact e'
            simp only [List.length_cons] at *; omega
    exact key p q h.inc k.inc hsub hlen
  subst hpq
  -- v less its coordinates on r has no lead
  have hr : Sp s (comb r (fun j => v (p.getD j 0))) := hl _ (comb_sp _ _)
  have hd : Sp s (va v (comb r (fun j => v (p.getD j 0)))) := .add hv hr
  have hz : va v (comb r (fun j => v (p.getD j 0))) = vz := by
    rw [k.coord hd]
    refine funext fun x => S_zero fun j hj => ?_
    have hj' : j < r.length := by rw [h.len, ← k.len]; exact hj
    have : va v (comb r (fun j => v (p.getD j 0))) (p.getD j 0) = 0#8 := by
      show v _ ^^^ S r.length _ = 0#8
      rw [S_one hj' (fun i hi hij => by rw [h.one i j hi hj', if_neg hij, mul_zero]), h.one j j hj' hj', if_pos rfl, mul_one, BitVec.xor_self]
    show mul (va v (comb r (fun j => v (p.getD j 0))) (p.getD j 0)) _ = _
    rw [this, zero_mul]
  have : v = comb r (fun j => v (p.getD j 0)) := by
    have := congrArg (va (comb r (fun j => v (p.getD j 0)))) hz
    rw [va_comm v, va_cancel, va_zero] at this
    exact this
  rw [this]; exact comb_sp _ _
end Go.Proofs.Ythgpmneplpdeiaa.LA
namespace Go.Proofs.Ythgpmneplpdeiaa.LA
open Go.Proofs.Ythgpmneplpdeiaa.GF
def Supp (n : Nat) (v : V) : Prop := ∀ k, n ≤ k → v k = 0#8
def AllSupp (n : Nat) (l : List V) : Prop := ∀ v, v ∈ l → Supp n v
theorem Supp.zero (n : Nat) : Supp n vz := fun _ _ => rfl
theorem Supp.add {n : Nat} {u v : V} (h : Supp n u) (k : Supp n v) : Supp n (va u v) := fun i hi => by simp only [va]; rw [h i hi, k i hi]; simp
theorem Supp.smul {n : Nat} {v : V} (c : G) (h : Supp n v) : Supp n (vs c v) := fun i hi => by simp only [vs]; rw [h i hi, mul_zero]
theorem Sp.supp {n : Nat} {l : List V} (h : AllSupp n l) {v : V} (hv : Sp l v) : Supp n v := by
  induction hv with
  | zero => exact .zero n
  | mem hv => exact h _ hv
  | add _ _ h1 h2 => exact h1.add h2
  | smul c _ h1 => exact h1.smul c
theorem AllSupp.append {n : Nat} {l m : List V} (h : AllSupp n l) (k : AllSupp n m) : AllSupp n (l ++ m) :=
  fun v hv => (List.mem_append.1 hv).elim (h v) (k v)
theorem AllSupp.of_le {n : Nat} {l m : List V} (h : AllSupp n l) (k : SpLe m l) : AllSupp n m := fun _ hv => Sp.supp h (k _ (.mem hv))
theorem row_map {f : Nat → V} {n i : Nat} (h : i < n) : row ((List.range n).map f) i = f i := by
  unfold row
  rw [List.getD_eq_getElem?_getD, List.getElem?_map, List.getElem?_range h]; rfl
structure Inv (rows : List V) (d k : Nat) (p : List Nat) : Prop where
  len : d = p.length
  dle : d ≤ rows.length
  inc : p.Pairwise (· < ·)
  lt : ∀ x, x ∈ p → x < k
  one : ∀ i j, i < rows.length → j < d → row rows i (p.getD j 0) = if i = j then 1#8 else 0#8
  low : ∀ i, i < d → ∀ x, x < p.getD i 0 → row rows i x = 0#8
  rest : ∀ i, d ≤ i → i < rows.length → ∀ x, x < k → row rows i x = 0#8
theorem Inv.start (rows : List V) : Inv rows 0 0 [] :=
  ⟨rfl, Nat.zero_le _, List.Pairwise.nil, fun _ h => by simp at h, fun _ _ _ h => by omega, fun _ h => by omega, fun _ _ _ x hx => by omega⟩
theorem Inv.pass {rows : List V} {d k : Nat} {p : List Nat} (h : Inv rows d k p) (hn : ∀ i, d ≤ i → i < rows.length → row rows i k = 0#8) : Inv rows d (k + 1) p :=
  ⟨h.len, h.dle, h.inc, fun x hx => Nat.lt_succ_of_lt (h.lt x hx), h.one, h.low, fun i h1 h2 x hx => by
    rcases Nat.lt_succ_iff_lt_or_eq.1 hx with q | q
    · exact h.rest i h1 h2 x q
    · rw [q]; exact hn i h1 h2⟩
def pivot (rows : List V) (i k : Nat) : V := vs (inv (row rows i k)) (row rows i)
def swapped (rows : List V) (d i j : Nat) : V := if j = i then row rows d else row rows j
def step (rows : List V) (d i k : Nat) : List V :=
  (List.range rows.length).map fun j => if j = d then pivot rows i k else va (swapped rows d i j) (vs (swapped rows d i j k) (pivot rows i k))
theorem step_length (rows : List V) (d i k : Nat) : (step rows d i k).length = rows.length := by simp [step]
theorem step_row {rows : List V} {d i k j : Nat} (h : j < rows.length) : row (step rows d i k) j = if j = d then pivot rows i k else va (swapped rows d i j) (vs (swapped rows d i j k) (pivot rows i k)) := by
  unfold step; rw [row_map h]
theorem inv_mul (a : G) (h : a ≠ 0#8) : mul (inv a) a = 1#8 := by rw [mul_comm]; exact mul_inv a h
theorem step_span {rows : List V} {d i k : Nat} (hd : d < rows.length) (hi : i < rows.length) (hne : row rows i k ≠ 0#8) : SpEq rows (step rows d i k) := by
  have hp : Sp rows (pivot rows i k) := .smul _ (.mem (row_mem hi))
  have hsw : ∀ j, j < rows.length → Sp rows (swapped rows d i j) := fun j hj => by
    unfold swapped; split
    · exact .mem (row_mem hd)
    · exact .mem (row_mem hj)
  refine .of_mem (fun v hv => ?_) (fun v hv => ?_)
  · obtain ⟨j, hj, rfl⟩ := mem_row hv
    have hpn : Sp (step rows d i k) (pivot rows i k) := by
      have : row (step rows d i k) d = pivot rows i k := by rw [step_row hd, if_pos rfl]
      rw [← this]; exact .mem (row_mem (by rw [step_length]; exact hd))
    have back : ∀ j, j < rows.length → j ≠ d → Sp (step rows d i k) (swapped rows d i j) := by
      intro j hj hjd
      have e : swapped rows d i j = va (row (step rows d i k) j) (vs (swapped rows d i j k) (pivot rows i k)) := by
        rw [step_row hj, if_neg hjd, va_assoc, va_self, va_zero]
      rw [e]; exact .add (.mem (row_mem (by rw [step_length]; exact hj))) (.smul _ hpn)
    by_cases e : j = i
    · subst e
      have : row rows j = vs (row rows j k) (pivot rows j k) := by
        unfold pivot; rw [vs_vs, mul_inv _ hne, vs_one]
      rw [this]; exact .smul _ hpn
    · by_cases e2 : j = d
      · subst e2
        have := back i hi (fun h => e h.symm)
        unfold swapped at this; rwa [if_pos rfl] at this
      · have := back j hj e2
        unfold swapped at this; rwa [if_neg e] at this
  · obtain ⟨j, hj, rfl⟩ := mem_row hv
    rw [step_length] at hj
    rw [step_row hj]
    split
    · exact hp
    · exact .add (hsw j hj) (.smul _ hp)
theorem Inv.step {rows : List V} {d k i : Nat} {p : List Nat} (h : Inv rows d k p) (hdi : d ≤ i) (hi : i < rows.length) (hne : row rows i k ≠ 0#8) : Inv (LA.step rows d i k) (d + 1) (k + 1) (p ++ [k]) := by
  have hd : d < rows.length := by omega
  -- rows at or behind d, exchanged or not
  have hsw : ∀ j, d ≤ j → j < rows.length → ∃ j', d ≤ j' ∧ j' < rows.length ∧ swapped rows d i j = row rows j' := fun j h1 h2 => by
    unfold swapped; split
    · exact ⟨d, Nat.le_refl _, hd, rfl⟩
    · exact ⟨j, h1, h2, rfl⟩
  have hlow : ∀ x, x < k → pivot rows i k x = 0#8 := fun x hx => by
    show mul _ (row rows i x) = _; rw [h.rest i hdi hi x hx, mul_zero]
  have hk : pivot rows i k k = 1#8 := by show mul _ (row rows i k) = _; exact inv_mul _ hne
  have hpiv : ∀ j, j < d → pivot rows i k (p.getD j 0) = 0#8 := fun j hj => hlow _ (h.lt _ (pget_mem (by rw [← h.len]; exact hj)))
  have hpl : ∀ j, j < d → (p ++ [k]).getD j 0 = p.getD j 0 := fun j hj => by
    rw [List.getD_eq_getElem?_getD, List.getD_eq_getElem?_getD, List.getElem?_append_left (by rw [← h.len]; exact hj)]
  have hpk : (p ++ [k]).getD d 0 = k := by
    rw [List.getD_eq_getElem?_getD, h.len, List.getElem?_append_right (Nat.le_refl _)]; simp
  refine ⟨by simp [h.len], by rw [step_length]; omega, ?_, ?_, ?_, ?_, ?_⟩
  · rw [List.pairwise_append]
    refine ⟨h.inc, List.pairwise_singleton _ _, fun a ha b hb => ?_⟩
    simp only [List.mem_singleton] at hb; subst hb; exact h.lt a ha
  · intro x hx
    rcases List.mem_append.1 hx with q | q
    · have := h.lt x q; omega
    · simp only [List.mem_singleton] at q; omega
  · intro a j ha hj
    rw [step_length] at ha
    rw [step_row ha]
    rcases Nat.lt_succ_iff_lt_or_eq.1 hj with q | q
    · rw [hpl j q]
      by_cases e : a = d
      · rw [if_pos e, hpiv j q, if_neg (by omega)]
      · rw [if_neg e]
        show _ ^^^ mul _ (pivot rows i k _) = _
        rw [hpiv j q, mul_zero, BitVec.xor_zero]
        unfold swapped
        by_cases e2 : a = i
        · rw [if_pos e2, h.one d j hd q, if_neg (by omega), if_neg (by omega)]
        · rw [if_neg e2, h.one a j ha q]
    · subst q
      rw [hpk]
      by_cases e : a = j
      · rw [if_pos e, if_pos e, hk]
      · rw [if_neg e, if_neg e]
        show _ ^^^ mul _ (pivot rows i k k) = _
        rw [hk, mul_one, BitVec.xor_self]
  · intro a ha x hx
    rw [step_row (by omega)]
    rcases Nat.lt_succ_iff_lt_or_eq.1 ha with q | q
    · rw [hpl a q] at hx
      have hxk : x < k := Nat.lt_trans hx (h.lt _ (pget_mem (by rw [← h.len]; exact q)))
      rw [if_neg (by omega)]
      show _ ^^^ mul _ (pivot rows i k x) = _
      rw [hlow x hxk, mul_zero, BitVec.xor_zero]
      unfold swapped; rw [if_neg (by omega)]; exact h.low a q x hx
    · subst q; rw [hpk] at hx; rw [if_pos rfl]; exact hlow x hx
  · intro a h1 h2 x hx
    rw [step_length] at h2
    rw [step_row h2, if_neg (by omega)]
    obtain ⟨j', hj1, hj2, e⟩ := hsw a (by omega) h2
    show _ ^^^ mul (swapped rows d i a k) (pivot rows i k x) = _
    rcases Nat.lt_succ_iff_lt_or_eq.1 hx with q | q
    · rw [hlow x q, mul_zero, e, h.rest j' hj1 hj2 x q, BitVec.xor_zero]
    · subst q; rw [hk, mul_one, BitVec.xor_self]
theorem row_take {l : List V} {d i : Nat} (h : i < d) : row (l.take d) i = row l i := by
  unfold row; rw [List.getD_eq_getElem?_getD, List.getD_eq_getElem?_getD, List.getElem?_take_of_lt h]
theorem Inv.red {rows : List V} {d k : Nat} {p : List Nat} (h : Inv rows d k p) : Red (rows.take d) p := by
  have hl : (rows.take d).length = d := by rw [List.length_take]; have := h.dle; omega
  exact ⟨by rw [hl, h.len], h.inc, fun i j hi hj => by rw [hl] at hi hj; rw [row_take hi]; exact h.one i j (by have := h.dle; omega) hj,
    fun i hi x hx => by rw [hl] at hi; rw [row_take hi]; exact h.low i hi x hx⟩
theorem Inv.span {rows : List V} {d k : Nat} {p : List Nat} (h : Inv rows d k p) (hs : AllSupp k rows) : SpEq rows (rows.take d) := by
  refine .of_mem (fun v hv => ?_) (fun v hv => .mem (List.mem_of_mem_take hv))
  obtain ⟨j, hj, rfl⟩ := mem_row hv
  by_cases e : j < d
  · rw [← row_take e]; exact .mem (row_mem (by rw [List.length_take]; omega))
  · have : row rows j = vz := funext fun x => by
      by_cases q : x < k
      · exact h.rest j (by omega) hj x q
      · exact hs _ hv x (by omega)
    rw [this]; exact .zero
theorem exists_inv (rows : List V) (k : Nat) : ∃ rows' d p, Inv rows' d k p ∧ SpEq rows rows' ∧ rows'.length = rows.length := by
  induction k with
  | zero => exact ⟨rows, 0, [], .start rows, .refl _, rfl⟩
  | succ k ih =>
    obtain ⟨r, d, p, h, hs, hl⟩ := ih
    by_cases e : ∃ i, d ≤ i ∧ i < r.length ∧ row r i k ≠ 0#8
    · obtain ⟨i, h1, h2, h3⟩ := e
      exact ⟨step r d i k, d + 1, p ++ [k], h.step h1 h2 h3, hs.trans (step_span (by omega) h2 h3), by rw [step_length, hl]⟩
    · refine ⟨r, d, p, h.pass fun i h1 h2 => Classical.byContradiction fun h3 => e ⟨i, h1, h2, h3⟩, hs, hl⟩
theorem exists_red (n : Nat) (l : List V) (h : AllSupp n l) : ∃ r p, Red r p ∧ SpEq l r ∧ r.length ≤ l.length := by
  obtain ⟨rows, d, p, hi, hs, hl⟩ := exists_inv l n
  exact ⟨rows.take d, p, hi.red, hs.trans (hi.span (h.of_le hs.ge)), by rw [List.length_take]; omega⟩
theorem Red.le_length {n : Nat} {r l : List V} {p : List Nat} (h : Red r p) (hs : AllSupp n l) (hl : SpLe r l) : r.length ≤ l.length := by
  obtain ⟨s, q, k, he, hle⟩ := exists_red n l hs
  exact Nat.le_trans (h.le k (hl.trans he.le)) hle
theorem Red.lt {n : Nat} {r : List V} {p : List Nat} (h : Red r p) (hs : AllSupp n r) : ∀ x, x ∈ p → x < n := by
  intro x hx
  obtain ⟨i, hi, rfl⟩ := mem_pget hx
  have hi' : i < r.length := by rw [h.len]; exact hi
  refine Nat.lt_of_not_le fun hle => ?_
  have := hs _ (row_mem hi') _ hle
  rw [h.one i i hi' hi', if_pos rfl] at this
  exact absurd this (by decide)
theorem sorted_bound : ∀ {p : List Nat} {n : Nat}, p.Pairwise (· < ·) → (∀ x, x ∈ p → x < n) → p.length ≤ n := by
  intro p n hp h
  have := sorted_le hp (List.pairwise_lt_range (n := n)) fun x hx => List.mem_range.2 (h x hx)
  simpa using this
theorem Red.le_cols {n : Nat} {r : List V} {p : List Nat} (h : Red r p) (hs : AllSupp n r) : r.length ≤ n := by
  rw [h.len]; exact sorted_bound h.inc (h.lt hs)
noncomputable def rk (n : Nat) (l : List V) : Nat := open Classical in if h : AllSupp n l then (exists_red n l h).choose.length else 0
theorem rk_eq {n : Nat} {l r : List V} {p : List Nat} (hs : AllSupp n l) (h : Red r p) (he : SpEq l r) : rk n l = r.length := by
  unfold rk; rw [dif_pos hs]
  obtain ⟨q, h2, he2, _⟩ := (exists_red n l hs).choose_spec
  exact Nat.le_antisymm (h2.le h (he2.symm.trans he).le) (h.le h2 (he.symm.trans he2).le)
theorem rk_mono {n : Nat} {l m : List V} (hm : AllSupp n m) (h : SpLe l m) : rk n l ≤ rk n m := by
  obtain ⟨r, p, hr, e, _⟩ := exists_red n m hm
  have hl := hm.of_le h
  obtain ⟨s, q, hs, e2, _⟩ := exists_red n l hl
  rw [rk_eq hm hr e, rk_eq hl hs e2]
  exact hs.le hr ((e2.ge.trans h).trans e.le)
theorem rk_congr {n : Nat} {l m : List V} (hm : AllSupp n m) (h : SpEq l m) : rk n l = rk n m :=
  Nat.le_antisymm (rk_mono hm h.le) (rk_mono (hm.of_le h.le) h.ge)
theorem rk_le_length {n : Nat} {l : List V} (hs : AllSupp n l) : rk n l ≤ l.length := by
  obtain ⟨r, p, hr, e, hl⟩ := exists_red n l hs
  rw [rk_eq hs hr e]; exact hl
theorem rk_le_cols {n : Nat} {l : List V} (hs : AllSupp n l) : rk n l ≤ n := by
  obtain ⟨r, p, hr, e, _⟩ := exists_red n l hs
  rw [rk_eq hs hr e]; exact hr.le_cols (hs.of_le e.ge)
theorem eq_of_rk {n : Nat} {l m : List V} (hm : AllSupp n m) (h : SpLe l m) (hr : rk n m ≤ rk n l) : SpEq l m := by
  obtain ⟨r, p, hr', e, _⟩ := exists_red n m hm
  have hl := hm.of_le h
  obtain ⟨s, q, hs, e2, _⟩ := exists_red n l hl
  rw [rk_eq hm hr' e, rk_eq hl hs e2] at hr
  exact (e2.trans (hs.eq_of_le hr' ((e2.ge.trans h).trans e.le) hr)).trans e.symm
end Go.Proofs.Ythgpmneplpdeiaa.LA
namespace Go.Proofs.Ythgpmneplpdeiaa.LA
open Go.Proofs.Ythgpmneplpdeiaa.GF
def cat (n : Nat) (u v : V) : V := fun k => if k < n then u k else v (k - n)
def hi (n : Nat) (v : V) : V := fun k => v (n + k)
def lo (n : Nat) (v : V) : V := fun k => if k < n then v k else 0#8
theorem cat_va (n : Nat) (a b c d : V) : cat n (va a b) (va c d) = va (cat n a c) (cat n b d) := funext fun k => by
  simp only [cat, va]; split <;> rfl
theorem cat_vs (n : Nat) (x : G) (a b : V) : cat n (vs x a) (vs x b) = vs x (cat n a b) := funext fun k => by
  simp only [cat, vs]; split <;> rfl
theorem cat_vz (n : Nat) : cat n vz vz = vz := funext fun k => by simp [cat, vz]
theorem hi_cat (n : Nat) (a b : V) : hi n (cat n a b) = b := funext fun k => by
  simp only [hi, cat]; rw [if_neg (by omega)]; exact congrArg b (by omega)
theorem lo_cat {n : Nat} {a : V} (h : Supp n a) (b : V) : lo n (cat n a b) = a := funext fun k => by
  simp only [lo, cat]; split
  · rfl
  · exact (h k (by omega)).symm
theorem lo_va (n : Nat) (a b : V) : lo n (va a b) = va (lo n a) (lo n b) := funext fun k => by simp only [lo, va]; split <;> simp
theorem lo_vs (n : Nat) (x : G) (a : V) : lo n (vs x a) = vs x (lo n a) := funext fun k => by simp only [lo, vs]; split <;> simp [mul_zero]
theorem hi_va (n : Nat) (a b : V) : hi n (va a b) = va (hi n a) (hi n b) := rfl
theorem hi_vs (n : Nat) (x : G) (a : V) : hi n (vs x a) = vs x (hi n a) := rfl
theorem cat_lo_hi (n : Nat) (v : V) : cat n (lo n v) (hi n v) = v := funext fun k => by
  simp only [cat, lo, hi]; split
  · rfl
  · exact congrArg v (by omega)
theorem Supp.cat {n : Nat} {a b : V} (hb : Supp n b) : Supp (n + n) (cat n a b) := fun k hk => by
  simp only [LA.cat]; rw [if_neg (by omega)]; exact hb _ (by omega)
theorem Supp.lo (n : Nat) (v : V) : Supp n (lo n v) := fun k hk => by simp only [LA.lo]; rw [if_neg (by omega)]
theorem Supp.hi {n : Nat} {v : V} (h : Supp (n + n) v) : Supp n (hi n v) := fun k hk => h _ (by omega)
structure Lin (f : V → V) : Prop where
  zero : f vz = vz
  add : ∀ u v, f (va u v) = va (f u) (f v)
  smul : ∀ c v, f (vs c v) = vs c (f v)
theorem Lin.map {f : V → V} (h : Lin f) {l : List V} {v : V} (hv : Sp l v) : Sp (l.map f) (f v) := by
  induction hv with
  | zero => rw [h.zero]; exact .zero
  | mem hv => exact .mem (List.mem_map.2 ⟨_, hv, rfl⟩)
  | add _ _ h1 h2 => rw [h.add]; exact .add h1 h2
  | smul c _ h1 => rw [h.smul]; exact .smul c h1
theorem Lin.map_inv {f : V → V} (h : Lin f) {l : List V} {v : V} (hv : Sp (l.map f) v) : ∃ u, Sp l u ∧ f u = v := by
  induction hv with
  | zero => exact ⟨vz, .zero, h.zero⟩
  | mem hv => obtain ⟨u, hu, rfl⟩ := List.mem_map.1 hv; exact ⟨u, .mem hu, rfl⟩
  | add _ _ h1 h2 => obtain ⟨a, ha, rfl⟩ := h1; obtain ⟨b, hb, rfl⟩ := h2; exact ⟨_, .add ha hb, h.add a b⟩
  | smul c _ h1 => obtain ⟨a, ha, rfl⟩ := h1; exact ⟨_, .smul c ha, h.smul c a⟩
theorem lin_hi (n : Nat) : Lin (hi n) := ⟨rfl, fun _ _ => rfl, fun _ _ => rfl⟩
theorem lin_lo (n : Nat) : Lin (lo n) := ⟨funext fun k => by simp [lo, vz], lo_va n, lo_vs n⟩
theorem Red.split {r : List V} {p : List Nat} (h : Red r p) (n : Nat) : ∃ d, d ≤ r.length ∧ (∀ i, i < d → p.getD i 0 < n) ∧ (∀ i, d ≤ i → i < r.length → n ≤ p.getD i 0) := by
  by_cases e : ∃ i, i < r.length ∧ n ≤ p.getD i 0
  · obtain ⟨i, hi⟩ := e
    obtain ⟨m, _, ⟨hm1, hm2⟩, hm⟩ := least (fun i => i < r.length ∧ n ≤ p.getD i 0) i hi
    refine ⟨m, Nat.le_of_lt hm1, fun j hj => Nat.lt_of_not_le fun hle => hm j hj ⟨by omega, hle⟩, fun j h1 h2 => ?_⟩
    rcases Nat.lt_or_eq_of_le h1 with q | q
    · have := pget h.inc q (by rw [← h.len]; exact h2); omega
    · rw [← q]; exact hm2
  · exact ⟨r.length, Nat.le_refl _, fun i hi => Nat.lt_of_not_le fun hle => e ⟨i, hi, hle⟩, fun i h1 h2 => by omega⟩
theorem row_mapf {f : V → V} {l : List V} {i : Nat} (h : i < l.length) : row (l.map f) i = f (row l i) := by
  unfold row
  rw [List.getD_eq_getElem?_getD, List.getD_eq_getElem?_getD, List.getElem?_map, List.getElem?_eq_getElem h]; rfl
theorem row_drop {l : List V} {d i : Nat} : row (l.drop d) i = row l (d + i) := by
  unfold row; rw [List.getD_eq_getElem?_getD, List.getD_eq_getElem?_getD, List.getElem?_drop]
theorem pget_take {p : List Nat} {d i : Nat} (h : i < d) : (p.take d).getD i 0 = p.getD i 0 := by
  rw [List.getD_eq_getElem?_getD, List.getD_eq_getElem?_getD, List.getElem?_take_of_lt h]
theorem pget_drop {p : List Nat} {d i : Nat} : (p.drop d).getD i 0 = p.getD (d + i) 0 := by
  rw [List.getD_eq_getElem?_getD, List.getD_eq_getElem?_getD, List.getElem?_drop]
theorem Red.lows {r : List V} {p : List Nat} (h : Red r p) {n d : Nat} (hd : d ≤ r.length) (h1 : ∀ i, i < d → p.getD i 0 < n) : Red ((r.take d).map (lo n)) (p.take d) := by
  have hl : (r.take d).length = d := by rw [List.length_take]; omega
  refine ⟨by rw [List.length_map, hl, List.length_take, ← h.len]; omega, h.inc.sublist (List.take_sublist d p), fun i j hi hj => ?_, fun i hi k hk => ?_⟩
  · rw [List.length_map, hl] at hi hj
    rw [row_mapf (by omega), row_take hi, pget_take hj]
    simp only [lo]; rw [if_pos (h1 j hj)]; exact h.one i j (by omega) (by omega)
  · rw [List.length_map, hl] at hi
    rw [pget_take hi] at hk
    rw [row_mapf (by omega), row_take hi]
    simp only [lo]; split
    · exact h.low i (by omega) k hk
    · rfl
theorem Red.highs {r : List V} {p : List Nat} (h : Red r p) {n d : Nat} (hd : d ≤ r.length) (h2 : ∀ i, d ≤ i → i < r.length → n ≤ p.getD i 0) : Red ((r.drop d).map (hi n)) ((p.drop d).map (· - n)) := by
  have hl : (r.drop d).length = r.length - d := by rw [List.length_drop]
  have hge : ∀ x, x ∈ p.drop d → n ≤ x := fun x hx => by
    obtain ⟨i, hi, rfl⟩ := mem_pget hx
    rw [List.length_drop, ← h.len] at hi
    rw [pget_drop]; exact h2 _ (by omega) (by omega)
  have hget : ∀ j, j < r.length - d → ((p.drop d).map (· - n)).getD j 0 = p.getD (d + j) 0 - n := fun j hj => by
    have : j < (p.drop d).length := by rw [List.length_drop, ← h.len]; omega
    rw [← pget_drop, List.getD_eq_getElem?_getD, List.getD_eq_getElem?_getD, List.getElem?_map, List.getElem?_eq_getElem this]; rfl
  refine ⟨by rw [List.length_map, List.length_map, hl, List.length_drop, h.len], ?_, fun i j hi hj => ?_, fun i hi k hk => ?_⟩
  · rw [List.pairwise_map]
    refine List.Pairwise.imp_of_mem ?_ (h.inc.sublist (List.drop_sublist d p))
    intro a b ha hb hab
    have := hge a ha; have := hge b hb; omega
  · rw [List.length_map, hl] at hi hj
    rw [row_mapf (by omega), row_drop, hget j hj]
    simp only [LA.hi]
    have := h2 (d + j) (by omega) (by omega)
    rw [show n + (p.getD (d + j) 0 - n) = p.getD (d + j) 0 from by omega, h.one _ _ (by omega) (by omega)]
    by_cases e : i = j
    · rw [if_pos (by omega), if_pos e]
    · rw [if_neg (by omega), if_neg e]
  · rw [List.length_map, hl] at hi
    rw [hget i hi] at hk
    rw [row_mapf (by omega), row_drop]
    exact h.low _ (by omega) _ (by omega)
theorem take_lo_span {n d : Nat} {r : List V} {p : List Nat} (h : Red r p) (_hd : d ≤ r.length) (h2 : ∀ i, d ≤ i → i < r.length → n ≤ p.getD i 0) (v : V) :
    Sp ((r.take d).map (lo n)) v ↔ ∃ u, Sp r u ∧ lo n u = v := by
  constructor
  · intro hv
    obtain ⟨u, hu, e⟩ := (lin_lo n).map_inv hv
    exact ⟨u, hu.sub fun w hw => .mem (List.mem_of_mem_take hw), e⟩
  · rintro ⟨u, hu, rfl⟩
    rw [← List.take_append_drop d r] at hu
    obtain ⟨a, b, ha, hb, rfl⟩ := Sp.append.1 hu
    rw [lo_va]
    have hz : lo n b = vz := by
      obtain ⟨c, rfl⟩ := sp_comb hb
      refine funext fun k => ?_
      simp only [lo]; split
      · refine S_zero fun j hj => ?_
        rw [List.length_drop] at hj
        rw [row_drop, h.low _ (by omega) k (by have := h2 (d + j) (by omega) (by omega); omega), mul_zero]
      · rfl
    rw [hz, va_zero]
    exact (lin_lo n).map ha
theorem drop_hi_span {n d : Nat} {r : List V} {p : List Nat} (h : Red r p) (hd : d ≤ r.length) (h1 : ∀ i, i < d → p.getD i 0 < n) (h2 : ∀ i, d ≤ i → i < r.length → n ≤ p.getD i 0) (v : V) :
    Sp ((r.drop d).map (hi n)) v ↔ Sp r (cat n vz v) := by
  constructor
  · intro hv
    obtain ⟨u, hu, rfl⟩ := (lin_hi n).map_inv hv
    have hz : lo n u = vz := by
      obtain ⟨c, rfl⟩ := sp_comb hu
      refine funext fun k => ?_
      simp only [lo]; split
      · refine S_zero fun j hj => ?_
        rw [List.length_drop] at hj
        rw [row_drop, h.low _ (by omega) k (by have := h2 (d + j) (by omega) (by omega); omega), mul_zero]
      · rfl
    have : cat n vz (hi n u) = u := by rw [← hz, cat_lo_hi]
    rw [this]; exact hu.sub fun w hw => .mem (List.mem_of_mem_drop hw)
  · intro hv
    have hc := h.coord hv
    -- the coordinates at the first places are nought
    have hz : ∀ j, j < d → cat n vz v (p.getD j 0) = 0#8 := fun j hj => by
      simp only [cat]; rw [if_pos (h1 j hj)]; rfl
    have : Sp (r.drop d) (cat n vz v) := by
      rw [hc]
      have hrow : ∀ j, j < r.length → Sp (r.drop d) (vs (cat n vz v (p.getD j 0)) (row r j)) := fun j hj => by
        by_cases e : j < d
        · rw [hz j e, vs_zero]; exact .zero
        · have : row r j = row (r.drop d) (j - d) := by rw [row_drop]; congr 1; omega
          rw [this]; exact .smul _ (.mem (row_mem (by rw [List.length_drop]; omega)))
      exact sp_sum r.length (fun j => vs (cat n vz v (p.getD j 0)) (row r j)) hrow
    have := (lin_hi n).map this
    rwa [hi_cat] at this
def wide (n : Nat) (A B : List V) : List V := A.map (fun a => cat n a a) ++ B.map (fun b => cat n b vz)
theorem lin_twice (n : Nat) : Lin (fun a => cat n a a) := ⟨cat_vz n, fun u v => cat_va n u v u v, fun c v => cat_vs n c v v⟩
theorem lin_left (n : Nat) : Lin (fun a => cat n a vz) := ⟨cat_vz n, fun u v => by rw [← cat_va, va_zero], fun c v => by
  have : vs c vz = vz := funext fun _ => mul_zero _
  rw [← cat_vs, this]⟩
theorem lin_right (n : Nat) : Lin (fun a => cat n vz a) := ⟨cat_vz n, fun u v => by rw [← cat_va, va_zero], fun c v => by
  have : vs c vz = vz := funext fun _ => mul_zero _
  rw [← cat_vs, this]⟩
theorem wide_span {n : Nat} {A B : List V} {z : V} : Sp (wide n A B) z ↔ ∃ a b, Sp A a ∧ Sp B b ∧ z = cat n (va a b) a := by
  unfold wide
  rw [Sp.append]
  constructor
  · rintro ⟨x, y, hx, hy, rfl⟩
    obtain ⟨a, ha, rfl⟩ := (lin_twice n).map_inv hx
    obtain ⟨b, hb, rfl⟩ := (lin_left n).map_inv hy
    exact ⟨a, b, ha, hb, by rw [← cat_va, va_zero]⟩
  · rintro ⟨a, b, ha, hb, rfl⟩
    exact ⟨_, _, (lin_twice n).map ha, (lin_left n).map hb, by rw [← cat_va, va_zero]⟩
theorem wide_supp {n : Nat} {A B : List V} (hA : AllSupp n A) : AllSupp (n + n) (wide n A B) := by
  refine .append (fun v hv => ?_) (fun v hv => ?_)
  · obtain ⟨a, ha, rfl⟩ := List.mem_map.1 hv; exact Supp.cat (hA a ha)
  · obtain ⟨a, ha, rfl⟩ := List.mem_map.1 hv; exact Supp.cat (.zero n)
theorem meet_span {n : Nat} {A B : List V} (hA : AllSupp n A) (hB : AllSupp n B) (v : V) : Sp (wide n A B) (cat n vz v) ↔ Sp A v ∧ Sp B v := by
  rw [wide_span]
  constructor
  · rintro ⟨a, b, ha, hb, e⟩
    have h1 := congrArg (hi n) e
    rw [hi_cat, hi_cat] at h1
    have h2 := congrArg (lo n) e
    rw [lo_cat (.zero n), lo_cat ((Sp.supp hA ha).add (Sp.supp hB hb))] at h2
    have h3 : a = b := by
      have := congrArg (va a) h2
      rw [va_cancel, va_zero] at this; exact this
    subst h1; subst h3; exact ⟨ha, hb⟩
  · rintro ⟨ha, hb⟩
    exact ⟨v, v, ha, hb, by rw [va_self]⟩
theorem wide_rank {n : Nat} {A B a b r : List V} {pa pb p : List Nat} (hA : AllSupp n A) (hB : AllSupp n B)
    (ha : Red a pa) (hae : SpEq A a) (hb : Red b pb) (hbe : SpEq B b) (h : Red r p) (he : SpEq (wide n A B) r) : r.length = a.length + b.length := by
  have hsa := hA.of_le hae.ge
  have hsb := hB.of_le hbe.ge
  -- both, one behind the other
  let T := a.map (fun x => cat n x vz) ++ b.map (fun x => cat n vz x)
  have hTs : AllSupp (n + n) T := by
    refine .append (fun v hv => ?_) (fun v hv => ?_)
    · obtain ⟨x, hx, rfl⟩ := List.mem_map.1 hv; exact Supp.cat (.zero n)
    · obtain ⟨x, hx, rfl⟩ := List.mem_map.1 hv; exact Supp.cat (hsb x hx)
  have hTl : T.length = a.length + b.length := by simp [T]
  have hrowl : ∀ i, i < a.length → row T i = cat n (row a i) vz := fun i hi => by
    have : row T i = row (a.map (fun x => cat n x vz)) i := by
      unfold row; rw [List.getD_eq_getElem?_getD, List.getD_eq_getElem?_getD, List.getElem?_append_left (by simpa using hi)]
    rw [this, row_mapf hi]
  have hrowr : ∀ i, i < b.length → row T (a.length + i) = cat n vz (row b i) := fun i hi => by
    have : row T (a.length + i) = row (b.map (fun x => cat n vz x)) i := by
      unfold row; rw [List.getD_eq_getElem?_getD, List.getD_eq_getElem?_getD, List.getElem?_append_right (by simp)]
      simp
    rw [this, row_mapf hi]
  let q := pa ++ pb.map (n + ·)
  have hql : ∀ j, j < a.length → q.getD j 0 = pa.getD j 0 := fun j hj => by
    rw [List.getD_eq_getElem?_getD, List.getD_eq_getElem?_getD, List.getElem?_append_left (by rw [← ha.len]; exact hj)]
  have hqr : ∀ j, j < b.length → q.getD (a.length + j) 0 = n + pb.getD j 0 := fun j hj => by
    have hj' : j < pb.length := by rw [← hb.len]; exact hj
    rw [List.getD_eq_getElem?_getD, List.getElem?_append_right (by rw [ha.len]; omega), ha.len, Nat.add_sub_cancel_left, List.getElem?_map, List.getD_eq_getElem?_getD, List.getElem?_eq_getElem hj']; rfl
  have hpa := ha.lt hsa
  have hpaj : ∀ j, j < a.length → pa.getD j 0 < n := fun j hj => hpa _ (pget_mem (by rw [← ha.len]; exact hj))
  have hT : Red T q := by
    refine ⟨by simp [hTl, q, ha.len, hb.len], ?_, fun i j hi hj => ?_, fun i hi k hk => ?_⟩
    · rw [List.pairwise_append]
      refine ⟨ha.inc, ?_, fun x hx y hy => ?_⟩
      · rw [List.pairwise_map]; exact hb.inc.imp fun h => by omega
      · obtain ⟨z, _, rfl⟩ := List.mem_map.1 hy
        have := hpa x hx; omega
    · rw [hTl] at hi hj
      by_cases i1 : i < a.length
      · rw [hrowl i i1]
        by_cases j1 : j < a.length
        · rw [hql j j1]; simp only [cat]; rw [if_pos (hpaj j j1)]; exact ha.one i j i1 j1
        · obtain ⟨j, rfl⟩ : ∃ z, j = a.length + z := ⟨j - a.length, by omega⟩
          rw [hqr j (by omega)]; simp only [cat]; rw [if_neg (by omega), if_neg (by omega)]; rfl
      · obtain ⟨i, rfl⟩ : ∃ z, i = a.length + z := ⟨i - a.length, by omega⟩
        rw [hrowr i (by omega)]
        by_cases j1 : j < a.length
        · rw [hql j j1]; simp only [cat]; rw [if_pos (hpaj j j1), if_neg (by omega)]; rfl
        · obtain ⟨j, rfl⟩ : ∃ z, j = a.length + z := ⟨j - a.length, by omega⟩
          rw [hqr j (by omega)]; simp only [cat]; rw [if_neg (by omega), show n + pb.getD j 0 - n = pb.getD j 0 from by omega, hb.one i j (by omega) (by omega)]
          by_cases e : i = j
          · rw [if_pos e, if_pos (by omega)]
          · rw [if_neg e, if_neg (by omega)]
    · rw [hTl] at hi
      by_cases i1 : i < a.length
      · rw [hql i i1] at hk; rw [hrowl i i1]; simp only [cat]; split
        · exact ha.low i i1 k hk
        · rfl
      · obtain ⟨i, rfl⟩ : ∃ z, i = a.length + z := ⟨i - a.length, by omega⟩
        rw [hqr i (by omega)] at hk; rw [hrowr i (by omega)]; simp only [cat]; split
        · rfl
        · exact hb.low i (by omega) _ (by omega)
  have hrs : AllSupp (n + n) r := (wide_supp hA).of_le he.ge
  -- there and back
  let f : V → V := fun z => cat n (hi n z) (va (hi n z) (lo n z))
  let g : V → V := fun z => cat n (va (lo n z) (hi n z)) (lo n z)
  have lf : Lin f := ⟨by simp only [f]; rw [show hi n vz = vz from rfl, (lin_lo n).zero, va_zero, cat_vz],
    fun u v => by
      simp only [f]; rw [hi_va, lo_va, ← cat_va]; congr 1; exact funext fun k => by simp only [va]; ac_rfl,
    fun c v => by simp only [f]; rw [hi_vs, lo_vs, ← cat_vs, vs_va]⟩
  have lg : Lin g := ⟨by simp only [g]; rw [show hi n vz = vz from rfl, (lin_lo n).zero, va_zero, cat_vz],
    fun u v => by
      simp only [g]; rw [hi_va, lo_va, ← cat_va]; congr 1; exact funext fun k => by simp only [va]; ac_rfl,
    fun c v => by simp only [g]; rw [hi_vs, lo_vs, ← cat_vs, vs_va]⟩
  have fin : ∀ x y : V, Supp n x → Supp n y → f (cat n (va x y) x) = cat n x y := fun x y hx hy => by
    simp only [f]; rw [hi_cat, lo_cat (hx.add hy), va_cancel]
  have gin : ∀ x y : V, Supp n x → g (cat n x y) = cat n (va x y) x := fun x y hx => by
    simp only [g]; rw [hi_cat, lo_cat hx]
  have hTspan : ∀ z, Sp T z ↔ ∃ x y, Sp A x ∧ Sp B y ∧ z = cat n x y := fun z => by
    show Sp (_ ++ _) z ↔ _
    rw [Sp.append]
    constructor
    · rintro ⟨u, v, hu, hv, rfl⟩
      obtain ⟨x, hx, rfl⟩ := (lin_left n).map_inv hu
      obtain ⟨y, hy, rfl⟩ := (lin_right n).map_inv hv
      exact ⟨x, y, (hae x).2 hx, (hbe y).2 hy, by rw [← cat_va, va_zero, va_comm, va_zero]⟩
    · rintro ⟨x, y, hx, hy, rfl⟩
      exact ⟨_, _, (lin_left n).map ((hae x).1 hx), (lin_right n).map ((hbe y).1 hy), by rw [← cat_va, va_zero, va_comm, va_zero]⟩
  have h1 : T.length ≤ r.length := by
    have hle : SpLe T (r.map f) := fun z hz => by
      obtain ⟨x, y, hx, hy, rfl⟩ := (hTspan z).1 hz
      rw [← fin x y (Sp.supp hA hx) (Sp.supp hB hy)]
      exact lf.map ((he _).1 (wide_span.2 ⟨x, y, hx, hy, rfl⟩))
    have hss : AllSupp (n + n) (r.map f) := fun v hv => by
      obtain ⟨u, hu, rfl⟩ := List.mem_map.1 hv
      exact Supp.cat ((Supp.hi (hrs u hu)).add (Supp.lo n u))
    have := hT.le_length hss hle
    rwa [List.length_map] at this
  have h2 : r.length ≤ T.length := by
    have hle : SpLe r (T.map g) := fun z hz => by
      obtain ⟨x, y, hx, hy, rfl⟩ := wide_span.1 ((he z).2 hz)
      rw [← gin x y (Sp.supp hA hx)]
      exact lg.map ((hTspan _).2 ⟨x, y, hx, hy, rfl⟩)
    have hss : AllSupp (n + n) (T.map g) := fun v hv => by
      obtain ⟨u, hu, rfl⟩ := List.mem_map.1 hv
      exact Supp.cat (Supp.lo n u)
    have := h.le_length hss hle
    rwa [List.length_map] at this
  omega
end Go.Proofs.Ythgpmneplpdeiaa.LA
namespace Go.Proofs.Ythgpmneplpdeiaa.LA
open Go.Proofs.Ythgpmneplpdeiaa.GF
theorem ext_rows {l m : List V} (hl : l.length = m.length) (h : ∀ i, i < l.length → row l i = row m i) : l = m := by
  refine List.ext_getElem hl fun i h1 h2 => ?_
  have := h i h1
  unfold row at this
  rwa [List.getD_eq_getElem?_getD, List.getD_eq_getElem?_getD, List.getElem?_eq_getElem h1, List.getElem?_eq_getElem h2] at this
def dot (n : Nat) (u v : V) : G := S n fun k => mul (u k) (v k)
theorem dot_add (n : Nat) (u v w : V) : dot n (va u v) w = dot n u w ^^^ dot n v w := by
  unfold dot; rw [← S_add]; exact S_congr fun _ _ => add_mul _ _ _
theorem dot_smul (n : Nat) (c : G) (v w : V) : dot n (vs c v) w = mul c (dot n v w) := by
  unfold dot; rw [S_mul]; exact S_congr fun _ _ => mul_assoc _ _ _
theorem dot_comm (n : Nat) (u v : V) : dot n u v = dot n v u := S_congr fun _ _ => mul_comm _ _
theorem dot_vz (n : Nat) (w : V) : dot n vz w = 0#8 := S_zero fun _ _ => zero_mul _
theorem dot_sp {n : Nat} {l : List V} {w : V} (h : ∀ v, v ∈ l → dot n v w = 0#8) {v : V} (hv : Sp l v) : dot n v w = 0#8 := by
  induction hv with
  | zero => exact dot_vz n w
  | mem hv => exact h _ hv
  | add _ _ h1 h2 => rw [dot_add, h1, h2, BitVec.xor_zero]
  | smul c _ h1 => rw [dot_smul, h1, mul_zero]
def Perp (n : Nat) (l : List V) (w : V) : Prop := Supp n w ∧ ∀ v, v ∈ l → dot n v w = 0#8
structure IsSquare (n : Nat) (r : List V) (p : List Nat) (q : List V) : Prop where
  mem : ∀ w, w ∈ q → ∃ k, k < n ∧ k ∉ p ∧ w = fun x => if x = k then 1#8 else S r.length fun j => if x = p.getD j 0 then row r j k else 0#8
  all : ∀ k, k < n → k ∉ p → (fun x => if x = k then 1#8 else S r.length fun j => if x = p.getD j 0 then row r j k else 0#8) ∈ q
theorem pget_inj {p : List Nat} (h : p.Pairwise (· < ·)) {i j : Nat} (hi : i < p.length) (hj : j < p.length) (e : p.getD i 0 = p.getD j 0) : i = j := by
  rcases Nat.lt_trichotomy i j with l | l | l
  · have := pget h l hj; omega
  · exact l
  · have := pget h l hi; omega
theorem square_at {r : List V} {p : List Nat} (h : Red r p) {k j : Nat} (hk : k ∉ p) (hj : j < r.length) : (if p.getD j 0 = k then 1#8 else S r.length fun i => if p.getD j 0 = p.getD i 0 then row r i k else 0#8) = row r j k := by
  have : p.getD j 0 ≠ k := fun e => hk (by rw [← e]; exact pget_mem (by rw [← h.len]; exact hj))
  rw [if_neg this, S_one hj (fun i hi hij => if_neg fun e => hij (pget_inj h.inc (by rw [← h.len]; exact hj) (by rw [← h.len]; exact hi) e).symm), if_pos rfl]
theorem square_off {r : List V} {p : List Nat} (h : Red r p) {k x : Nat} (hx : x ∉ p) (hxk : x ≠ k) : (if x = k then 1#8 else S r.length fun i => if x = p.getD i 0 then row r i k else 0#8) = 0#8 := by
  rw [if_neg hxk]
  exact S_zero fun i hi => if_neg fun e => hx (by rw [e]; exact pget_mem (by rw [← h.len]; exact hi))
theorem S_places {n : Nat} {p : List Nat} (hp : p.Pairwise (· < ·)) (hlt : ∀ x, x ∈ p → x < n) (f : Nat → G) (hf : ∀ x, x < n → x ∉ p → f x = 0#8) : S n f = S p.length fun j => f (p.getD j 0) := by
  obtain ⟨m, hm⟩ : ∃ m, p.length = m := ⟨_, rfl⟩
  induction m generalizing p f with
  | zero => obtain rfl := List.length_eq_zero_iff.1 hm; simp only [List.length_nil, S]; exact S_zero fun i hi => hf i hi (by simp)
  | succ m ih =>
    rcases List.eq_nil_or_concat p with rfl | ⟨p, a, rfl⟩
    · simp at hm
    simp only [List.concat_eq_append] at *
    rw [List.pairwise_append] at hp
    have ha : a < n := hlt a (by simp)
    have hna : a ∉ p := fun h => by have := hp.2.2 a h a (by simp); omega
    -- take the last one out
    have e : S n f = S n (fun x => if x = a then 0#8 else f x) ^^^ f a := by
      have h1 : S n f = S n (fun x => (if x = a then 0#8 else f x) ^^^ (if x = a then f x else 0#8)) := S_congr fun x _ => by by_cases h : x = a <;> simp [h]
      rw [h1, S_add, S_one (f := fun x => if x = a then f x else 0#8) ha (fun j _ hj => if_neg hj), if_pos rfl]
    rw [e, ih hp.1 (fun x hx => hlt x (List.mem_append_left _ hx)) _ (fun x hx hxp => by
      by_cases h : x = a
      · rw [if_pos h]
      · rw [if_neg h]; exact hf x hx (by simp [hxp, h])) (by simpa using hm)]
    rw [List.length_append, List.length_singleton]
    show _ = S p.length _ ^^^ _
    congr 1
    · refine S_congr fun j hj => ?_
      have hm := pget_mem hj
      rw [if_neg (fun e => hna (by rw [← e]; exact hm))]
      congr 1
      rw [List.getD_eq_getElem?_getD, List.getD_eq_getElem?_getD, List.getElem?_append_left hj]
    · show f a = f ((p ++ [a]).getD p.length 0)
      rw [List.getD_eq_getElem?_getD, List.getElem?_append_right (Nat.le_refl _)]; simp
theorem IsSquare.perp {n : Nat} {r q : List V} {p : List Nat} (h : Red r p) (hr : AllSupp n r) (k : IsSquare n r p q) (w : V) : Sp q w ↔ Perp n r w := by
  have hlt := h.lt hr
  constructor
  · intro hw
    refine ⟨?_, fun v hv => ?_⟩
    · refine Sp.supp (fun u hu => ?_) hw
      obtain ⟨x, hx, hxp, rfl⟩ := k.mem u hu
      intro y hy
      exact square_off h (fun hyp => by have := hlt y hyp; omega) (by omega)
    · obtain ⟨j, hj, rfl⟩ := mem_row hv
      rw [dot_comm]
      refine dot_sp (fun u hu => ?_) hw
      obtain ⟨x, hx, hxp, rfl⟩ := k.mem u hu
      -- its product with row j: row j at x, and row j at its own lead times that
      unfold dot
      have hsplit : S n (fun y => mul (if y = x then 1#8 else S r.length fun i => if y = p.getD i 0 then row r i x else 0#8) (row r j y))
          = S n (fun y => if y = x then row r j y else 0#8) ^^^ S n (fun y => if y = x then 0#8 else mul (S r.length fun i => if y = p.getD i 0 then row r i x else 0#8) (row r j y)) := by
        rw [← S_add]; exact S_congr fun y _ => by by_cases e : y = x <;> simp [e, one_mul]
      rw [hsplit, S_one (f := fun y => if y = x then row r j y else 0#8) hx (fun y _ hy => if_neg hy), if_pos rfl]
      rw [S_places h.inc hlt _ (fun y hy hyp => by
        by_cases e : y = x
        · rw [if_pos e]
        · have := square_off h (k := x) hyp e
          rw [if_neg e] at this
          rw [if_neg e, this, zero_mul])]
      rw [← h.len, S_one hj (fun i hi hij => by
        have hne : p.getD i 0 ≠ x := fun e => hxp (by rw [← e]; exact pget_mem (by rw [← h.len]; exact hi))
        rw [if_neg hne, h.one j i hj hi, if_neg (fun e => hij e.symm), mul_zero])]
      have hne : p.getD j 0 ≠ x := fun e => hxp (by rw [← e]; exact pget_mem (by rw [← h.len]; exact hj))
      have := square_at h hxp hj
      rw [if_neg hne] at this
      rw [if_neg hne, h.one j j hj hj, if_pos rfl, mul_one, this, BitVec.xor_self]
  · rintro ⟨hs, hd⟩
    -- w is the sum, over the places without a lead, of its value there times that row
    have hrep : w = fun x => S n fun y => (if y ∈ p then vz else vs (w y) (fun z => if z = y then 1#8 else S r.length fun i => if z = p.getD i 0 then row r i y else 0#8)) x := funext fun x => by
      by_cases hx : x ∈ p
      · obtain ⟨j, hj, rfl⟩ := mem_pget hx
        have hj' : j < r.length := by rw [h.len]; exact hj
        have h0 := hd _ (row_mem hj')
        -- the product with row j is nought: w there is the sum of the others
        have hx' : p.getD j 0 < n := hlt _ hx
        have e1 : dot n (row r j) w = w (p.getD j 0) ^^^ S n (fun y => if y ∈ p then 0#8 else mul (w y) (row r j y)) := by
          unfold dot
          have : S n (fun y => mul (row r j y) (w y)) = S n (fun y => (if y = p.getD j 0 then w y else 0#8) ^^^ (if y ∈ p then 0#8 else mul (w y) (row r j y))) := S_congr fun y _ => by
            by_cases e : y = p.getD j 0
            · subst e; rw [if_pos rfl, if_pos hx, h.one j j hj' hj', if_pos rfl, one_mul, BitVec.xor_zero]
            · rw [if_neg e]
              by_cases hy : y ∈ p
              · obtain ⟨i, hi, rfl⟩ := mem_pget hy
                rw [if_pos hy, h.one j i hj' (by rw [h.len]; exact hi), if_neg (fun e2 => e (by rw [e2])), zero_mul, BitVec.xor_zero]
              · rw [if_neg hy, BitVec.zero_xor, mul_comm]
          rw [this, S_add, S_one (f := fun y => if y = p.getD j 0 then w y else 0#8) hx' (fun y _ hy => if_neg hy), if_pos rfl]
        rw [e1] at h0
        have h2 := congrArg (w (p.getD j 0) ^^^ ·) h0
        simp only [xor_cancel, BitVec.xor_zero] at h2
        rw [← h2]
        refine S_congr fun y hy => ?_
        by_cases hyp : y ∈ p
        · rw [if_pos hyp, if_pos hyp]; rfl
        · rw [if_neg hyp, if_neg hyp]
          show _ = mul (w y) (if p.getD j 0 = y then 1#8 else S r.length fun i => if p.getD j 0 = p.getD i 0 then row r i y else 0#8)
          rw [square_at h hyp hj']
      · by_cases hxn : x < n
        · rw [S_one hxn (fun y hy hyx => by
            by_cases hyp : y ∈ p
            · rw [if_pos hyp]; rfl
            · rw [if_neg hyp]
              show mul (w y) (if x = y then 1#8 else S r.length fun i => if x = p.getD i 0 then row r i y else 0#8) = _
              rw [square_off h hx (fun e => hyx e.symm), mul_zero]), if_neg hx]
          show _ = mul (w x) (if x = x then 1#8 else _)
          rw [if_pos rfl, mul_one]
        · rw [hs x (by omega)]
          refine (S_zero fun y hy => ?_).symm
          by_cases hyp : y ∈ p
          · rw [if_pos hyp]; rfl
          · rw [if_neg hyp]
            show mul (w y) (if x = y then 1#8 else S r.length fun i => if x = p.getD i 0 then row r i y else 0#8) = _
            rw [square_off h hx (by omega), mul_zero]
    rw [hrep]
    refine sp_sum n (fun y => if y ∈ p then vz else vs (w y) (fun z => if z = y then 1#8 else S r.length fun i => if z = p.getD i 0 then row r i y else 0#8)) fun y hy => ?_
    by_cases hyp : y ∈ p
    · rw [if_pos hyp]; exact .zero
    · rw [if_neg hyp]; exact .smul _ (.mem (k.all y hy hyp))
theorem perp_perp {n : Nat} {r : List V} {p : List Nat} (h : Red r p) (hr : AllSupp n r) {q : List V} (k : IsSquare n r p q) (w : V) : (Supp n w ∧ ∀ v, v ∈ q → dot n v w = 0#8) ↔ Sp r w := by
  constructor
  · rintro ⟨hs, hd⟩
    have : w = comb r (fun j => w (p.getD j 0)) := funext fun x => by
      by_cases hx : x ∈ p
      · obtain ⟨j, hj, rfl⟩ := mem_pget hx
        have hj' : j < r.length := by rw [h.len]; exact hj
        show _ = S r.length _
        rw [S_one hj' (fun i hi hij => by rw [h.one i j hi hj', if_neg hij, mul_zero]), h.one j j hj' hj', if_pos rfl, mul_one]
      · by_cases hxn : x < n
        · have h0 := hd _ (k.all x hxn hx)
          unfold dot at h0
          have hsplit : S n (fun y => mul (if y = x then 1#8 else S r.length fun i => if y = p.getD i 0 then row r i x else 0#8) (w y))
              = S n (fun y => if y = x then w y else 0#8) ^^^ S n (fun y => if y = x then 0#8 else mul (S r.length fun i => if y = p.getD i 0 then row r i x else 0#8) (w y)) := by
            rw [← S_add]; exact S_congr fun y _ => by by_cases e : y = x <;> simp [e, one_mul]
          rw [hsplit, S_one (f := fun y => if y = x then w y else 0#8) hxn (fun y _ hy => if_neg hy), if_pos rfl] at h0
          rw [S_places h.inc (h.lt hr) _ (fun y hy hyp => by
            by_cases e : y = x
            · rw [if_pos e]
            · have := square_off h (k := x) hyp e
              rw [if_neg e] at this
              rw [if_neg e, this, zero_mul])] at h0
          have h2 := congrArg (w x ^^^ ·) h0
          simp only [xor_cancel, BitVec.xor_zero] at h2
          rw [← h2, ← h.len]
          refine S_congr fun j hj => ?_
          have hne : p.getD j 0 ≠ x := fun e => hx (by rw [← e]; exact pget_mem (by rw [← h.len]; exact hj))
          have := square_at h hx hj
          rw [if_neg hne] at this
          rw [if_neg hne, this, mul_comm]
        · rw [hs x (by omega)]
          exact (S_zero fun j hj => by rw [hr _ (row_mem hj) x (by omega), mul_zero]).symm
    rw [this]; exact comb_sp _ _
  · intro hw
    refine ⟨Sp.supp hr hw, fun v hv => ?_⟩
    have := ((k.perp h hr v).1 (.mem hv)).2
    rw [dot_comm]
    exact dot_sp this hw
end Go.Proofs.Ythgpmneplpdeiaa.LA
end
