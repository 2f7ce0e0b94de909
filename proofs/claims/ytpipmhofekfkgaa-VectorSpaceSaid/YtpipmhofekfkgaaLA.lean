/- Vectors over the field, their spans, and reduced rows: one span has one reduced form. -/
import Derived.Test.YtpipmhofekfkgaaGF
namespace Go.Proofs.Ytpipmhofekfkgaa.LA
open Go.Proofs.Ytpipmhofekfkgaa.GF

/-- sums -/
def S : Nat → (Nat → G) → G | 0, _ => 0#8 | n + 1, f => S n f ^^^ f n

theorem S_congr {n : Nat} {f g : Nat → G} (h : ∀ i, i < n → f i = g i) : S n f = S n g := by
  induction n with
  | zero => rfl
  | succ n ih => simp only [S]; rw [ih (fun i hi => h i (by omega)), h n (by omega)]

theorem S_zero {n : Nat} {f : Nat → G} (h : ∀ i, i < n → f i = 0#8) : S n f = 0#8 := by
  induction n with
  | zero => rfl
  | succ n ih => simp only [S]; rw [ih (fun i hi => h i (by omega)), h n (by omega)]; simp

theorem S_add (n : Nat) (f g : Nat → G) : S n (fun i => f i ^^^ g i) = S n f ^^^ S n g := by
  induction n with
  | zero => simp [S]
  | succ n ih => simp only [S]; rw [ih]; ac_rfl

theorem S_mul (n : Nat) (c : G) (f : Nat → G) : mul c (S n f) = S n (fun i => mul c (f i)) := by
  induction n with
  | zero => simp [S, mul_zero]
  | succ n ih => simp only [S]; rw [mul_add, ih]

theorem S_comm (n m : Nat) (f : Nat → Nat → G) : S n (fun i => S m (fun j => f i j)) = S m (fun j => S n (fun i => f i j)) := by
  induction n with
  | zero => simp only [S]; exact (S_zero (fun _ _ => rfl)).symm
  | succ n ih => simp only [S]; rw [ih, ← S_add]

theorem S_one {n : Nat} {f : Nat → G} {i : Nat} (hi : i < n) (h : ∀ j, j < n → j ≠ i → f j = 0#8) : S n f = f i := by
  induction n with
  | zero => omega
  | succ n ih =>
    simp only [S]
    by_cases e : i = n
    · subst e; rw [S_zero (fun j hj => h j (by omega) (by omega))]; simp
    · rw [ih (by omega) (fun j hj => h j (by omega)), h n (by omega) (by omega)]; simp

theorem S_delta {n i : Nat} (hi : i < n) (f : Nat → G) : S n (fun j => mul (if j = i then 1#8 else 0#8) (f j)) = f i := by
  rw [S_one hi (fun j _ hj => by rw [if_neg hj, zero_mul])]
  simp [one_mul]

theorem S_append (n m : Nat) (f : Nat → G) : S (n + m) f = S n f ^^^ S m (fun i => f (n + i)) := by
  induction m with
  | zero => simp [S]
  | succ m ih => rw [← Nat.add_assoc]; simp only [S]; rw [ih]; ac_rfl

abbrev V := Nat → G
def vz : V := fun _ => 0#8
def va (u v : V) : V := fun k => u k ^^^ v k
def vs (c : G) (u : V) : V := fun k => mul c (u k)

theorem va_comm (u v : V) : va u v = va v u := funext fun _ => BitVec.xor_comm _ _
theorem va_assoc (u v w : V) : va (va u v) w = va u (va v w) := funext fun _ => BitVec.xor_assoc _ _ _
theorem va_self (u : V) : va u u = vz := funext fun _ => BitVec.xor_self
theorem va_zero (u : V) : va u vz = u := funext fun _ => BitVec.xor_zero
theorem va_cancel (u v : V) : va u (va u v) = v := funext fun _ => xor_cancel _ _
theorem vs_zero (u : V) : vs 0#8 u = vz := funext fun _ => zero_mul _
theorem vs_one (u : V) : vs 1#8 u = u := funext fun _ => one_mul _
theorem vs_vs (a b : G) (u : V) : vs a (vs b u) = vs (mul a b) u := funext fun _ => (mul_assoc _ _ _).symm
theorem vs_va (a : G) (u v : V) : vs a (va u v) = va (vs a u) (vs a v) := funext fun _ => mul_add _ _ _

/-- the span of some rows -/
inductive Sp (l : List V) : V → Prop
  | zero : Sp l vz
  | mem {v : V} : v ∈ l → Sp l v
  | add {u v : V} : Sp l u → Sp l v → Sp l (va u v)
  | smul {v : V} (c : G) : Sp l v → Sp l (vs c v)

theorem Sp.sub {l m : List V} (h : ∀ v, v ∈ l → Sp m v) {v : V} (hv : Sp l v) : Sp m v := by
  induction hv with
  | zero => exact .zero
  | mem hv => exact h _ hv
  | add _ _ h1 h2 => exact .add h1 h2
  | smul c _ h1 => exact .smul c h1

def SpEq (l m : List V) : Prop := ∀ v, Sp l v ↔ Sp m v
def SpLe (l m : List V) : Prop := ∀ v, Sp l v → Sp m v
theorem SpEq.refl (l : List V) : SpEq l l := fun _ => Iff.rfl
theorem SpEq.symm {l m : List V} (h : SpEq l m) : SpEq m l := fun v => (h v).symm
theorem SpEq.trans {l m n : List V} (h : SpEq l m) (k : SpEq m n) : SpEq l n := fun v => (h v).trans (k v)
theorem SpEq.le {l m : List V} (h : SpEq l m) : SpLe l m := fun v => (h v).1
theorem SpEq.ge {l m : List V} (h : SpEq l m) : SpLe m l := fun v => (h v).2
theorem SpLe.trans {l m n : List V} (h : SpLe l m) (k : SpLe m n) : SpLe l n := fun v hv => k v (h v hv)
theorem SpLe.eq {l m : List V} (h : SpLe l m) (k : SpLe m l) : SpEq l m := fun v => ⟨h v, k v⟩
theorem SpLe.of_mem {l m : List V} (h : ∀ v, v ∈ l → Sp m v) : SpLe l m := fun _ hv => hv.sub h
theorem SpLe.of_sub {l m : List V} (h : ∀ v, v ∈ l → v ∈ m) : SpLe l m := SpLe.of_mem fun v hv => .mem (h v hv)
theorem SpEq.of_mem {l m : List V} (h : ∀ v, v ∈ l → Sp m v) (k : ∀ v, v ∈ m → Sp l v) : SpEq l m := (SpLe.of_mem h).eq (SpLe.of_mem k)
theorem SpEq.of_same {l m : List V} (h : ∀ v, v ∈ l ↔ v ∈ m) : SpEq l m := .of_mem (fun v hv => .mem ((h v).1 hv)) (fun v hv => .mem ((h v).2 hv))

theorem Sp.nil {v : V} (h : Sp [] v) : v = vz := by
  induction h with
  | zero => rfl
  | mem h => cases h
  | add _ _ h1 h2 => rw [h1, h2, va_zero]
  | smul c _ h1 => rw [h1]; exact funext fun _ => mul_zero _

/-- what is in the span of two lists together -/
theorem Sp.append {l m : List V} {v : V} : Sp (l ++ m) v ↔ ∃ a b, Sp l a ∧ Sp m b ∧ v = va a b := by
  constructor
  · intro h
    induction h with
    | zero => exact ⟨vz, vz, .zero, .zero, (va_zero _).symm⟩
    | @mem v hv =>
      rcases List.mem_append.1 hv with h | h
      · exact ⟨v, vz, .mem h, .zero, (va_zero _).symm⟩
      · exact ⟨vz, v, .zero, .mem h, by rw [va_comm, va_zero]⟩
    | add _ _ h1 h2 =>
      obtain ⟨a, b, ha, hb, rfl⟩ := h1
      obtain ⟨c, d, hc, hd, rfl⟩ := h2
      exact ⟨va a c, va b d, .add ha hc, .add hb hd, funext fun k => by simp only [va]; ac_rfl⟩
    | smul c _ h1 =>
      obtain ⟨a, b, ha, hb, rfl⟩ := h1
      exact ⟨vs c a, vs c b, .smul c ha, .smul c hb, vs_va _ _ _⟩
  · rintro ⟨a, b, ha, hb, rfl⟩
    exact .add (ha.sub fun v hv => .mem (List.mem_append_left _ hv)) (hb.sub fun v hv => .mem (List.mem_append_right _ hv))

theorem SpLe.append {l m n : List V} (h : SpLe l n) (k : SpLe m n) : SpLe (l ++ m) n :=
  SpLe.of_mem fun v hv => (List.mem_append.1 hv).elim (fun h' => h v (.mem h')) (fun h' => k v (.mem h'))
theorem SpLe.left (l m : List V) : SpLe l (l ++ m) := SpLe.of_sub fun _ h => List.mem_append_left _ h
theorem SpLe.right (l m : List V) : SpLe m (l ++ m) := SpLe.of_sub fun _ h => List.mem_append_right _ h
theorem SpEq.append {l l' m m' : List V} (h : SpEq l l') (k : SpEq m m') : SpEq (l ++ m) (l' ++ m') :=
  (SpLe.append (h.le.trans (SpLe.left _ _)) (k.le.trans (SpLe.right _ _))).eq (SpLe.append (h.ge.trans (SpLe.left _ _)) (k.ge.trans (SpLe.right _ _)))

/-- a row of a list of rows; a combination of rows -/
def row (l : List V) (i : Nat) : V := l.getD i vz
def comb (l : List V) (c : Nat → G) : V := fun k => S l.length (fun j => mul (c j) (row l j k))

theorem row_mem {l : List V} {i : Nat} (h : i < l.length) : row l i ∈ l := by
  unfold row
  rw [List.getD_eq_getElem?_getD, List.getElem?_eq_getElem h]
  exact List.getElem_mem h
theorem mem_row {l : List V} {v : V} (h : v ∈ l) : ∃ i, i < l.length ∧ row l i = v := by
  obtain ⟨i, hi, e⟩ := List.getElem_of_mem h
  exact ⟨i, hi, by unfold row; rw [List.getD_eq_getElem?_getD, List.getElem?_eq_getElem hi]; exact e⟩

theorem sp_sum {l : List V} (n : Nat) (f : Nat → V) (h : ∀ i, i < n → Sp l (f i)) : Sp l (fun k => S n (fun i => f i k)) := by
  induction n with
  | zero => exact .zero
  | succ n ih => exact .add (ih (fun i hi => h i (by omega))) (h n (by omega))

theorem comb_sp (l : List V) (c : Nat → G) : Sp l (comb l c) := sp_sum l.length (fun j => vs (c j) (row l j)) fun _ hi => .smul _ (.mem (row_mem hi))

theorem sp_comb {l : List V} {v : V} (h : Sp l v) : ∃ c, v = comb l c := by
  induction h with
  | zero => exact ⟨fun _ => 0#8, funext fun k => (S_zero (fun _ _ => zero_mul _)).symm⟩
  | mem hv =>
    obtain ⟨i, hi, rfl⟩ := mem_row hv
    exact ⟨fun j => if j = i then 1#8 else 0#8, funext fun k => (S_delta hi (fun j => row l j k)).symm⟩
  | add _ _ h1 h2 =>
    obtain ⟨c, rfl⟩ := h1
    obtain ⟨d, rfl⟩ := h2
    exact ⟨fun j => c j ^^^ d j, funext fun k => by simp only [va, comb]; rw [← S_add]; exact S_congr fun i _ => (add_mul _ _ _).symm⟩
  | smul a _ h1 =>
    obtain ⟨c, rfl⟩ := h1
    exact ⟨fun j => mul a (c j), funext fun k => by simp only [vs, comb]; rw [S_mul]; exact S_congr fun i _ => (mul_assoc _ _ _).symm⟩

/-- reduced rows, by rising places -/
structure Red (r : List V) (p : List Nat) : Prop where
  len : r.length = p.length
  inc : p.Pairwise (· < ·)
  one : ∀ i j, i < r.length → j < r.length → row r i (p.getD j 0) = if i = j then 1#8 else 0#8
  low : ∀ i, i < r.length → ∀ k, k < p.getD i 0 → row r i k = 0#8

theorem pget {p : List Nat} (h : p.Pairwise (· < ·)) {i j : Nat} (hij : i < j) (hj : j < p.length) : p.getD i 0 < p.getD j 0 := by
  rw [List.getD_eq_getElem?_getD, List.getD_eq_getElem?_getD, List.getElem?_eq_getElem hj, List.getElem?_eq_getElem (Nat.lt_trans hij hj)]
  exact List.pairwise_iff_getElem.1 h i j (Nat.lt_trans hij hj) hj hij
theorem pget_mem {p : List Nat} {i : Nat} (h : i < p.length) : p.getD i 0 ∈ p := by
  rw [List.getD_eq_getElem?_getD, List.getElem?_eq_getElem h]; exact List.getElem_mem h
theorem mem_pget {p : List Nat} {x : Nat} (h : x ∈ p) : ∃ i, i < p.length ∧ p.getD i 0 = x := by
  obtain ⟨i, hi, e⟩ := List.getElem_of_mem h
  exact ⟨i, hi, by rw [List.getD_eq_getElem?_getD, List.getElem?_eq_getElem hi]; exact e⟩

/-- coordinates: the values at the places -/
theorem Red.coord {r : List V} {p : List Nat} (h : Red r p) {v : V} (hv : Sp r v) : v = comb r (fun j => v (p.getD j 0)) := by
  obtain ⟨c, rfl⟩ := sp_comb hv
  refine funext fun k => S_congr fun j hj => ?_
  show mul (c j) _ = mul (S r.length fun i => mul (c i) (row r i (p.getD j 0))) _
  rw [S_one hj (fun i hi hij => by rw [h.one i j hi hj, if_neg hij, mul_zero]), h.one j j hj hj, if_pos rfl, mul_one]

def Lead (v : V) (k : Nat) : Prop := v k ≠ 0#8 ∧ ∀ i, i < k → v i = 0#8
theorem Lead.unique {v : V} {a b : Nat} (h : Lead v a) (k : Lead v b) : a = b := by
  rcases Nat.lt_trichotomy a b with l | l | l
  · exact absurd (k.2 a l) h.1
  · exact l
  · exact absurd (h.2 b l) k.1

theorem least (p : Nat → Prop) (n : Nat) (h : p n) : ∃ m, m ≤ n ∧ p m ∧ ∀ i, i < m → ¬ p i := by
  induction n using Nat.strongRecOn with
  | _ n ih =>
    by_cases e : ∃ i, i < n ∧ p i
    · obtain ⟨i, hi, hp⟩ := e
      obtain ⟨m, hm, h1, h2⟩ := ih i hi hp
      exact ⟨m, by omega, h1, h2⟩
    · exact ⟨n, Nat.le_refl _, h, fun i hi hp => e ⟨i, hi, hp⟩⟩

theorem exists_lead {v : V} (h : v ≠ vz) : ∃ k, Lead v k := by
  have : ∃ k, v k ≠ 0#8 := Classical.byContradiction fun hn => h (funext fun k => Classical.byContradiction fun hk => hn ⟨k, hk⟩)
  obtain ⟨k, hk⟩ := this
  obtain ⟨m, _, h1, h2⟩ := least (fun k => v k ≠ 0#8) k hk
  exact ⟨m, h1, fun i hi => Classical.byContradiction fun hk => h2 i hi hk⟩

theorem Red.lead_row {r : List V} {p : List Nat} (h : Red r p) {i : Nat} (hi : i < r.length) : Lead (row r i) (p.getD i 0) :=
  ⟨by rw [h.one i i hi hi, if_pos rfl]; decide, h.low i hi⟩

/-- the lead of what is in the span is one of the places -/
theorem Red.lead {r : List V} {p : List Nat} (h : Red r p) {v : V} (hv : Sp r v) {k : Nat} (hk : Lead v k) : ∃ i, i < r.length ∧ p.getD i 0 = k := by
  have hc := h.coord hv
  by_cases e : ∃ j, j < r.length ∧ v (p.getD j 0) ≠ 0#8
  · obtain ⟨j, hj, hne⟩ := e
    obtain ⟨m, hm, ⟨hml, h1⟩, h2⟩ := least (fun j => j < r.length ∧ v (p.getD j 0) ≠ 0#8) j ⟨hj, hne⟩
    refine ⟨m, hml, Lead.unique ⟨h1, fun i hi => ?_⟩ hk⟩
    rw [hc]
    refine S_zero fun j' hj' => ?_
    by_cases l : j' < m
    · have : v (p.getD j' 0) = 0#8 := Classical.byContradiction fun hn => h2 j' l ⟨hj', hn⟩
      show mul (v (p.getD j' 0)) _ = _
      rw [this, zero_mul]
    · have hp : p.getD m 0 ≤ p.getD j' 0 := by
        rcases Nat.lt_or_eq_of_le (Nat.le_of_not_lt l) with q | q
        · exact Nat.le_of_lt (pget h.inc q (by rw [← h.len]; exact hj'))
        · rw [q]; exact Nat.le_refl _
      rw [h.low j' hj' i (by omega), mul_zero]
  · have : v = vz := by
      rw [hc]
      exact funext fun k => S_zero fun j hj => by
        have : v (p.getD j 0) = 0#8 := Classical.byContradiction fun hn => e ⟨j, hj, hn⟩
        show mul (v (p.getD j 0)) _ = _
        rw [this, zero_mul]
    exact absurd (by rw [this]; rfl) hk.1

theorem sorted_ext : ∀ {p q : List Nat}, p.Pairwise (· < ·) → q.Pairwise (· < ·) → (∀ x, x ∈ p ↔ x ∈ q) → p = q
  | [], [], _, _, _ => rfl
  | [], b :: q, _, _, h => by have := (h b).2 (List.mem_cons_self ..); cases this
  | a :: p, [], _, _, h => by have := (h a).1 (List.mem_cons_self ..); cases this
  | a :: p, b :: q, hp, hq, h => by
    have hp' := List.pairwise_cons.1 hp
    have hq' := List.pairwise_cons.1 hq
    have e : a = b := by
      have h1 := (h a).1 (List.mem_cons_self ..)
      have h2 := (h b).2 (List.mem_cons_self ..)
      rcases List.mem_cons.1 h1 with h1 | h1
      · exact h1
      rcases List.mem_cons.1 h2 with h2 | h2
      · exact h2.symm
      have := hq'.1 a h1
      have := hp'.1 b h2
      omega
    subst e
    rw [sorted_ext hp'.2 hq'.2 fun x => ?_]
    constructor
    · intro hx
      rcases List.mem_cons.1 ((h x).1 (List.mem_cons_of_mem _ hx)) with e | e
      · have := hp'.1 x hx; omega
      · exact e
    · intro hx
      rcases List.mem_cons.1 ((h x).2 (List.mem_cons_of_mem _ hx)) with e | e
      · have := hq'.1 x hx; omega
      · exact e

theorem sorted_le : ∀ {p q : List Nat}, p.Pairwise (· < ·) → q.Pairwise (· < ·) → (∀ x, x ∈ p → x ∈ q) → p.length ≤ q.length
  | [], _, _, _, _ => Nat.zero_le _
  | a :: p, [], _, _, h => by have := h a (List.mem_cons_self ..); cases this
  | a :: p, b :: q, hp, hq, h => by
    have hp' := List.pairwise_cons.1 hp
    have hq' := List.pairwise_cons.1 hq
    by_cases e : a = b
    · subst e
      have := sorted_le hp'.2 hq'.2 fun x hx => by
        rcases List.mem_cons.1 (h x (List.mem_cons_of_mem _ hx)) with e | e
        · have := hp'.1 x hx; omega
        · exact e
      simp only [List.length_cons]; omega
    · have ha : a ∈ q := by
        rcases List.mem_cons.1 (h a (List.mem_cons_self ..)) with h1 | h1
        · exact absurd h1 e
        · exact h1
      have hb := hq'.1 a ha
      have := sorted_le hp hq'.2 fun x hx => by
        rcases List.mem_cons.1 (h x hx) with e' | e'
        · rcases List.mem_cons.1 hx with e2 | e2
          · omega
          · have := hp'.1 x e2; omega
        · exact e'
      simp only [List.length_cons] at *; omega
termination_by p q => p.length + q.length

theorem Red.places_sub {r s : List V} {p q : List Nat} (h : Red r p) (k : Red s q) (hl : SpLe r s) : ∀ x, x ∈ p → x ∈ q := by
  intro x hx
  obtain ⟨i, hi, rfl⟩ := mem_pget hx
  have hi' : i < r.length := by rw [h.len]; exact hi
  obtain ⟨j, hj, e⟩ := k.lead (hl _ (.mem (row_mem hi'))) (h.lead_row hi')
  rw [← e]; exact pget_mem (by rw [← k.len]; exact hj)

/-- a span that lies in another one has no more rows -/
theorem Red.le {r s : List V} {p q : List Nat} (h : Red r p) (k : Red s q) (hl : SpLe r s) : r.length ≤ s.length := by
  rw [h.len, k.len]; exact sorted_le h.inc k.inc (h.places_sub k hl)

theorem Red.places {r s : List V} {p q : List Nat} (h : Red r p) (k : Red s q) (he : SpEq r s) : p = q :=
  sorted_ext h.inc k.inc fun x => ⟨h.places_sub k he.le x, k.places_sub h he.ge x⟩

/-- one reduced form of one span -/
theorem Red.unique {r s : List V} {p q : List Nat} (h : Red r p) (k : Red s q) (he : SpEq r s) : r = s := by
  have e := h.places k he
  subst e
  have hl : r.length = s.length := by rw [h.len, k.len]
  have hrow : ∀ i, i < r.length → row r i = row s i := by
    intro i hi
    have hi' : i < s.length := by omega
    have hc := k.coord ((he _).1 (.mem (row_mem hi)))
    rw [hc]
    refine funext fun x => ?_
    show S s.length _ = _
    rw [S_congr (g := fun j => mul (if j = i then 1#8 else 0#8) (row s j x)) (fun j hj => ?_)]
    · exact S_delta hi' (fun j => row s j x)
    · show mul (row r i (p.getD j 0)) _ = _
      rw [h.one i j hi (by omega)]
      by_cases e : i = j
      · rw [if_pos e, if_pos e.symm]
      · rw [if_neg e, if_neg (fun h => e h.symm)]
  refine List.ext_getElem hl fun i h1 h2 => ?_
  have := hrow i h1
  unfold row at this
  rwa [List.getD_eq_getElem?_getD, List.getD_eq_getElem?_getD, List.getElem?_eq_getElem h1, List.getElem?_eq_getElem h2] at this

/-- the same length and a span within: the same span -/
theorem Red.eq_of_le {r s : List V} {p q : List Nat} (h : Red r p) (k : Red s q) (hl : SpLe r s) (hn : s.length ≤ r.length) : SpEq r s := by
  refine hl.eq fun v hv => ?_
  have hpq : p = q := by
    have hsub := h.places_sub k hl
    have hlen : q.length ≤ p.length := by rw [← h.len, ← k.len]; exact hn
    clear hl hv v hn
    have key : ∀ (p q : List Nat), p.Pairwise (· < ·) → q.Pairwise (· < ·) → (∀ x, x ∈ p → x ∈ q) → q.length ≤ p.length → p = q := by
      intro p
      induction p with
      | nil => intro q _ _ _ hn; exact (List.length_eq_zero_iff.1 (by simpa using hn)).symm
      | cons a p ih =>
        intro q hp hq hs hn
        cases q with
        | nil => exact absurd (hs a (List.mem_cons_self ..)) List.not_mem_nil
        | cons b q =>
          have hp' := List.pairwise_cons.1 hp
          have hq' := List.pairwise_cons.1 hq
          by_cases e : a = b
          · subst e
            rw [ih q hp'.2 hq'.2 (fun x hx => by
              rcases List.mem_cons.1 (hs x (List.mem_cons_of_mem _ hx)) with e | e
              · have := hp'.1 x hx; omega
              · exact e) (by simpa using hn)]
          · exfalso
            have ha : a ∈ q := by
              rcases List.mem_cons.1 (hs a (List.mem_cons_self ..)) with h1 | h1
              · exact absurd h1 e
              · exact h1
            have hb := hq'.1 a ha
            have := sorted_le hp hq'.2 fun x hx => by
              rcases List.mem_cons.1 (hs x hx) with e' | e'
              · rcases List.mem_cons.1 hx with e2 | e2
                · omega
                · have := hp'.1 x e2; omega
              · exact e'
            simp only [List.length_cons] at *; omega
    exact key p q h.inc k.inc hsub hlen
  subst hpq
  -- v less its coordinates on r has no lead
  have hr : Sp s (comb r (fun j => v (p.getD j 0))) := hl _ (comb_sp _ _)
  have hd : Sp s (va v (comb r (fun j => v (p.getD j 0)))) := .add hv hr
  have hz : va v (comb r (fun j => v (p.getD j 0))) = vz := by
    rw [k.coord hd]
    refine funext fun x => S_zero fun j hj => ?_
    have hj' : j < r.length := by rw [h.len, ← k.len]; exact hj
    have : va v (comb r (fun j => v (p.getD j 0))) (p.getD j 0) = 0#8 := by
      show v _ ^^^ S r.length _ = 0#8
      rw [S_one hj' (fun i hi hij => by rw [h.one i j hi hj', if_neg hij, mul_zero]), h.one j j hj' hj', if_pos rfl, mul_one, BitVec.xor_self]
    show mul (va v (comb r (fun j => v (p.getD j 0))) (p.getD j 0)) _ = _
    rw [this, zero_mul]
  have : v = comb r (fun j => v (p.getD j 0)) := by
    have := congrArg (va (comb r (fun j => v (p.getD j 0)))) hz
    rw [va_comm v, va_cancel, va_zero] at this
    exact this
  rw [this]; exact comb_sp _ _
end Go.Proofs.Ytpipmhofekfkgaa.LA
