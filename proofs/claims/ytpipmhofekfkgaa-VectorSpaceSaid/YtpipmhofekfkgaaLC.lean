/- The ranks of the sum and the meet of two spans. -/
import Derived.Test.YtpipmhofekfkgaaLB
namespace Go.Proofs.Ytpipmhofekfkgaa.LA
open Go.Proofs.Ytpipmhofekfkgaa.GF

/-! halves -/
def cat (n : Nat) (u v : V) : V := fun k => if k < n then u k else v (k - n)
def hi (n : Nat) (v : V) : V := fun k => v (n + k)
def lo (n : Nat) (v : V) : V := fun k => if k < n then v k else 0#8
theorem cat_va (n : Nat) (a b c d : V) : cat n (va a b) (va c d) = va (cat n a c) (cat n b d) := funext fun k => by
  simp only [cat, va]; split <;> rfl
theorem cat_vs (n : Nat) (x : G) (a b : V) : cat n (vs x a) (vs x b) = vs x (cat n a b) := funext fun k => by
  simp only [cat, vs]; split <;> rfl
theorem cat_vz (n : Nat) : cat n vz vz = vz := funext fun k => by simp [cat, vz]
theorem hi_cat (n : Nat) (a b : V) : hi n (cat n a b) = b := funext fun k => by
  simp only [hi, cat]; rw [if_neg (by omega)]; exact congrArg b (by omega)
theorem lo_cat {n : Nat} {a : V} (h : Supp n a) (b : V) : lo n (cat n a b) = a := funext fun k => by
  simp only [lo, cat]; split
  · rfl
  · exact (h k (by omega)).symm
theorem lo_va (n : Nat) (a b : V) : lo n (va a b) = va (lo n a) (lo n b) := funext fun k => by simp only [lo, va]; split <;> simp
theorem lo_vs (n : Nat) (x : G) (a : V) : lo n (vs x a) = vs x (lo n a) := funext fun k => by simp only [lo, vs]; split <;> simp [mul_zero]
theorem hi_va (n : Nat) (a b : V) : hi n (va a b) = va (hi n a) (hi n b) := rfl
theorem hi_vs (n : Nat) (x : G) (a : V) : hi n (vs x a) = vs x (hi n a) := rfl
theorem cat_lo_hi (n : Nat) (v : V) : cat n (lo n v) (hi n v) = v := funext fun k => by
  simp only [cat, lo, hi]; split
  · rfl
  · exact congrArg v (by omega)
theorem Supp.cat {n : Nat} {a b : V} (hb : Supp n b) : Supp (n + n) (cat n a b) := fun k hk => by
  simp only [LA.cat]; rw [if_neg (by omega)]; exact hb _ (by omega)
theorem Supp.lo (n : Nat) (v : V) : Supp n (lo n v) := fun k hk => by simp only [LA.lo]; rw [if_neg (by omega)]
theorem Supp.hi {n : Nat} {v : V} (h : Supp (n + n) v) : Supp n (hi n v) := fun k hk => h _ (by omega)

/-- a map that keeps sums and products keeps spans -/
structure Lin (f : V → V) : Prop where
  zero : f vz = vz
  add : ∀ u v, f (va u v) = va (f u) (f v)
  smul : ∀ c v, f (vs c v) = vs c (f v)
theorem Lin.map {f : V → V} (h : Lin f) {l : List V} {v : V} (hv : Sp l v) : Sp (l.map f) (f v) := by
  induction hv with
  | zero => rw [h.zero]; exact .zero
  | mem hv => exact .mem (List.mem_map.2 ⟨_, hv, rfl⟩)
  | add _ _ h1 h2 => rw [h.add]; exact .add h1 h2
  | smul c _ h1 => rw [h.smul]; exact .smul c h1
theorem Lin.map_inv {f : V → V} (h : Lin f) {l : List V} {v : V} (hv : Sp (l.map f) v) : ∃ u, Sp l u ∧ f u = v := by
  induction hv with
  | zero => exact ⟨vz, .zero, h.zero⟩
  | mem hv => obtain ⟨u, hu, rfl⟩ := List.mem_map.1 hv; exact ⟨u, .mem hu, rfl⟩
  | add _ _ h1 h2 => obtain ⟨a, ha, rfl⟩ := h1; obtain ⟨b, hb, rfl⟩ := h2; exact ⟨_, .add ha hb, h.add a b⟩
  | smul c _ h1 => obtain ⟨a, ha, rfl⟩ := h1; exact ⟨_, .smul c ha, h.smul c a⟩
theorem lin_hi (n : Nat) : Lin (hi n) := ⟨rfl, fun _ _ => rfl, fun _ _ => rfl⟩
theorem lin_lo (n : Nat) : Lin (lo n) := ⟨funext fun k => by simp [lo, vz], lo_va n, lo_vs n⟩

/-- the first rows of a reduced list, those with a place below n; the others begin at n -/
theorem Red.split {r : List V} {p : List Nat} (h : Red r p) (n : Nat) : ∃ d, d ≤ r.length ∧ (∀ i, i < d → p.getD i 0 < n) ∧ (∀ i, d ≤ i → i < r.length → n ≤ p.getD i 0) := by
  by_cases e : ∃ i, i < r.length ∧ n ≤ p.getD i 0
  · obtain ⟨i, hi⟩ := e
    obtain ⟨m, _, ⟨hm1, hm2⟩, hm⟩ := least (fun i => i < r.length ∧ n ≤ p.getD i 0) i hi
    refine ⟨m, Nat.le_of_lt hm1, fun j hj => Nat.lt_of_not_le fun hle => hm j hj ⟨by omega, hle⟩, fun j h1 h2 => ?_⟩
    rcases Nat.lt_or_eq_of_le h1 with q | q
    · have := pget h.inc q (by rw [← h.len]; exact h2); omega
    · rw [← q]; exact hm2
  · exact ⟨r.length, Nat.le_refl _, fun i hi => Nat.lt_of_not_le fun hle => e ⟨i, hi, hle⟩, fun i h1 h2 => by omega⟩

theorem row_mapf {f : V → V} {l : List V} {i : Nat} (h : i < l.length) : row (l.map f) i = f (row l i) := by
  unfold row
  rw [List.getD_eq_getElem?_getD, List.getD_eq_getElem?_getD, List.getElem?_map, List.getElem?_eq_getElem h]; rfl
theorem row_drop {l : List V} {d i : Nat} : row (l.drop d) i = row l (d + i) := by
  unfold row; rw [List.getD_eq_getElem?_getD, List.getD_eq_getElem?_getD, List.getElem?_drop]
theorem pget_take {p : List Nat} {d i : Nat} (h : i < d) : (p.take d).getD i 0 = p.getD i 0 := by
  rw [List.getD_eq_getElem?_getD, List.getD_eq_getElem?_getD, List.getElem?_take_of_lt h]
theorem pget_drop {p : List Nat} {d i : Nat} : (p.drop d).getD i 0 = p.getD (d + i) 0 := by
  rw [List.getD_eq_getElem?_getD, List.getD_eq_getElem?_getD, List.getElem?_drop]

/-- the first halves of the first rows are reduced; what is left of the others are their second halves -/
theorem Red.lows {r : List V} {p : List Nat} (h : Red r p) {n d : Nat} (hd : d ≤ r.length) (h1 : ∀ i, i < d → p.getD i 0 < n) : Red ((r.take d).map (lo n)) (p.take d) := by
  have hl : (r.take d).length = d := by rw [List.length_take]; omega
  refine ⟨by rw [List.length_map, hl, List.length_take, ← h.len]; omega, h.inc.sublist (List.take_sublist d p), fun i j hi hj => ?_, fun i hi k hk => ?_⟩
  · rw [List.length_map, hl] at hi hj
    rw [row_mapf (by omega), row_take hi, pget_take hj]
    simp only [lo]; rw [if_pos (h1 j hj)]; exact h.one i j (by omega) (by omega)
  · rw [List.length_map, hl] at hi
    rw [pget_take hi] at hk
    rw [row_mapf (by omega), row_take hi]
    simp only [lo]; split
    · exact h.low i (by omega) k hk
    · rfl
theorem Red.highs {r : List V} {p : List Nat} (h : Red r p) {n d : Nat} (hd : d ≤ r.length) (h2 : ∀ i, d ≤ i → i < r.length → n ≤ p.getD i 0) : Red ((r.drop d).map (hi n)) ((p.drop d).map (· - n)) := by
  have hl : (r.drop d).length = r.length - d := by rw [List.length_drop]
  have hge : ∀ x, x ∈ p.drop d → n ≤ x := fun x hx => by
    obtain ⟨i, hi, rfl⟩ := mem_pget hx
    rw [List.length_drop, ← h.len] at hi
    rw [pget_drop]; exact h2 _ (by omega) (by omega)
  have hget : ∀ j, j < r.length - d → ((p.drop d).map (· - n)).getD j 0 = p.getD (d + j) 0 - n := fun j hj => by
    have : j < (p.drop d).length := by rw [List.length_drop, ← h.len]; omega
    rw [← pget_drop, List.getD_eq_getElem?_getD, List.getD_eq_getElem?_getD, List.getElem?_map, List.getElem?_eq_getElem this]; rfl
  refine ⟨by rw [List.length_map, List.length_map, hl, List.length_drop, h.len], ?_, fun i j hi hj => ?_, fun i hi k hk => ?_⟩
  · rw [List.pairwise_map]
    refine List.Pairwise.imp_of_mem ?_ (h.inc.sublist (List.drop_sublist d p))
    intro a b ha hb hab
    have := hge a ha; have := hge b hb; omega
  · rw [List.length_map, hl] at hi hj
    rw [row_mapf (by omega), row_drop, hget j hj]
    simp only [LA.hi]
    have := h2 (d + j) (by omega) (by omega)
    rw [show n + (p.getD (d + j) 0 - n) = p.getD (d + j) 0 from by omega, h.one _ _ (by omega) (by omega)]
    by_cases e : i = j
    · rw [if_pos (by omega), if_pos e]
    · rw [if_neg (by omega), if_neg e]
  · rw [List.length_map, hl] at hi
    rw [hget i hi] at hk
    rw [row_mapf (by omega), row_drop]
    exact h.low _ (by omega) _ (by omega)

theorem take_lo_span {n d : Nat} {r : List V} {p : List Nat} (h : Red r p) (_hd : d ≤ r.length) (h2 : ∀ i, d ≤ i → i < r.length → n ≤ p.getD i 0) (v : V) :
    Sp ((r.take d).map (lo n)) v ↔ ∃ u, Sp r u ∧ lo n u = v := by
  constructor
  · intro hv
    obtain ⟨u, hu, e⟩ := (lin_lo n).map_inv hv
    exact ⟨u, hu.sub fun w hw => .mem (List.mem_of_mem_take hw), e⟩
  · rintro ⟨u, hu, rfl⟩
    rw [← List.take_append_drop d r] at hu
    obtain ⟨a, b, ha, hb, rfl⟩ := Sp.append.1 hu
    rw [lo_va]
    have hz : lo n b = vz := by
      obtain ⟨c, rfl⟩ := sp_comb hb
      refine funext fun k => ?_
      simp only [lo]; split
      · refine S_zero fun j hj => ?_
        rw [List.length_drop] at hj
        rw [row_drop, h.low _ (by omega) k (by have := h2 (d + j) (by omega) (by omega); omega), mul_zero]
      · rfl
    rw [hz, va_zero]
    exact (lin_lo n).map ha

theorem drop_hi_span {n d : Nat} {r : List V} {p : List Nat} (h : Red r p) (hd : d ≤ r.length) (h1 : ∀ i, i < d → p.getD i 0 < n) (h2 : ∀ i, d ≤ i → i < r.length → n ≤ p.getD i 0) (v : V) :
    Sp ((r.drop d).map (hi n)) v ↔ Sp r (cat n vz v) := by
  constructor
  · intro hv
    obtain ⟨u, hu, rfl⟩ := (lin_hi n).map_inv hv
    have hz : lo n u = vz := by
      obtain ⟨c, rfl⟩ := sp_comb hu
      refine funext fun k => ?_
      simp only [lo]; split
      · refine S_zero fun j hj => ?_
        rw [List.length_drop] at hj
        rw [row_drop, h.low _ (by omega) k (by have := h2 (d + j) (by omega) (by omega); omega), mul_zero]
      · rfl
    have : cat n vz (hi n u) = u := by rw [← hz, cat_lo_hi]
    rw [this]; exact hu.sub fun w hw => .mem (List.mem_of_mem_drop hw)
  · intro hv
    have hc := h.coord hv
    -- the coordinates at the first places are nought
    have hz : ∀ j, j < d → cat n vz v (p.getD j 0) = 0#8 := fun j hj => by
      simp only [cat]; rw [if_pos (h1 j hj)]; rfl
    have : Sp (r.drop d) (cat n vz v) := by
      rw [hc]
      have hrow : ∀ j, j < r.length → Sp (r.drop d) (vs (cat n vz v (p.getD j 0)) (row r j)) := fun j hj => by
        by_cases e : j < d
        · rw [hz j e, vs_zero]; exact .zero
        · have : row r j = row (r.drop d) (j - d) := by rw [row_drop]; congr 1; omega
          rw [this]; exact .smul _ (.mem (row_mem (by rw [List.length_drop]; omega)))
      exact sp_sum r.length (fun j => vs (cat n vz v (p.getD j 0)) (row r j)) hrow
    have := (lin_hi n).map this
    rwa [hi_cat] at this

/-- the rows of both: of each of the one twice, of each of the other and noughts -/
def wide (n : Nat) (A B : List V) : List V := A.map (fun a => cat n a a) ++ B.map (fun b => cat n b vz)
theorem lin_twice (n : Nat) : Lin (fun a => cat n a a) := ⟨cat_vz n, fun u v => cat_va n u v u v, fun c v => cat_vs n c v v⟩
theorem lin_left (n : Nat) : Lin (fun a => cat n a vz) := ⟨cat_vz n, fun u v => by rw [← cat_va, va_zero], fun c v => by
  have : vs c vz = vz := funext fun _ => mul_zero _
  rw [← cat_vs, this]⟩
theorem lin_right (n : Nat) : Lin (fun a => cat n vz a) := ⟨cat_vz n, fun u v => by rw [← cat_va, va_zero], fun c v => by
  have : vs c vz = vz := funext fun _ => mul_zero _
  rw [← cat_vs, this]⟩
theorem wide_span {n : Nat} {A B : List V} {z : V} : Sp (wide n A B) z ↔ ∃ a b, Sp A a ∧ Sp B b ∧ z = cat n (va a b) a := by
  unfold wide
  rw [Sp.append]
  constructor
  · rintro ⟨x, y, hx, hy, rfl⟩
    obtain ⟨a, ha, rfl⟩ := (lin_twice n).map_inv hx
    obtain ⟨b, hb, rfl⟩ := (lin_left n).map_inv hy
    exact ⟨a, b, ha, hb, by rw [← cat_va, va_zero]⟩
  · rintro ⟨a, b, ha, hb, rfl⟩
    exact ⟨_, _, (lin_twice n).map ha, (lin_left n).map hb, by rw [← cat_va, va_zero]⟩
theorem wide_supp {n : Nat} {A B : List V} (hA : AllSupp n A) : AllSupp (n + n) (wide n A B) := by
  refine .append (fun v hv => ?_) (fun v hv => ?_)
  · obtain ⟨a, ha, rfl⟩ := List.mem_map.1 hv; exact Supp.cat (hA a ha)
  · obtain ⟨a, ha, rfl⟩ := List.mem_map.1 hv; exact Supp.cat (.zero n)

/-- the second halves of what is left: the meet -/
theorem meet_span {n : Nat} {A B : List V} (hA : AllSupp n A) (hB : AllSupp n B) (v : V) : Sp (wide n A B) (cat n vz v) ↔ Sp A v ∧ Sp B v := by
  rw [wide_span]
  constructor
  · rintro ⟨a, b, ha, hb, e⟩
    have h1 := congrArg (hi n) e
    rw [hi_cat, hi_cat] at h1
    have h2 := congrArg (lo n) e
    rw [lo_cat (.zero n), lo_cat ((Sp.supp hA ha).add (Sp.supp hB hb))] at h2
    have h3 : a = b := by
      have := congrArg (va a) h2
      rw [va_cancel, va_zero] at this; exact this
    subst h1; subst h3; exact ⟨ha, hb⟩
  · rintro ⟨ha, hb⟩
    exact ⟨v, v, ha, hb, by rw [va_self]⟩

/-- THE RANKS OF SUM AND MEET: of the reduced rows of both as many as the two ranks together; the first ones are the sum's, the others the meet's -/
theorem wide_rank {n : Nat} {A B a b r : List V} {pa pb p : List Nat} (hA : AllSupp n A) (hB : AllSupp n B)
    (ha : Red a pa) (hae : SpEq A a) (hb : Red b pb) (hbe : SpEq B b) (h : Red r p) (he : SpEq (wide n A B) r) : r.length = a.length + b.length := by
  have hsa := hA.of_le hae.ge
  have hsb := hB.of_le hbe.ge
  -- both, one behind the other
  let T := a.map (fun x => cat n x vz) ++ b.map (fun x => cat n vz x)
  have hTs : AllSupp (n + n) T := by
    refine .append (fun v hv => ?_) (fun v hv => ?_)
    · obtain ⟨x, hx, rfl⟩ := List.mem_map.1 hv; exact Supp.cat (.zero n)
    · obtain ⟨x, hx, rfl⟩ := List.mem_map.1 hv; exact Supp.cat (hsb x hx)
  have hTl : T.length = a.length + b.length := by simp [T]
  have hrowl : ∀ i, i < a.length → row T i = cat n (row a i) vz := fun i hi => by
    have : row T i = row (a.map (fun x => cat n x vz)) i := by
      unfold row; rw [List.getD_eq_getElem?_getD, List.getD_eq_getElem?_getD, List.getElem?_append_left (by simpa using hi)]
    rw [this, row_mapf hi]
  have hrowr : ∀ i, i < b.length → row T (a.length + i) = cat n vz (row b i) := fun i hi => by
    have : row T (a.length + i) = row (b.map (fun x => cat n vz x)) i := by
      unfold row; rw [List.getD_eq_getElem?_getD, List.getD_eq_getElem?_getD, List.getElem?_append_right (by simp)]
      simp
    rw [this, row_mapf hi]
  let q := pa ++ pb.map (n + ·)
  have hql : ∀ j, j < a.length → q.getD j 0 = pa.getD j 0 := fun j hj => by
    rw [List.getD_eq_getElem?_getD, List.getD_eq_getElem?_getD, List.getElem?_append_left (by rw [← ha.len]; exact hj)]
  have hqr : ∀ j, j < b.length → q.getD (a.length + j) 0 = n + pb.getD j 0 := fun j hj => by
    have hj' : j < pb.length := by rw [← hb.len]; exact hj
    rw [List.getD_eq_getElem?_getD, List.getElem?_append_right (by rw [ha.len]; omega), ha.len, Nat.add_sub_cancel_left, List.getElem?_map, List.getD_eq_getElem?_getD, List.getElem?_eq_getElem hj']; rfl
  have hpa := ha.lt hsa
  have hpaj : ∀ j, j < a.length → pa.getD j 0 < n := fun j hj => hpa _ (pget_mem (by rw [← ha.len]; exact hj))
  have hT : Red T q := by
    refine ⟨by simp [hTl, q, ha.len, hb.len], ?_, fun i j hi hj => ?_, fun i hi k hk => ?_⟩
    · rw [List.pairwise_append]
      refine ⟨ha.inc, ?_, fun x hx y hy => ?_⟩
      · rw [List.pairwise_map]; exact hb.inc.imp fun h => by omega
      · obtain ⟨z, _, rfl⟩ := List.mem_map.1 hy
        have := hpa x hx; omega
    · rw [hTl] at hi hj
      by_cases i1 : i < a.length
      · rw [hrowl i i1]
        by_cases j1 : j < a.length
        · rw [hql j j1]; simp only [cat]; rw [if_pos (hpaj j j1)]; exact ha.one i j i1 j1
        · obtain ⟨j, rfl⟩ : ∃ z, j = a.length + z := ⟨j - a.length, by omega⟩
          rw [hqr j (by omega)]; simp only [cat]; rw [if_neg (by omega), if_neg (by omega)]; rfl
      · obtain ⟨i, rfl⟩ : ∃ z, i = a.length + z := ⟨i - a.length, by omega⟩
        rw [hrowr i (by omega)]
        by_cases j1 : j < a.length
        · rw [hql j j1]; simp only [cat]; rw [if_pos (hpaj j j1), if_neg (by omega)]; rfl
        · obtain ⟨j, rfl⟩ : ∃ z, j = a.length + z := ⟨j - a.length, by omega⟩
          rw [hqr j (by omega)]; simp only [cat]; rw [if_neg (by omega), show n + pb.getD j 0 - n = pb.getD j 0 from by omega, hb.one i j (by omega) (by omega)]
          by_cases e : i = j
          · rw [if_pos e, if_pos (by omega)]
          · rw [if_neg e, if_neg (by omega)]
    · rw [hTl] at hi
      by_cases i1 : i < a.length
      · rw [hql i i1] at hk; rw [hrowl i i1]; simp only [cat]; split
        · exact ha.low i i1 k hk
        · rfl
      · obtain ⟨i, rfl⟩ : ∃ z, i = a.length + z := ⟨i - a.length, by omega⟩
        rw [hqr i (by omega)] at hk; rw [hrowr i (by omega)]; simp only [cat]; split
        · rfl
        · exact hb.low i (by omega) _ (by omega)
  have hrs : AllSupp (n + n) r := (wide_supp hA).of_le he.ge
  -- there and back
  let f : V → V := fun z => cat n (hi n z) (va (hi n z) (lo n z))
  let g : V → V := fun z => cat n (va (lo n z) (hi n z)) (lo n z)
  have lf : Lin f := ⟨by simp only [f]; rw [show hi n vz = vz from rfl, (lin_lo n).zero, va_zero, cat_vz],
    fun u v => by
      simp only [f]; rw [hi_va, lo_va, ← cat_va]; congr 1; exact funext fun k => by simp only [va]; ac_rfl,
    fun c v => by simp only [f]; rw [hi_vs, lo_vs, ← cat_vs, vs_va]⟩
  have lg : Lin g := ⟨by simp only [g]; rw [show hi n vz = vz from rfl, (lin_lo n).zero, va_zero, cat_vz],
    fun u v => by
      simp only [g]; rw [hi_va, lo_va, ← cat_va]; congr 1; exact funext fun k => by simp only [va]; ac_rfl,
    fun c v => by simp only [g]; rw [hi_vs, lo_vs, ← cat_vs, vs_va]⟩
  have fin : ∀ x y : V, Supp n x → Supp n y → f (cat n (va x y) x) = cat n x y := fun x y hx hy => by
    simp only [f]; rw [hi_cat, lo_cat (hx.add hy), va_cancel]
  have gin : ∀ x y : V, Supp n x → g (cat n x y) = cat n (va x y) x := fun x y hx => by
    simp only [g]; rw [hi_cat, lo_cat hx]
  have hTspan : ∀ z, Sp T z ↔ ∃ x y, Sp A x ∧ Sp B y ∧ z = cat n x y := fun z => by
    show Sp (_ ++ _) z ↔ _
    rw [Sp.append]
    constructor
    · rintro ⟨u, v, hu, hv, rfl⟩
      obtain ⟨x, hx, rfl⟩ := (lin_left n).map_inv hu
      obtain ⟨y, hy, rfl⟩ := (lin_right n).map_inv hv
      exact ⟨x, y, (hae x).2 hx, (hbe y).2 hy, by rw [← cat_va, va_zero, va_comm, va_zero]⟩
    · rintro ⟨x, y, hx, hy, rfl⟩
      exact ⟨_, _, (lin_left n).map ((hae x).1 hx), (lin_right n).map ((hbe y).1 hy), by rw [← cat_va, va_zero, va_comm, va_zero]⟩
  have h1 : T.length ≤ r.length := by
    have hle : SpLe T (r.map f) := fun z hz => by
      obtain ⟨x, y, hx, hy, rfl⟩ := (hTspan z).1 hz
      rw [← fin x y (Sp.supp hA hx) (Sp.supp hB hy)]
      exact lf.map ((he _).1 (wide_span.2 ⟨x, y, hx, hy, rfl⟩))
    have hss : AllSupp (n + n) (r.map f) := fun v hv => by
      obtain ⟨u, hu, rfl⟩ := List.mem_map.1 hv
      exact Supp.cat ((Supp.hi (hrs u hu)).add (Supp.lo n u))
    have := hT.le_length hss hle
    rwa [List.length_map] at this
  have h2 : r.length ≤ T.length := by
    have hle : SpLe r (T.map g) := fun z hz => by
      obtain ⟨x, y, hx, hy, rfl⟩ := wide_span.1 ((he z).2 hz)
      rw [← gin x y (Sp.supp hA hx)]
      exact lg.map ((hTspan _).2 ⟨x, y, hx, hy, rfl⟩)
    have hss : AllSupp (n + n) (T.map g) := fun v hv => by
      obtain ⟨u, hu, rfl⟩ := List.mem_map.1 hv
      exact Supp.cat (Supp.lo n u)
    have := h.le_length hss hle
    rwa [List.length_map] at this
  omega
end Go.Proofs.Ytpipmhofekfkgaa.LA
