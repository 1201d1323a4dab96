import Derived.Test.YtikfiadnnlgokaaGreatDoorTouches5
/-! What the printed functions of PlanTouches compute: light, May, Turned. -/
namespace Go.Proofs.YtikfiadnnlgokaaGreatDoor.TouchesP
open Go.RowKit Go.Proofs.YtikfiadnnlgokaaGreatDoorW.PrintWords

theorem w1 (i : Nat) (h : i < 1000000) : wrap64 ((i : Int) + 1) = ((i + 1 : Nat) : Int) := by
  unfold wrap64; omega
theorem rdn (xs : List Int) (i : Nat) : rd xs (i : Int) = xs.getD i 0 := rfl
theorem rdL (xs : List (List Int)) (i : Nat) : rd_L1 xs (i : Int) = xs.getD i [] := rfl
theorem rdL' (xs : List (List Int)) (i : Int) : rd_L1 xs i = xs.getD i.toNat [] := rfl
theorem rd' (xs : List Int) (i : Int) : rd xs i = xs.getD i.toNat 0 := rfl
theorem drop_at {α : Type} (d : α) (xs : List α) (i : Nat) (h : i < xs.length) : xs.drop i = xs.getD i d :: xs.drop (i + 1) := by
  rw [List.drop_eq_getElem_cons h, List.getD_eq_getElem?_getD, List.getElem?_eq_getElem h]; rfl

/-! ### light -/
theorem light_l0 (g : List (List Int)) (hn : g.length ≤ 30) : ∀ m i, i + m = g.length → ∃ b, Ev (fun k => pomacelaw30_light.l0 k g (g.length : Int) (i : Int)) b ∧ (b = true → ∀ j, i ≤ j → j < g.length → (g.getD j []).length ≤ 40)
  | 0, i, h => by
    refine ⟨true, Ev.step (f := fun _ => some true) (fun k => ?_) (Ev.now _), fun _ j h1 h2 => by omega⟩
    simp only [pomacelaw30_light.l0]
    rw [if_neg (by omega)]
  | m + 1, i, h => by
    obtain ⟨b, hb, hs⟩ := light_l0 g hn m (i + 1) (by omega)
    by_cases hc : (g.getD i []).length ≤ 40
    · refine ⟨b, Ev.step (fun k => ?_) hb, fun e j h1 h2 => ?_⟩
      · simp only [pomacelaw30_light.l0]
        rw [if_pos (by omega), if_pos (by omega), if_pos (by omega), rdL, if_neg (by omega), w1 i (by omega)]
      · by_cases e2 : j = i
        · subst e2; exact hc
        · exact hs e j (by omega) h2
    · refine ⟨false, Ev.step (f := fun _ => some false) (fun k => ?_) (Ev.now _), fun e => by cases e⟩
      simp only [pomacelaw30_light.l0]
      rw [if_pos (by omega), if_pos (by omega), if_pos (by omega), rdL, if_pos (by omega)]
theorem light_f (g : List (List Int)) : ∃ b, Ev (fun k => pomacelaw30_light.f k g) b ∧ (b = true → g.length ≤ 30 ∧ ∀ j, j < g.length → (g.getD j []).length ≤ 40) := by
  by_cases hn : g.length ≤ 30
  · obtain ⟨b, hb, hs⟩ := light_l0 g hn g.length 0 (by omega)
    refine ⟨b, Ev.congr (fun k => ?_) hb, fun e => ⟨hn, fun j hj => hs e j (by omega) hj⟩⟩
    unfold pomacelaw30_light.f
    rw [if_neg (by omega)]; rfl
  · refine ⟨false, Ev.congr (fun k => ?_) (Ev.now _), fun e => by cases e⟩
    unfold pomacelaw30_light.f
    rw [if_pos (by omega)]

/-! ### May -/
def okb (n : Nat) (x : Int) : Bool := decide (0 ≤ x) && decide (x < (n : Int))
theorem okb_iff {n : Nat} {x : Int} : okb n x = true ↔ 0 ≤ x ∧ x < (n : Int) := by simp [okb]
def goodb (g : List (List Int)) : Bool := g.all fun row => row.all (okb g.length)
theorem isNode_ev (g : List (List Int)) (x : Int) : graph_isNode.f g x = some (okb g.length x) := by
  unfold graph_isNode.f okb
  by_cases h : x ≥ 0
  · rw [if_pos h, decide_eq_true (p := 0 ≤ x) h, Bool.true_and]
  · rw [if_neg h, decide_eq_false (p := 0 ≤ x) h, Bool.false_and]
/-- the sizes that the loops count to -/
def Small (g : List (List Int)) : Prop := g.length ≤ 1000 ∧ ∀ j, (g.getD j []).length < 10000

theorem may_l1 (g : List (List Int)) (i : Nat) (row : List Int) (hr : row.length < 10000) (b : Bool) (hb : Ev (fun k => graph_May.l0 k g g (g.length : Int) (wrap64 ((i : Int) + 1))) b) :
    ∀ m j, j + m = row.length → Ev (fun k => graph_May.l1 k g g (g.length : Int) (i : Int) row (row.length : Int) (j : Int)) ((row.drop j).all (okb g.length) && b)
  | 0, j, h => by
    rw [List.drop_of_length_le (by omega), List.all_nil, Bool.true_and]
    refine Ev.step (fun k => ?_) hb
    simp only [graph_May.l1]
    rw [if_neg (by omega)]
  | m + 1, j, h => by
    have ih := may_l1 g i row hr b hb m (j + 1) (by omega)
    rw [drop_at 0 row j (by omega), List.all_cons]
    cases ho : okb g.length (row.getD j 0) with
    | false =>
      rw [Bool.false_and, Bool.false_and]
      refine Ev.step (f := fun _ => some false) (fun k => ?_) (Ev.now _)
      simp only [graph_May.l1]
      rw [if_pos (by omega), if_pos (by omega), if_pos (by omega), rdn, isNode_ev, ho]
      rfl
    | true =>
      rw [Bool.true_and]
      refine Ev.step (fun k => ?_) ih
      simp only [graph_May.l1]
      rw [if_pos (by omega), if_pos (by omega), if_pos (by omega), rdn, isNode_ev, ho, w1 j (by omega)]
      rfl
theorem may_l0 (g : List (List Int)) (hg : Small g) : ∀ m i, i + m = g.length → Ev (fun k => graph_May.l0 k g g (g.length : Int) (i : Int)) ((g.drop i).all fun row => row.all (okb g.length))
  | 0, i, h => by
    rw [List.drop_of_length_le (by omega), List.all_nil]
    refine Ev.step (f := fun _ => some true) (fun k => ?_) (Ev.now _)
    simp only [graph_May.l0]
    rw [if_neg (by omega)]
  | m + 1, i, h => by
    have ih := may_l0 g hg m (i + 1) (by omega)
    have := hg.1
    rw [← w1 i (by omega)] at ih
    rw [drop_at [] g i (by omega), List.all_cons]
    have h1 := may_l1 g i (g.getD i []) (hg.2 i) _ ih (g.getD i []).length 0 (by omega)
    refine Ev.step (fun k => ?_) h1
    simp only [graph_May.l0]
    rw [if_pos (by omega), if_pos (by omega), if_pos (by omega), rdL]
    rfl
theorem may_f (g : List (List Int)) (hg : Small g) : Ev (fun k => graph_May.f k g) (goodb g) := may_l0 g hg g.length 0 (by omega)

theorem rmay_l1 (g : List (List Int)) (i : Nat) (row : List Int) (hr : row.length < 10000) (b : Bool) (hb : Ev (fun k => pomaceref22_May.l0 k g g (g.length : Int) (wrap64 ((i : Int) + 1))) b) :
    ∀ m j, j + m = row.length → Ev (fun k => pomaceref22_May.l1 k g g (g.length : Int) (i : Int) row (row.length : Int) (j : Int)) ((row.drop j).all (okb g.length) && b)
  | 0, j, h => by
    rw [List.drop_of_length_le (by omega), List.all_nil, Bool.true_and]
    refine Ev.step (fun k => ?_) hb
    simp only [pomaceref22_May.l1]
    rw [if_neg (by omega)]
  | m + 1, j, h => by
    have ih := rmay_l1 g i row hr b hb m (j + 1) (by omega)
    rw [drop_at 0 row j (by omega), List.all_cons]
    cases ho : okb g.length (row.getD j 0) with
    | false =>
      rw [Bool.false_and, Bool.false_and]
      refine Ev.step (f := fun _ => some false) (fun k => ?_) (Ev.now _)
      simp only [pomaceref22_May.l1]
      rw [if_pos (by omega), if_pos (by omega), if_pos (by omega), rdn]
      by_cases h0 : row.getD j 0 < 0
      · rw [if_pos h0]
      · rw [if_neg h0, if_pos]
        refine Int.not_lt.1 fun h1 => ?_
        rw [okb_iff.2 ⟨by omega, h1⟩] at ho
        cases ho
    | true =>
      rw [Bool.true_and]
      obtain ⟨h0, h1⟩ := okb_iff.1 ho
      refine Ev.step (fun k => ?_) ih
      simp only [pomaceref22_May.l1]
      rw [if_pos (by omega), if_pos (by omega), if_pos (by omega), rdn, if_neg (by omega), if_neg (by omega), w1 j (by omega)]
theorem rmay_l0 (g : List (List Int)) (hg : Small g) : ∀ m i, i + m = g.length → Ev (fun k => pomaceref22_May.l0 k g g (g.length : Int) (i : Int)) ((g.drop i).all fun row => row.all (okb g.length))
  | 0, i, h => by
    rw [List.drop_of_length_le (by omega), List.all_nil]
    refine Ev.step (f := fun _ => some true) (fun k => ?_) (Ev.now _)
    simp only [pomaceref22_May.l0]
    rw [if_neg (by omega)]
  | m + 1, i, h => by
    have ih := rmay_l0 g hg m (i + 1) (by omega)
    have := hg.1
    rw [← w1 i (by omega)] at ih
    rw [drop_at [] g i (by omega), List.all_cons]
    have h1 := rmay_l1 g i (g.getD i []) (hg.2 i) _ ih (g.getD i []).length 0 (by omega)
    refine Ev.step (fun k => ?_) h1
    simp only [pomaceref22_May.l0]
    rw [if_pos (by omega), if_pos (by omega), if_pos (by omega), rdL]
    rfl
theorem rmay_f (g : List (List Int)) (hg : Small g) : Ev (fun k => pomaceref22_May.f k g) (goodb g) := rmay_l0 g hg g.length 0 (by omega)

theorem good_at {g : List (List Int)} (h : goodb g = true) {i : Nat} {x : Int} (hx : x ∈ g.getD i []) : 0 ≤ x ∧ x < (g.length : Int) := by
  unfold goodb at h
  rw [List.all_eq_true] at h
  by_cases hi : i < g.length
  · rw [List.getD_eq_getElem?_getD, List.getElem?_eq_getElem hi] at hx
    have := h _ (List.getElem_mem hi)
    rw [List.all_eq_true] at this
    exact okb_iff.1 (this x hx)
  · rw [List.getD_eq_getElem?_getD, List.getElem?_eq_none (by omega)] at hx
    cases hx

/-! ### Turned -/
theorem getD_set {α : Type} (d : α) (xs : List α) (i j : Nat) (y : α) (hi : i < xs.length) : (xs.set i y).getD j d = if i = j then y else xs.getD j d := by
  rw [List.getD_eq_getElem?_getD, List.getElem?_set, List.getD_eq_getElem?_getD]
  split
  · rename_i h
    subst h
    simp
  · rfl
def turnRow (t : List (List Int)) (i : Int) : List Int → List (List Int)
  | [] => t
  | x :: xs => turnRow (t.set x.toNat (t.getD x.toNat [] ++ [i])) i xs
def turnFrom (t : List (List Int)) (i : Nat) : List (List Int) → List (List Int)
  | [] => t
  | row :: rows => turnFrom (turnRow t (i : Int) row) (i + 1) rows
theorem turn_l1 (g : List (List Int)) (i : Nat) (row : List Int) (hr : row.length ≤ 40) (hok : ∀ x ∈ row, 0 ≤ x ∧ x < (g.length : Int)) (r : List (List Int)) :
    ∀ m j t, j + m = row.length → t.length = g.length → (∀ q, (t.getD q []).length ≤ 40 * i + j) → i ≤ 1000 →
      ((turnRow t (i : Int) (row.drop j)).length = g.length → (∀ q, ((turnRow t (i : Int) (row.drop j)).getD q []).length ≤ 40 * (i + 1)) → Ev (fun k => graph_Turned.l0 k (turnRow t (i : Int) (row.drop j)) g (g.length : Int) (wrap64 ((i : Int) + 1))) r) →
      Ev (fun k => graph_Turned.l1 k t (i : Int) g (g.length : Int) (i : Int) row (row.length : Int) (j : Int)) r
  | 0, j, t, h, ht, hl, hi, hb => by
    rw [List.drop_of_length_le (by omega)] at hb
    refine Ev.step (fun k => ?_) (hb ht fun q => Nat.le_trans (hl q) (by omega))
    simp only [graph_Turned.l1]
    rw [if_neg (by omega)]
    rfl
  | m + 1, j, t, h, ht, hl, hi, hb => by
    rw [drop_at 0 row j (by omega)] at hb
    have hm : row.getD j 0 ∈ row := by
      rw [List.getD_eq_getElem?_getD, List.getElem?_eq_getElem (by omega : j < row.length)]
      exact List.getElem_mem _
    obtain ⟨h0, h1⟩ := hok _ hm
    have ih := turn_l1 g i row hr hok r m (j + 1) (t.set (row.getD j 0).toNat (t.getD (row.getD j 0).toNat [] ++ [(i : Int)])) (by omega) (by rw [List.length_set, ht]) (fun q => by
      rw [getD_set _ _ _ _ _ (by omega)]
      split
      · rw [List.length_append]
        have := hl (row.getD j 0).toNat
        simp only [List.length_cons, List.length_nil]
        omega
      · have := hl q
        omega) hi hb
    have hz := hl (row.getD j 0).toNat
    refine Ev.step (fun k => ?_) ih
    simp only [graph_Turned.l1]
    rw [if_pos (by omega), if_pos (by omega), if_pos (by omega), rdn, if_pos (by omega), if_pos (by omega), rdL', if_pos (by omega), w1 j (by omega)]
theorem turn_l0 (g : List (List Int)) (hn : g.length ≤ 1000) (hr : ∀ j, (g.getD j []).length ≤ 40) (hok : goodb g = true) :
    ∀ m i t, i + m = g.length → t.length = g.length → (∀ q, (t.getD q []).length ≤ 40 * i) →
      (turnFrom t i (g.drop i)).length = g.length ∧ (∀ q, ((turnFrom t i (g.drop i)).getD q []).length ≤ 40 * g.length) → Ev (fun k => graph_Turned.l0 k t g (g.length : Int) (i : Int)) (turnFrom t i (g.drop i))
  | 0, i, t, h, ht, hl, _ => by
    rw [List.drop_of_length_le (by omega)]
    refine Ev.step (f := fun _ => some t) (fun k => ?_) (Ev.now _)
    simp only [graph_Turned.l0]
    rw [if_neg (by omega)]
  | m + 1, i, t, h, ht, hl, hx => by
    rw [drop_at [] g i (by omega)] at hx ⊢
    have h1 := turn_l1 g i (g.getD i []) (hr i) (fun x hx => good_at hok hx) _ (g.getD i []).length 0 t (by omega) ht hl (by omega) (fun a b => by
      have ih := turn_l0 g hn hr hok m (i + 1) (turnRow t (i : Int) (g.getD i [])) (by omega) a b hx
      rw [w1 i (by omega)]
      exact ih)
    refine Ev.step (fun k => ?_) h1
    simp only [graph_Turned.l0]
    rw [if_pos (by omega), if_pos (by omega), if_pos (by omega), rdL]
    rfl
theorem turnRow_length (i : Int) : ∀ (row : List Int) (t : List (List Int)), (turnRow t i row).length = t.length
  | [], t => rfl
  | x :: xs, t => by rw [turnRow, turnRow_length i xs, List.length_set]
theorem turnRow_size (i : Int) : ∀ (row : List Int) (t : List (List Int)) (q : Nat), (∀ x ∈ row, x.toNat < t.length) → ((turnRow t i row).getD q []).length ≤ (t.getD q []).length + row.length
  | [], t, q, _ => Nat.le_refl _
  | x :: xs, t, q, h => by
    rw [turnRow]
    refine Nat.le_trans (turnRow_size i xs _ q (fun y hy => by rw [List.length_set]; exact h y (List.mem_cons_of_mem _ hy))) ?_
    rw [getD_set _ _ _ _ _ (h x List.mem_cons_self)]
    split
    · rename_i e
      rw [← e, List.length_append]
      simp only [List.length_cons, List.length_nil]
      omega
    · simp only [List.length_cons]; omega
theorem turnRow_mem (i y : Int) : ∀ (row : List Int) (t : List (List Int)) (q : Nat), (∀ x ∈ row, 0 ≤ x ∧ x.toNat < t.length) → (y ∈ (turnRow t i row).getD q [] ↔ y ∈ t.getD q [] ∨ (y = i ∧ (q : Int) ∈ row))
  | [], t, q, _ => by simp [turnRow]
  | x :: xs, t, q, h => by
    have hx := h x List.mem_cons_self
    rw [turnRow, turnRow_mem i y xs _ q (fun z hz => by rw [List.length_set]; exact h z (List.mem_cons_of_mem _ hz)), getD_set _ _ _ _ _ hx.2, List.mem_cons]
    by_cases e : x.toNat = q
    · rw [if_pos e, ← e, List.mem_append, List.mem_singleton]
      have e' : ((x.toNat : Nat) : Int) = x := by omega
      constructor
      · rintro ((a | a) | a)
        · exact .inl a
        · exact .inr ⟨a, .inl e'⟩
        · exact .inr ⟨a.1, .inr a.2⟩
      · rintro (a | ⟨a, -⟩)
        · exact .inl (.inl a)
        · exact .inl (.inr a)
    · rw [if_neg e]
      constructor
      · rintro (a | a)
        · exact .inl a
        · exact .inr ⟨a.1, .inr a.2⟩
      · rintro (a | ⟨a, b | b⟩)
        · exact .inl a
        · exact absurd (by omega) e
        · exact .inr ⟨a, b⟩
theorem turnFrom_spec (n : Nat) : ∀ (rows : List (List Int)) (t : List (List Int)) (i : Nat), t.length = n → (∀ row ∈ rows, row.length ≤ 40 ∧ ∀ x ∈ row, 0 ≤ x ∧ x < (n : Int)) →
    (turnFrom t i rows).length = n ∧ (∀ q, ((turnFrom t i rows).getD q []).length ≤ (t.getD q []).length + 40 * rows.length) ∧
      ∀ (y : Int) (q : Nat), (y ∈ (turnFrom t i rows).getD q [] ↔ y ∈ t.getD q [] ∨ ∃ j, j < rows.length ∧ y = ((i + j : Nat) : Int) ∧ (q : Int) ∈ rows.getD j [])
  | [], t, i, ht, _ => ⟨ht, fun q => Nat.le_refl _, fun y q => by simp [turnFrom]⟩
  | row :: rows, t, i, ht, h => by
    obtain ⟨hl, hx⟩ := h row List.mem_cons_self
    have hx' : ∀ x ∈ row, 0 ≤ x ∧ x.toNat < t.length := fun x m => by have := hx x m; omega
    obtain ⟨a, b, c⟩ := turnFrom_spec n rows (turnRow t (i : Int) row) (i + 1) (by rw [turnRow_length, ht]) (fun r m => h r (List.mem_cons_of_mem _ m))
    refine ⟨a, fun q => ?_, fun y q => ?_⟩
    · have := b q
      have := turnRow_size (i : Int) row t q (fun x m => (hx' x m).2)
      simp only [turnFrom, List.length_cons] at *
      omega
    · rw [turnFrom, c, turnRow_mem _ _ _ _ _ hx']
      constructor
      · rintro ((e | ⟨e, e2⟩) | ⟨j, hj, e, e2⟩)
        · exact .inl e
        · exact .inr ⟨0, by simp, by simpa using e, by simpa using e2⟩
        · exact .inr ⟨j + 1, by simp; omega, by rw [e]; congr 1; omega, by simpa using e2⟩
      · rintro (e | ⟨j, hj, e, e2⟩)
        · exact .inl (.inl e)
        · cases j with
          | zero => exact .inl (.inr ⟨by simpa using e, by simpa using e2⟩)
          | succ j => exact .inr ⟨j, by simp at hj; omega, by rw [e]; congr 1; omega, by simpa using e2⟩

/-- the graph turned round: what of it is looked at -/
structure TurnedOf (g t : List (List Int)) : Prop where
  len : t.length = g.length
  size : ∀ q, (t.getD q []).length ≤ 40 * g.length
  good : goodb t = true
  edge : ∀ a b : Nat, (b : Int) ∈ t.getD a [] ↔ (a : Int) ∈ g.getD b []
theorem turned_f (g : List (List Int)) (hn : g.length ≤ 30) (hr : ∀ j, (g.getD j []).length ≤ 40) (hok : goodb g = true) : ∃ t, Ev (fun k => graph_Turned.f k g) t ∧ TurnedOf g t := by
  have hrows : ∀ row ∈ g, row.length ≤ 40 ∧ ∀ x ∈ row, 0 ≤ x ∧ x < (g.length : Int) := by
    intro row hm
    obtain ⟨i, hi, e⟩ := List.getElem_of_mem hm
    have e2 : g.getD i [] = row := by rw [List.getD_eq_getElem?_getD, List.getElem?_eq_getElem hi, ← e]; rfl
    exact ⟨e2 ▸ hr i, fun x hx => good_at hok (i := i) (e2.symm ▸ hx)⟩
  have he : ∀ q, ((List.replicate g.length ([] : List Int)).getD q []) = [] := fun q => by
    rw [List.getD_eq_getElem?_getD, List.getElem?_replicate]; split <;> rfl
  obtain ⟨a, b, c⟩ := turnFrom_spec g.length g (List.replicate g.length []) 0 (by simp) hrows
  have hb : ∀ q, ((turnFrom (List.replicate g.length []) 0 g).getD q []).length ≤ 40 * g.length := fun q => by
    have := b q
    rw [he] at this
    simpa using this
  refine ⟨turnFrom (List.replicate g.length []) 0 g, ?_, a, hb, ?_, fun x y => ?_⟩
  · unfold graph_Turned.f
    refine Ev.bind (may_f g ⟨by omega, fun j => by have := hr j; omega⟩) ?_
    have h := turn_l0 g (by omega) hr hok g.length 0 (List.replicate g.length []) (by omega) (by simp) (fun q => by rw [he]; simp) ⟨a, hb⟩
    refine Ev.congr (fun k => ?_) h
    rw [if_pos hok, if_pos (by omega), if_pos (by omega)]
    rfl
  · unfold goodb
    rw [List.all_eq_true]
    intro row hm
    rw [List.all_eq_true]
    intro x hx
    obtain ⟨i, hi, e⟩ := List.getElem_of_mem hm
    have e2 : (turnFrom (List.replicate g.length []) 0 g).getD i [] = row := by rw [List.getD_eq_getElem?_getD, List.getElem?_eq_getElem hi, ← e]; rfl
    rw [← e2, c, he] at hx
    obtain hx | ⟨j, hj, e3, -⟩ := hx
    · cases hx
    · rw [a, okb_iff]; omega
  · rw [c, he]
    constructor
    · rintro (h | ⟨j, hj, e, e2⟩)
      · cases h
      · have : y = j := by omega
        rw [this]; exact e2
    · intro h
      refine .inr ⟨y, ?_, by simp, h⟩
      refine Nat.lt_of_not_le fun hlt => ?_
      rw [List.getD_eq_getElem?_getD, List.getElem?_eq_none hlt] at h
      cases h
theorem turned_bad (g : List (List Int)) (hg : Small g) (hok : goodb g = false) : Ev (fun k => graph_Turned.f k g) [] := by
  unfold graph_Turned.f
  refine Ev.bind (may_f g hg) ?_
  refine Ev.congr (fun k => ?_) (Ev.now _)
  rw [hok, if_neg (by decide)]
end Go.Proofs.YtikfiadnnlgokaaGreatDoor.TouchesP
