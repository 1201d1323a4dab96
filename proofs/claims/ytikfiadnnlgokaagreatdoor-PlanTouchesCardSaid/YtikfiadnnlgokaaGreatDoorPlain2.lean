import Derived.Test.YtikfiadnnlgokaaGreatDoorPlain1
/-! What the printed functions of PlanTouches compute: graph.Depth (reached or not), graph.Reach, plan.Touched. -/
namespace Go.Proofs.YtikfiadnnlgokaaGreatDoor.TouchesP
open Go.RowKit Go.Proofs.YtikfiadnnlgokaaGreatDoorW.PrintWords

/-- b can be reached from a -/
inductive Rch (g : List (List Int)) (a : Nat) : Nat → Prop
  | refl : Rch g a a
  | step {b : Nat} {x : Int} : Rch g a b → x ∈ g.getD b [] → Rch g a x.toNat

/-- how many nodes have a depth -/
def cnt (d : List Int) : Nat := d.countP fun x => decide (0 ≤ x)
theorem cnt_le (d : List Int) : cnt d ≤ d.length := List.countP_le_length
theorem cnt_set : ∀ (d : List Int) (i : Nat) (y : Int), i < d.length → d.getD i 0 < 0 → 0 ≤ y → cnt (d.set i y) = cnt d + 1
  | [], i, y, h, _, _ => by simp at h
  | x :: xs, 0, y, _, hx, hy => by
    have hx' : x < 0 := by simpa using hx
    unfold cnt
    rw [List.set_cons_zero, List.countP_cons_of_pos (by simpa using hy), List.countP_cons_of_neg (by simp; omega)]
  | x :: xs, i + 1, y, h, hx, hy => by
    have ih := cnt_set xs i y (by simpa using h) (by simpa using hx) hy
    unfold cnt at ih ⊢
    rw [List.set_cons_succ, List.countP_cons, List.countP_cons, ih]
    omega

/-- while the nodes are gone through: `q` are those that wait -/
structure Inv (g : List (List Int)) (a : Nat) (d q : List Int) : Prop where
  len : d.length = g.length
  src : 0 ≤ d.getD a 0
  lt : ∀ v, v < g.length → d.getD v 0 < (cnt d : Int)
  snd : ∀ v, v < g.length → 0 ≤ d.getD v 0 → Rch g a v
  que : ∀ x ∈ q, 0 ≤ x ∧ x < (g.length : Int) ∧ 0 ≤ d.getD x.toNat 0
  ql : q.length ≤ cnt d

/-- what a depth tells -/
def Tells (g : List (List Int)) (a : Nat) (r : List Int) : Prop := r.length = g.length ∧ ∀ v, v < g.length → (0 ≤ r.getD v 0 ↔ Rch g a v)
theorem rch_lt {g : List (List Int)} (hok : goodb g = true) {a b : Nat} (ha : a < g.length) (h : Rch g a b) : b < g.length := by
  induction h with
  | refl => exact ha
  | step _ hx _ => have := good_at hok hx; omega
theorem tells {g : List (List Int)} (hok : goodb g = true) {a : Nat} (ha : a < g.length) {d : List Int} (hl : d.length = g.length) (hs : 0 ≤ d.getD a 0) (snd : ∀ v, v < g.length → 0 ≤ d.getD v 0 → Rch g a v)
    (cl : ∀ v, v < g.length → 0 ≤ d.getD v 0 → ∀ x ∈ g.getD v [], 0 ≤ d.getD x.toNat 0) : Tells g a d := by
  refine ⟨hl, fun v hv => ⟨snd v hv, fun h => ?_⟩⟩
  clear hv
  induction h with
  | refl => exact hs
  | step h hx ih => exact cl _ (rch_lt hok ha h) ih _ hx

theorem depth_l2 (g : List (List Int)) (hg : Small g) (hok : goodb g = true) (a c : Nat) (hc : c < g.length) (M : Nat)
    (H : ∀ d q, Inv g a d q → (∀ v, v < g.length → 0 ≤ d.getD v 0 → (v : Int) ∈ q ∨ ∀ x ∈ g.getD v [], 0 ≤ d.getD x.toNat 0) → 2 * (g.length - cnt d) + q.length ≤ M → ∃ r, Ev (fun k => graph_Depth.l1 k g d q) r ∧ Tells g a r) :
    ∀ m j d q, j + m = (g.getD c []).length → Inv g a d q → 0 ≤ d.getD c 0 → (∀ v, v < g.length → 0 ≤ d.getD v 0 → (v : Int) ∈ q ∨ v = c ∨ ∀ x ∈ g.getD v [], 0 ≤ d.getD x.toNat 0) →
      (∀ i, i < j → 0 ≤ d.getD ((g.getD c []).getD i 0).toNat 0) → 2 * (g.length - cnt d) + q.length ≤ M →
      ∃ r, Ev (fun k => graph_Depth.l2 k g d q (c : Int) (g.getD c []) ((g.getD c []).length : Int) (j : Int)) r ∧ Tells g a r
  | 0, j, d, q, h, I, hd, cl, hj, hM => by
    obtain ⟨r, hr, hs⟩ := H d q I (fun v hv hp => by
      rcases cl v hv hp with e | e | e
      · exact .inl e
      · subst e
        refine .inr fun x hx => ?_
        obtain ⟨i, hi, e⟩ := List.getElem_of_mem hx
        have := hj i (by omega)
        rw [List.getD_eq_getElem?_getD (l := g.getD v []), List.getElem?_eq_getElem hi, e] at this
        exact this
      · exact .inr e) hM
    refine ⟨r, Ev.step (fun k => ?_) hr, hs⟩
    simp only [graph_Depth.l2]
    rw [if_neg (by omega)]
  | m + 1, j, d, q, h, I, hd, cl, hj, hM => by
    have hm : (g.getD c []).getD j 0 ∈ g.getD c [] := by
      rw [List.getD_eq_getElem?_getD (l := g.getD c []), List.getElem?_eq_getElem (by omega)]
      exact List.getElem_mem _
    obtain ⟨h0, h1⟩ := good_at hok hm
    have hsm := hg.2 c
    have hlen := I.len
    by_cases hp : d.getD ((g.getD c []).getD j 0).toNat 0 < 0
    · have hlt := I.lt c hc
      have hcn := cnt_le d
      have hg1 := hg.1
      have hcs := cnt_set d ((g.getD c []).getD j 0).toNat (d.getD c 0 + 1) (by omega) hp (by omega)
      have hq := I.ql
      have hne : ((g.getD c []).getD j 0).toNat ≠ c := fun e => by rw [e] at hp; omega
      have hset : ∀ v, (d.set ((g.getD c []).getD j 0).toNat (d.getD c 0 + 1)).getD v 0 = if ((g.getD c []).getD j 0).toNat = v then d.getD c 0 + 1 else d.getD v 0 := fun v => getD_set 0 d _ v _ (by omega)
      have hmono : ∀ v, 0 ≤ d.getD v 0 → 0 ≤ (d.set ((g.getD c []).getD j 0).toNat (d.getD c 0 + 1)).getD v 0 := fun v hv => by
        rw [hset]; split <;> omega
      have hcn2 := cnt_le (d.set ((g.getD c []).getD j 0).toNat (d.getD c 0 + 1))
      rw [List.length_set] at hcn2
      obtain ⟨r, hr, hs⟩ := depth_l2 g hg hok a c hc M H m (j + 1) (d.set ((g.getD c []).getD j 0).toNat (d.getD c 0 + 1)) (q ++ [(g.getD c []).getD j 0]) (by omega)
        { len := by rw [List.length_set, hlen]
          src := hmono a I.src
          lt := fun v hv => by
            rw [hset, hcs]
            have := I.lt v hv
            split <;> omega
          snd := fun v hv hp2 => by
            rw [hset] at hp2
            by_cases e : ((g.getD c []).getD j 0).toNat = v
            · rw [← e]; exact Rch.step (I.snd c hc hd) hm
            · rw [if_neg e] at hp2; exact I.snd v hv hp2
          que := fun x hx => by
            rcases List.mem_append.1 hx with hx | hx
            · obtain ⟨e1, e2, e3⟩ := I.que x hx
              exact ⟨e1, e2, hmono _ e3⟩
            · rw [List.mem_singleton.1 hx]
              refine ⟨h0, h1, ?_⟩
              rw [hset, if_pos rfl]; omega
          ql := by rw [List.length_append, hcs]; simp only [List.length_cons, List.length_nil]; omega }
        (hmono c hd)
        (fun v hv hp2 => by
          rw [hset] at hp2
          by_cases e : ((g.getD c []).getD j 0).toNat = v
          · refine .inl (List.mem_append.2 (.inr (List.mem_singleton.2 ?_)))
            omega
          · rw [if_neg e] at hp2
            rcases cl v hv hp2 with e | e | e
            · exact .inl (List.mem_append.2 (.inl e))
            · exact .inr (.inl e)
            · exact .inr (.inr fun x hx => hmono _ (e x hx)))
        (fun i hi => by
          by_cases e : i = j
          · subst e; rw [hset, if_pos rfl]; omega
          · exact hmono _ (hj i (by omega)))
        (by rw [List.length_append, hcs]; simp only [List.length_cons, List.length_nil]; omega)
      refine ⟨r, Ev.step (fun k => ?_) hr, hs⟩
      simp only [graph_Depth.l2]
      rw [if_pos (by omega), if_pos (by omega), if_pos (by omega), rdn, if_pos (by omega), if_pos (by omega), rd', if_pos hp, if_pos (by omega), if_pos (by omega), if_pos (by omega), rdn, w1 j (by omega)]
      congr 2
      unfold wrap64
      omega
    · obtain ⟨r, hr, hs⟩ := depth_l2 g hg hok a c hc M H m (j + 1) d q (by omega) I hd cl
        (fun i hi => by
          by_cases e : i = j
          · subst e; omega
          · exact hj i (by omega)) hM
      refine ⟨r, Ev.step (fun k => ?_) hr, hs⟩
      simp only [graph_Depth.l2]
      rw [if_pos (by omega), if_pos (by omega), if_pos (by omega), rdn, if_pos (by omega), if_pos (by omega), rd', if_neg hp, w1 j (by omega)]
theorem depth_l1 (g : List (List Int)) (hg : Small g) (hok : goodb g = true) (a : Nat) (ha : a < g.length) :
    ∀ M d q, Inv g a d q → (∀ v, v < g.length → 0 ≤ d.getD v 0 → (v : Int) ∈ q ∨ ∀ x ∈ g.getD v [], 0 ≤ d.getD x.toNat 0) → 2 * (g.length - cnt d) + q.length ≤ M → ∃ r, Ev (fun k => graph_Depth.l1 k g d q) r ∧ Tells g a r
  | M, d, [], I, cl, hM => by
    refine ⟨d, Ev.step (f := fun _ => some d) (fun k => ?_) (Ev.now _), tells hok ha I.len I.src I.snd fun v hv hp => ?_⟩
    · simp only [graph_Depth.l1]
      rw [if_neg (by simp)]
    · rcases cl v hv hp with e | e
      · cases e
      · exact e
  | 0, d, x :: q, I, cl, hM => by simp at hM
  | M + 1, d, x :: q, I, cl, hM => by
    obtain ⟨h0, h1, h2⟩ := I.que x List.mem_cons_self
    obtain ⟨c, rfl⟩ : ∃ c : Nat, x = c := ⟨x.toNat, by omega⟩
    simp only [List.length_cons] at hM
    obtain ⟨r, hr, hs⟩ := depth_l2 g hg hok a c (by omega) M (fun d q => depth_l1 g hg hok a ha M d q) (g.getD c []).length 0 d q (by omega)
      { I with
        que := fun y hy => I.que y (List.mem_cons_of_mem _ hy)
        ql := by have := I.ql; simp only [List.length_cons] at this; omega }
      h2
      (fun v hv hp => by
        rcases cl v hv hp with e | e
        · rcases List.mem_cons.1 e with e | e
          · exact .inr (.inl (by omega))
          · exact .inl e
        · exact .inr (.inr e))
      (fun i hi => by omega) (by omega)
    refine ⟨r, Ev.step (fun k => ?_) hr, hs⟩
    simp only [graph_Depth.l1]
    have hx : rd ((c : Int) :: q) 0 = (c : Int) := rfl
    have hy : rd_L1 g (c : Int) = g.getD c [] := rfl
    rw [if_pos (by simp only [List.length_cons]; omega), if_pos (by simp only [List.length_cons]; omega), if_pos (by simp only [List.length_cons]; omega), hx, if_pos (by omega), if_pos (by omega), hy]
    rfl
theorem depth_l0 (g : List (List Int)) (hn : g.length ≤ 1000) (a : Nat) (ha : a < g.length) (r : List Int) (hr : Ev (fun k => graph_Depth.l1 k g ((List.replicate g.length (-1)).set a 0) [(a : Int)]) r) :
    ∀ m i d, i + m = g.length → d.length = g.length → (∀ j, j < i → d[j]? = some (-1)) → Ev (fun k => graph_Depth.l0 k g (a : Int) d (g.length : Int) (i : Int)) r
  | 0, i, d, h, hl, hd => by
    have e : d = List.replicate g.length (-1) := by
      refine List.ext_getElem? fun j => ?_
      rw [List.getElem?_replicate]
      by_cases hj : j < g.length
      · rw [if_pos hj, hd j (by omega)]
      · rw [if_neg hj, List.getElem?_eq_none (by omega)]
    subst e
    refine Ev.step (fun k => ?_) hr
    simp only [graph_Depth.l0]
    rw [if_neg (by omega), if_pos (by omega), if_pos (by omega)]
    rfl
  | m + 1, i, d, h, hl, hd => by
    have ih := depth_l0 g hn a ha r hr m (i + 1) (d.set i (-1)) (by omega) (by rw [List.length_set, hl]) (fun j hj => by
      rw [List.getElem?_set]
      by_cases e : i = j
      · rw [if_pos e, if_pos (by omega)]
      · rw [if_neg e]; exact hd j (by omega))
    refine Ev.step (fun k => ?_) ih
    simp only [graph_Depth.l0]
    rw [if_pos (by omega), if_pos (by omega), if_pos (by omega), w1 i (by omega)]
    rfl
theorem depth_start (g : List (List Int)) (a : Nat) (ha : a < g.length) : Inv g a ((List.replicate g.length (-1)).set a 0) [(a : Int)] ∧ ∀ v, v < g.length → 0 ≤ ((List.replicate g.length (-1 : Int)).set a 0).getD v 0 → v = a := by
  have hr : ∀ v, v < g.length → (List.replicate g.length (-1 : Int)).getD v 0 = -1 := fun v hv => by
    rw [List.getD_eq_getElem?_getD, List.getElem?_replicate, if_pos hv]; rfl
  have hset : ∀ v, ((List.replicate g.length (-1 : Int)).set a 0).getD v 0 = if a = v then 0 else (List.replicate g.length (-1 : Int)).getD v 0 := fun v => getD_set 0 _ _ v _ (by simpa using ha)
  have hcs := cnt_set (List.replicate g.length (-1 : Int)) a 0 (by simpa using ha) (by rw [hr a ha]; decide) (by decide)
  have hone : ∀ v, v < g.length → 0 ≤ ((List.replicate g.length (-1 : Int)).set a 0).getD v 0 → v = a := fun v hv hp => by
    rw [hset] at hp
    by_cases e : a = v
    · exact e.symm
    · rw [if_neg e, hr v hv] at hp; omega
  refine ⟨?_, hone⟩
  exact
    { len := by simp
      src := by rw [hset, if_pos rfl]; decide
      lt := fun v hv => by
        rw [hset, hcs]
        split
        · omega
        · rw [hr v hv]; omega
      snd := fun v hv hp => by rw [hone v hv hp]; exact .refl
      que := fun x hx => by
        rw [List.mem_singleton.1 hx]
        refine ⟨by omega, by omega, ?_⟩
        rw [hset, if_pos (by omega)]; decide
      ql := by rw [hcs]; simp }
theorem depth_f (g : List (List Int)) (hg : Small g) (hok : goodb g = true) (a : Nat) (ha : a < g.length) : ∃ d, Ev (fun k => graph_Depth.f k g (a : Int)) d ∧ Tells g a d := by
  have hg1 := hg.1
  obtain ⟨I, hone⟩ := depth_start g a ha
  obtain ⟨r, hr, hs⟩ := depth_l1 g hg hok a ha _ _ _ I (fun v hv hp => by rw [hone v hv hp]; exact .inl List.mem_cons_self) (Nat.le_refl _)
  have h0 := depth_l0 g hg.1 a ha r hr g.length 0 (List.replicate g.length 0) (by omega) (by simp) (fun j hj => by omega)
  refine ⟨r, ?_, hs⟩
  unfold graph_Depth.f
  refine Ev.bind (may_f g hg) ?_
  have e : graph_isNode.f g (a : Int) = some true := by rw [isNode_ev, okb_iff.2 ⟨by omega, by omega⟩]
  rw [hok]
  refine Ev.congr (fun k => ?_) (Ev.step (g := fun k => graph_Depth.j0 k g (a : Int) false) (fun k => ?_) h0)
  · rw [if_pos rfl, e]; rfl
  · simp only [graph_Depth.j0]
    rw [if_neg (by decide), if_pos (by omega), if_pos (by omega)]
    simp only [Option.bind_some, List.length_replicate, Int.toNat_natCast]
    rfl
theorem depth_out (g : List (List Int)) (hg : Small g) (hok : goodb g = true) (a : Int) (ha : okb g.length a = false) : Ev (fun k => graph_Depth.f k g a) [] := by
  unfold graph_Depth.f
  refine Ev.bind (may_f g hg) ?_
  rw [hok]
  refine Ev.congr (fun k => ?_) (Ev.step (g := fun k => graph_Depth.j0 k g a true) (f := fun _ => some []) (fun k => ?_) (Ev.now _))
  · rw [if_pos rfl, isNode_ev, ha]; rfl
  · simp only [graph_Depth.j0, if_true]

/-! ### Reach -/
theorem reach_l0 (d : List Int) (hd : d.length ≤ 1000) : ∀ m i x4, i + m = d.length → x4.length ≤ i → ∃ l, Ev (fun k => graph_Reach.l0 k x4 d (d.length : Int) (i : Int)) l ∧ l.length ≤ d.length ∧
      ∀ x, x ∈ l ↔ x ∈ x4 ∨ ∃ v : Nat, i ≤ v ∧ v < d.length ∧ x = (v : Int) ∧ 0 ≤ d.getD v 0
  | 0, i, x4, h, hx => by
    refine ⟨x4, Ev.step (f := fun _ => some x4) (fun k => ?_) (Ev.now _), by omega, fun x => ⟨.inl, ?_⟩⟩
    · simp only [graph_Reach.l0]
      rw [if_neg (by omega)]
    · rintro (h | ⟨v, h1, h2, -⟩)
      · exact h
      · omega
  | m + 1, i, x4, h, hx => by
    by_cases hp : 0 ≤ d.getD i 0
    · obtain ⟨l, hl, h1, h2⟩ := reach_l0 d hd m (i + 1) (x4 ++ [(i : Int)]) (by omega) (by simp; omega)
      refine ⟨l, Ev.step (fun k => ?_) hl, h1, fun x => (h2 x).trans ⟨?_, ?_⟩⟩
      · simp only [graph_Reach.l0]
        rw [if_pos (by omega), if_pos (by omega), if_pos (by omega), rdn, if_pos hp, if_pos (by omega), w1 i (by omega)]
      · rintro (e | ⟨v, e1, e2, e3, e4⟩)
        · rcases List.mem_append.1 e with e | e
          · exact .inl e
          · exact .inr ⟨i, Nat.le_refl _, by omega, List.mem_singleton.1 e, hp⟩
        · exact .inr ⟨v, by omega, e2, e3, e4⟩
      · rintro (e | ⟨v, e1, e2, e3, e4⟩)
        · exact .inl (List.mem_append.2 (.inl e))
        · by_cases e : v = i
          · subst e; exact .inl (List.mem_append.2 (.inr (List.mem_singleton.2 e3)))
          · exact .inr ⟨v, by omega, e2, e3, e4⟩
    · obtain ⟨l, hl, h1, h2⟩ := reach_l0 d hd m (i + 1) x4 (by omega) (by omega)
      refine ⟨l, Ev.step (fun k => ?_) hl, h1, fun x => (h2 x).trans ⟨?_, ?_⟩⟩
      · simp only [graph_Reach.l0]
        rw [if_pos (by omega), if_pos (by omega), if_pos (by omega), rdn, if_neg hp, w1 i (by omega)]
      · rintro (e | ⟨v, e1, e2, e3, e4⟩)
        · exact .inl e
        · exact .inr ⟨v, by omega, e2, e3, e4⟩
      · rintro (e | ⟨v, e1, e2, e3, e4⟩)
        · exact .inl e
        · by_cases e : v = i
          · subst e; exact absurd e4 hp
          · exact .inr ⟨v, by omega, e2, e3, e4⟩
/-- what is reached from any number: nothing where it is no node -/
def From (g : List (List Int)) (c : Int) (v : Nat) : Prop := 0 ≤ c ∧ c < (g.length : Int) ∧ v < g.length ∧ Rch g c.toNat v
theorem reach_f (g : List (List Int)) (hg : Small g) (hok : goodb g = true) (c : Int) : ∃ l, Ev (fun k => graph_Reach.f k g c) l ∧ l.length ≤ 1000 ∧ ∀ x, x ∈ l ↔ ∃ v : Nat, x = (v : Int) ∧ From g c v := by
  have hg1 := hg.1
  unfold graph_Reach.f
  cases hc : okb g.length c with
  | true =>
    obtain ⟨h0, h1⟩ := okb_iff.1 hc
    obtain ⟨a, rfl⟩ : ∃ a : Nat, c = a := ⟨c.toNat, by omega⟩
    obtain ⟨d, hd, hl, hs⟩ := depth_f g hg hok a (by omega)
    obtain ⟨l, h, hlen, hm⟩ := reach_l0 d (by omega) d.length 0 [] (by omega) (by simp)
    refine ⟨l, Ev.bind hd h, by omega, fun x => (hm x).trans ⟨?_, ?_⟩⟩
    · rintro (e | ⟨v, -, e2, e3, e4⟩)
      · cases e
      · exact ⟨v, e3, h0, h1, by omega, (hs v (by omega)).1 e4⟩
    · rintro ⟨v, e3, -, -, e5, e6⟩
      exact .inr ⟨v, by omega, by omega, e3, (hs v e5).2 e6⟩
  | false =>
    have hd := depth_out g hg hok c hc
    obtain ⟨l, h, hlen, hm⟩ := reach_l0 [] (by simp) 0 0 [] rfl (by simp)
    refine ⟨l, Ev.bind hd h, by simp at hlen; simp [hlen], fun x => (hm x).trans ⟨?_, ?_⟩⟩
    · rintro (e | ⟨v, -, e2, -⟩)
      · cases e
      · simp at e2
    · rintro ⟨v, e3, e4, e5, -⟩
      rw [okb_iff.2 ⟨e4, e5⟩] at hc
      cases hc

/-! ### plan.Touched -/
def pick (p : Nat → Bool) : Nat → Nat → List Int
  | 0, _ => []
  | m + 1, i => if p i = true then (i : Int) :: pick p m (i + 1) else pick p m (i + 1)
theorem pick_congr {p q : Nat → Bool} : ∀ m i, (∀ j, i ≤ j → j < i + m → p j = q j) → pick p m i = pick q m i
  | 0, _, _ => rfl
  | m + 1, i, h => by
    rw [pick, pick, h i (by omega) (by omega), pick_congr m (i + 1) fun j h1 h2 => h j (by omega) (by omega)]
theorem pick_length (p : Nat → Bool) : ∀ m i, (pick p m i).length ≤ m
  | 0, _ => by simp [pick]
  | m + 1, i => by
    have := pick_length p m (i + 1)
    rw [pick]
    split
    · rw [List.length_cons]; omega
    · omega
theorem touch_l2 (met : List Bool) (hn : met.length ≤ 1000) : ∀ m i x4, i + m = met.length → x4.length ≤ i → Ev (fun k => plan_Touched.l2 k x4 met (met.length : Int) (i : Int)) (x4 ++ pick (fun j => met.getD j false) m i)
  | 0, i, x4, h, hx => by
    rw [pick, List.append_nil]
    refine Ev.step (f := fun _ => some x4) (fun k => ?_) (Ev.now _)
    simp only [plan_Touched.l2]
    rw [if_neg (by omega)]
  | m + 1, i, x4, h, hx => by
    have hr : rdOf false met (i : Int) = met.getD i false := rfl
    rw [pick]
    cases hp : met.getD i false with
    | true =>
      rw [if_pos rfl]
      have ih := touch_l2 met hn m (i + 1) (x4 ++ [(i : Int)]) (by omega) (by simp; omega)
      rw [List.append_assoc, List.singleton_append] at ih
      refine Ev.step (fun k => ?_) ih
      simp only [plan_Touched.l2]
      rw [if_pos (by omega), if_pos (by omega), if_pos (by omega), hr, if_pos hp, if_pos (by omega), w1 i (by omega)]
    | false =>
      rw [if_neg (by decide)]
      have ih := touch_l2 met hn m (i + 1) x4 (by omega) (by omega)
      refine Ev.step (fun k => ?_) ih
      simp only [plan_Touched.l2]
      rw [if_pos (by omega), if_pos (by omega), if_pos (by omega), hr, if_neg (by rw [hp]; decide), w1 i (by omega)]
theorem touch_l1 (t : List (List Int)) (ch : List Int) (i : Nat) (l : List Int) (hl : l.length ≤ 1000) (n : Nat) (hlt : ∀ x ∈ l, 0 ≤ x ∧ x < (n : Int)) (r : List Int) :
    ∀ m j met, j + m = l.length → met.length = n →
      (∀ met' : List Bool, met'.length = n → (∀ v : Nat, v < n → (met'.getD v false = true ↔ met.getD v false = true ∨ (v : Int) ∈ l.drop j)) → Ev (fun k => plan_Touched.l0 k t met' ch (ch.length : Int) (wrap64 ((i : Int) + 1))) r) →
      Ev (fun k => plan_Touched.l1 k t met ch (ch.length : Int) (i : Int) l (l.length : Int) (j : Int)) r
  | 0, j, met, h, hm, H => by
    refine Ev.step (fun k => ?_) (H met hm fun v hv => by rw [List.drop_of_length_le (by omega)]; simp)
    simp only [plan_Touched.l1]
    rw [if_neg (by omega)]
  | m + 1, j, met, h, hm, H => by
    have hx : l.getD j 0 ∈ l := by
      rw [List.getD_eq_getElem?_getD, List.getElem?_eq_getElem (by omega : j < l.length)]
      exact List.getElem_mem _
    obtain ⟨h0, h1⟩ := hlt _ hx
    have ih := touch_l1 t ch i l hl n hlt r m (j + 1) (met.set (l.getD j 0).toNat true) (by omega) (by rw [List.length_set, hm]) (fun met' a b => H met' a fun v hv => by
      rw [b v hv, getD_set _ _ _ _ _ (by omega), drop_at 0 l j (by omega), List.mem_cons]
      by_cases e : (l.getD j 0).toNat = v
      · rw [if_pos e]
        exact ⟨fun _ => .inr (.inl (by omega)), fun _ => .inl rfl⟩
      · rw [if_neg e]
        constructor
        · rintro (a | a)
          · exact .inl a
          · exact .inr (.inr a)
        · rintro (a | a | a)
          · exact .inl a
          · exact absurd (by omega) e
          · exact .inr a)
    refine Ev.step (fun k => ?_) ih
    simp only [plan_Touched.l1]
    rw [if_pos (by omega), if_pos (by omega), if_pos (by omega), rdn, if_pos (by omega), if_pos (by omega), w1 j (by omega)]
theorem touch_l0 (t : List (List Int)) (hg : Small t) (hok : goodb t = true) (ch : List Int) (hch : ch.length ≤ 40) : ∀ m i met, i + m = ch.length → met.length = t.length →
    ∃ met' : List Bool, met'.length = t.length ∧ (∀ v : Nat, v < t.length → (met'.getD v false = true ↔ met.getD v false = true ∨ ∃ c ∈ ch.drop i, From t c v)) ∧
      Ev (fun k => plan_Touched.l0 k t met ch (ch.length : Int) (i : Int)) (pick (fun j => met'.getD j false) t.length 0)
  | 0, i, met, h, hm => by
    have hg1 := hg.1
    refine ⟨met, hm, fun v hv => by rw [List.drop_of_length_le (by omega)]; simp, ?_⟩
    have h2 := touch_l2 met (by omega) met.length 0 [] (by omega) (by simp)
    rw [List.nil_append, hm] at h2
    refine Ev.step (fun k => ?_) h2
    simp only [plan_Touched.l0]
    rw [if_neg (by omega), hm]
    rfl
  | m + 1, i, met, h, hm => by
    have hrd : rd ch (i : Int) = ch.getD i 0 := rfl
    obtain ⟨l, hl, hlen, hmem⟩ := reach_f t hg hok (ch.getD i 0)
    -- the row as it stands behind this number
    have hmet : ∃ met1 : List Bool, met1.length = t.length ∧ ∀ v : Nat, v < t.length → (met1.getD v false = true ↔ met.getD v false = true ∨ (v : Int) ∈ l) := by
      classical
      refine ⟨(List.range t.length).map fun v => met.getD v false || decide ((v : Int) ∈ l), by simp, fun v hv => ?_⟩
      rw [List.getD_eq_getElem?_getD]
      simp [hv]
    obtain ⟨met1, k1, k2⟩ := hmet
    obtain ⟨met', a, b, c⟩ := touch_l0 t hg hok ch hch m (i + 1) met1 (by omega) k1
    have uniq : ∀ met2 : List Bool, met2.length = t.length → (∀ v : Nat, v < t.length → (met2.getD v false = true ↔ met.getD v false = true ∨ (v : Int) ∈ l.drop 0)) → met2 = met1 := by
      intro met2 e1 e2
      refine List.ext_getElem (by omega) fun v h1 h2 => ?_
      have x1 := e2 v (by omega)
      have x2 := k2 v (by omega)
      rw [List.drop_zero] at x1
      rw [List.getD_eq_getElem?_getD, List.getElem?_eq_getElem h1] at x1
      rw [List.getD_eq_getElem?_getD (l := met1), List.getElem?_eq_getElem h2] at x2
      exact Bool.eq_iff_iff.2 (x1.trans x2.symm)
    have h1 := touch_l1 t ch i l hlen t.length (fun x hx => by obtain ⟨v, rfl, -, -, h3, -⟩ := (hmem x).1 hx; omega) _ l.length 0 met (by omega) hm (fun met2 e1 e2 => by
      rw [uniq met2 e1 e2, w1 i (by omega)]; exact c)
    refine ⟨met', a, fun v hv => (b v hv).trans ?_, Ev.step (fun k => ?_) (Ev.bind (f := fun k l => plan_Touched.l1 k t met ch (ch.length : Int) (i : Int) l (l.length : Int) 0) hl h1)⟩
    · rw [k2 v hv, drop_at 0 ch i (by omega), hmem]
      constructor
      · rintro ((e | ⟨v', e1, e2⟩) | ⟨c, e1, e2⟩)
        · exact .inl e
        · obtain rfl : v = v' := by omega
          exact .inr ⟨_, List.mem_cons_self, e2⟩
        · exact .inr ⟨c, List.mem_cons_of_mem _ e1, e2⟩
      · rintro (e | ⟨c, e1, e2⟩)
        · exact .inl (.inl e)
        · rcases List.mem_cons.1 e1 with e1 | e1
          · exact .inl (.inr ⟨v, rfl, e1 ▸ e2⟩)
          · exact .inr ⟨c, e1, e2⟩
    · simp only [plan_Touched.l0]
      rw [if_pos (by omega), if_pos (by omega), if_pos (by omega), hrd]
theorem touch_f (g t : List (List Int)) (ht : Ev (fun k => graph_Turned.f k g) t) (hg : Small t) (hok : goodb t = true) (ch : List Int) (hch : ch.length ≤ 40) : ∃ p : Nat → Bool, (∀ v, v < t.length → (p v = true ↔ ∃ c ∈ ch, From t c v)) ∧
    Ev (fun k => plan_Touched.f k g ch) (pick p t.length 0) := by
  obtain ⟨met', a, b, c⟩ := touch_l0 t hg hok ch hch ch.length 0 (List.replicate t.length false) (by omega) (by simp)
  have hg1 := hg.1
  refine ⟨_, fun v hv => (b v hv).trans ⟨?_, fun h => .inr h⟩, ?_⟩
  · rintro (e | e)
    · rw [List.getD_eq_getElem?_getD, List.getElem?_replicate] at e
      split at e <;> cases e
    · exact e
  · unfold plan_Touched.f
    refine Ev.bind ht (Ev.congr (fun k => ?_) c)
    rw [if_pos (by omega), if_pos (by omega)]
    rfl
end Go.Proofs.YtikfiadnnlgokaaGreatDoor.TouchesP
