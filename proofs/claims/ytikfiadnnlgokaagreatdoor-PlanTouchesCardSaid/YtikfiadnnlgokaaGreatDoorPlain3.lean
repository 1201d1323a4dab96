import Derived.Test.YtikfiadnnlgokaaGreatDoorPlain2
/-! What the printed functions of PlanTouches compute: the reference's Depth and Touched; and the law: true for any graph and any numbers. -/
namespace Go.Proofs.YtikfiadnnlgokaaGreatDoor.TouchesP
open Go.RowKit Go.Proofs.YtikfiadnnlgokaaGreatDoorW.PrintWords

/-! ### the reference's Depth -/
/-- all that a node leads to has a depth -/
def ClosedAt (g : List (List Int)) (d : List Int) (v : Nat) : Prop := ∀ x ∈ g.getD v [], 0 ≤ d.getD x.toNat 0
/-- in round k, before node i -/
structure Rnd (g : List (List Int)) (a : Nat) (d : List Int) (k i : Nat) : Prop where
  inv : Inv g a d []
  low : ∀ v, v < g.length → 0 ≤ d.getD v 0 → d.getD v 0 < (k : Int) ∨ (d.getD v 0 = (k : Int) ∧ v < i) → ClosedAt g d v
theorem rnd_set {g : List (List Int)} (hok : goodb g = true) {a : Nat} {d : List Int} {k c : Nat} (hc : c < g.length) (R : Rnd g a d k c) (hd : d.getD c 0 = (k : Int)) {x : Int} (hx : x ∈ g.getD c []) (hp : d.getD x.toNat 0 < 0) :
    Rnd g a (d.set x.toNat ((k : Int) + 1)) k c ∧ (∀ v, 0 ≤ d.getD v 0 → (d.set x.toNat ((k : Int) + 1)).getD v 0 = d.getD v 0) ∧ 0 ≤ (d.set x.toNat ((k : Int) + 1)).getD x.toNat 0 := by
  obtain ⟨h0, h1⟩ := good_at hok hx
  have hlen := R.inv.len
  have hcs := cnt_set d x.toNat ((k : Int) + 1) (by omega) hp (by omega)
  have hset : ∀ v, (d.set x.toNat ((k : Int) + 1)).getD v 0 = if x.toNat = v then (k : Int) + 1 else d.getD v 0 := fun v => getD_set 0 d _ v _ (by omega)
  have hkeep : ∀ v, 0 ≤ d.getD v 0 → (d.set x.toNat ((k : Int) + 1)).getD v 0 = d.getD v 0 := fun v hv => by
    rw [hset, if_neg]
    intro e
    rw [e] at hp
    omega
  have hlt := R.inv.lt c hc
  refine ⟨⟨{ len := by rw [List.length_set, hlen]
             src := by rw [hkeep _ R.inv.src]; exact R.inv.src
             lt := fun v hv => by
               rw [hset, hcs]
               have := R.inv.lt v hv
               split <;> omega
             snd := fun v hv hp2 => by
               rw [hset] at hp2
               by_cases e : x.toNat = v
               · rw [← e]; exact Rch.step (R.inv.snd c hc (by omega)) hx
               · rw [if_neg e] at hp2; exact R.inv.snd v hv hp2
             que := fun y hy => by cases hy
             ql := by simp }, fun v hv hp2 hor => ?_⟩, hkeep, ?_⟩
  · rw [hset] at hp2 hor
    by_cases e : x.toNat = v
    · rw [if_pos e] at hor; omega
    · rw [if_neg e] at hp2 hor
      intro y hy
      have := R.low v hv hp2 hor y hy
      rw [hkeep _ this]; exact this
  · rw [hset, if_pos rfl]; omega
theorem rdepth_l3 (g : List (List Int)) (hg : Small g) (hok : goodb g = true) (a k c : Nat) (hk : k ≤ 1000) (hc : c < g.length)
    (H : ∀ d, Rnd g a d k (c + 1) → ∃ r, Ev (fun q => pomaceref22_Depth.l2 q g d (k : Int) (g.length : Int) (wrap64 ((c : Int) + 1))) r ∧ Tells g a r) :
    ∀ m j d, j + m = (g.getD c []).length → Rnd g a d k c → d.getD c 0 = (k : Int) → (∀ i, i < j → 0 ≤ d.getD ((g.getD c []).getD i 0).toNat 0) →
      ∃ r, Ev (fun q => pomaceref22_Depth.l3 q g d (k : Int) (g.length : Int) (c : Int) (g.getD c []) ((g.getD c []).length : Int) (j : Int)) r ∧ Tells g a r
  | 0, j, d, h, R, hd, hj => by
    obtain ⟨r, hr, hs⟩ := H d ⟨R.inv, fun v hv hp hor => by
      by_cases e : v = c
      · subst e
        intro x hx
        obtain ⟨i, hi, e⟩ := List.getElem_of_mem hx
        have := hj i (by omega)
        rw [List.getD_eq_getElem?_getD (l := g.getD v []), List.getElem?_eq_getElem hi, e] at this
        exact this
      · exact R.low v hv hp (by omega)⟩
    refine ⟨r, Ev.step (fun q => ?_) hr, hs⟩
    simp only [pomaceref22_Depth.l3]
    rw [if_neg (by omega)]
  | m + 1, j, d, h, R, hd, hj => by
    have hm : (g.getD c []).getD j 0 ∈ g.getD c [] := by
      rw [List.getD_eq_getElem?_getD (l := g.getD c []), List.getElem?_eq_getElem (by omega)]
      exact List.getElem_mem _
    obtain ⟨h0, h1⟩ := good_at hok hm
    have hsm := hg.2 c
    have hlen := R.inv.len
    by_cases hp : d.getD ((g.getD c []).getD j 0).toNat 0 < 0
    · obtain ⟨R2, hkeep, hnew⟩ := rnd_set hok hc R hd hm hp
      obtain ⟨r, hr, hs⟩ := rdepth_l3 g hg hok a k c hk hc H m (j + 1) _ (by omega) R2 (by rw [hkeep c (by omega), hd]) (fun i hi => by
        by_cases e : i = j
        · subst e; exact hnew
        · have := hj i (by omega)
          rw [hkeep _ this]; exact this)
      refine ⟨r, Ev.step (fun q => ?_) hr, hs⟩
      simp only [pomaceref22_Depth.l3]
      rw [if_pos (by omega), if_pos (by omega), if_pos (by omega), rdn, if_pos (by omega), if_pos (by omega), rd', if_pos hp, w1 j (by omega), w1 k (by omega)]
      rfl
    · obtain ⟨r, hr, hs⟩ := rdepth_l3 g hg hok a k c hk hc H m (j + 1) d (by omega) R hd (fun i hi => by
        by_cases e : i = j
        · subst e; omega
        · exact hj i (by omega))
      refine ⟨r, Ev.step (fun q => ?_) hr, hs⟩
      simp only [pomaceref22_Depth.l3]
      rw [if_pos (by omega), if_pos (by omega), if_pos (by omega), rdn, if_pos (by omega), if_pos (by omega), rd', if_neg hp, w1 j (by omega)]
theorem rdepth_l2 (g : List (List Int)) (hg : Small g) (hok : goodb g = true) (a k : Nat) (hk : k ≤ 1000)
    (H : ∀ d, Rnd g a d (k + 1) 0 → ∃ r, Ev (fun q => pomaceref22_Depth.l1 q g d (wrap64 ((k : Int) + 1))) r ∧ Tells g a r) :
    ∀ m i d, i + m = g.length → Rnd g a d k i → ∃ r, Ev (fun q => pomaceref22_Depth.l2 q g d (k : Int) (g.length : Int) (i : Int)) r ∧ Tells g a r
  | 0, i, d, h, R => by
    obtain ⟨r, hr, hs⟩ := H d ⟨R.inv, fun v hv hp hor => R.low v hv hp (by omega)⟩
    refine ⟨r, Ev.step (fun q => ?_) hr, hs⟩
    simp only [pomaceref22_Depth.l2]
    rw [if_neg (by omega)]
  | m + 1, i, d, h, R => by
    have hg1 := hg.1
    have hlen := R.inv.len
    by_cases hd : d.getD i 0 = (k : Int)
    · obtain ⟨r, hr, hs⟩ := rdepth_l3 g hg hok a k i hk (by omega) (fun d R => by
        rw [w1 i (by omega)]
        exact rdepth_l2 g hg hok a k hk H m (i + 1) d (by omega) R) (g.getD i []).length 0 d (by omega) R hd (fun i hi => by omega)
      refine ⟨r, Ev.step (fun q => ?_) hr, hs⟩
      simp only [pomaceref22_Depth.l2]
      rw [if_pos (by omega), if_pos (by omega), if_pos (by omega), rdn, if_pos hd, if_pos (by omega), rdL]
      rfl
    · obtain ⟨r, hr, hs⟩ := rdepth_l2 g hg hok a k hk H m (i + 1) d (by omega) ⟨R.inv, fun v hv hp hor => by
        by_cases e : v = i
        · subst e; exact R.low v hv hp (by omega)
        · exact R.low v hv hp (by omega)⟩
      refine ⟨r, Ev.step (fun q => ?_) hr, hs⟩
      simp only [pomaceref22_Depth.l2]
      rw [if_pos (by omega), if_pos (by omega), if_pos (by omega), rdn, if_neg hd, w1 i (by omega)]
theorem rdepth_l1 (g : List (List Int)) (hg : Small g) (hok : goodb g = true) (a : Nat) (ha : a < g.length) :
    ∀ m k d, k + m = g.length → Rnd g a d k 0 → ∃ r, Ev (fun q => pomaceref22_Depth.l1 q g d (k : Int)) r ∧ Tells g a r
  | 0, k, d, h, R => by
    refine ⟨d, Ev.step (f := fun _ => some d) (fun q => ?_) (Ev.now _), tells hok ha R.inv.len R.inv.src R.inv.snd fun v hv hp => R.low v hv hp (.inl ?_)⟩
    · simp only [pomaceref22_Depth.l1]
      rw [if_neg (by omega)]
    · have h1 := R.inv.lt v hv
      have h2 := cnt_le d
      rw [R.inv.len] at h2
      omega
  | m + 1, k, d, h, R => by
    have hg1 := hg.1
    obtain ⟨r, hr, hs⟩ := rdepth_l2 g hg hok a k (by omega) (fun d R => by
      rw [w1 k (by omega)]
      exact rdepth_l1 g hg hok a ha m (k + 1) d (by omega) R) g.length 0 d (by omega) R
    refine ⟨r, Ev.step (fun q => ?_) hr, hs⟩
    simp only [pomaceref22_Depth.l1]
    rw [if_pos (by omega)]
    rfl
theorem rdepth_l0 (g : List (List Int)) (hn : g.length ≤ 1000) (a : Nat) (ha : a < g.length) (r : List Int) (hr : Ev (fun q => pomaceref22_Depth.l1 q g ((List.replicate g.length (-1)).set a 0) 0) r) :
    ∀ m i d, i + m = g.length → d.length = i → (∀ j, j < i → d[j]? = some (if a = j then 0 else -1)) → Ev (fun q => pomaceref22_Depth.l0 q g (a : Int) d (g.length : Int) (i : Int)) r
  | 0, i, d, h, hl, hd => by
    have e : d = (List.replicate g.length (-1)).set a 0 := by
      refine List.ext_getElem? fun j => ?_
      rw [List.getElem?_set, List.getElem?_replicate, List.length_replicate]
      by_cases hj : j < g.length
      · rw [if_pos hj, hd j (by omega), if_pos ha]
        split <;> rfl
      · rw [if_neg hj, if_neg (by omega), List.getElem?_eq_none (by omega)]
    subst e
    refine Ev.step (fun q => ?_) hr
    simp only [pomaceref22_Depth.l0]
    rw [if_neg (by omega)]
  | m + 1, i, d, h, hl, hd => by
    have hnext : ∀ y : Int, y = (if a = i then 0 else -1) → ∀ j, j < i + 1 → (d ++ [y])[j]? = some (if a = j then 0 else -1) := fun y hy j hj => by
      by_cases e : j = i
      · subst e; rw [← hl, List.getElem?_concat_length, hy, hl]
      · rw [List.getElem?_append_left (by omega)]; exact hd j (by omega)
    by_cases e : (i : Int) = (a : Int)
    · have ih := rdepth_l0 g hn a ha r hr m (i + 1) (d ++ [0]) (by omega) (by simp [hl]) (hnext 0 (by rw [if_pos (by omega)]))
      refine Ev.step (fun q => ?_) ih
      simp only [pomaceref22_Depth.l0]
      rw [if_pos (by omega), if_pos e, if_pos (by omega), w1 i (by omega)]
    · have ih := rdepth_l0 g hn a ha r hr m (i + 1) (d ++ [-1]) (by omega) (by simp [hl]) (hnext (-1) (by rw [if_neg (by omega)]))
      refine Ev.step (fun q => ?_) ih
      simp only [pomaceref22_Depth.l0]
      rw [if_pos (by omega), if_neg e, if_pos (by omega), w1 i (by omega)]
theorem rdepth_f (g : List (List Int)) (hg : Small g) (hok : goodb g = true) (a : Nat) (ha : a < g.length) : ∃ d, Ev (fun q => pomaceref22_Depth.f q g (a : Int)) d ∧ Tells g a d := by
  obtain ⟨I, hone⟩ := depth_start g a ha
  obtain ⟨r, hr, hs⟩ := rdepth_l1 g hg hok a ha g.length 0 _ (by omega) ⟨{ I with que := fun y hy => (by cases hy), ql := (by simp) }, fun v hv hp hor => by omega⟩
  exact ⟨r, rdepth_l0 g hg.1 a ha r hr g.length 0 [] (by omega) rfl (fun j hj => by omega), hs⟩

/-! ### the reference's Touched -/
theorem rt_l1 (g : List (List Int)) (ch : List Int) (hch : ch.length ≤ 40) (i : Nat) (d x5 : List Int) (hx : x5.length ≤ 1000) (hd : Tells g i d) (r : List Int) (fin : Bool)
    (H : Ev (fun q => if fin = true then pomaceref30_Touched.l0 q g ch (x5 ++ [(i : Int)]) (g.length : Int) (wrap64 ((i : Int) + 1)) else pomaceref30_Touched.l0 q g ch x5 (g.length : Int) (wrap64 ((i : Int) + 1))) r) :
    ∀ m j b, j + m = ch.length → (fin = true ↔ b = true ∨ ∃ c ∈ ch.drop j, 0 ≤ c ∧ c < (g.length : Int) ∧ Rch g i c.toNat) →
      Ev (fun q => pomaceref30_Touched.l1 q g ch x5 (i : Int) d b (g.length : Int) (i : Int) ch (ch.length : Int) (j : Int)) r
  | 0, j, b, h, hb => by
    rw [List.drop_of_length_le (by omega)] at hb
    have e : fin = b := Bool.eq_iff_iff.2 (hb.trans ⟨fun h => h.elim id (fun ⟨_, h, _⟩ => by cases h), .inl⟩)
    subst e
    refine Ev.step (fun q => ?_) H
    simp only [pomaceref30_Touched.l1]
    rw [if_neg (by omega), if_pos (show x5.length < 17592186044416 by omega)]
  | m + 1, j, b, h, hb => by
    rw [drop_at 0 ch j (by omega)] at hb
    have hrd : rd ch (j : Int) = ch.getD j 0 := rfl
    have hdl := hd.1
    cases b with
    | true =>
      have ih := rt_l1 g ch hch i d x5 hx hd r fin H m (j + 1) true (by omega) ⟨fun _ => .inl rfl, fun _ => hb.2 (.inl rfl)⟩
      refine Ev.step (fun q => ?_) ih
      simp only [pomaceref30_Touched.l1, if_true]
      rw [if_pos (by omega), if_pos (by omega), if_pos (by omega), w1 j (by omega)]
    | false =>
      by_cases h0 : 0 ≤ ch.getD j 0
      · by_cases h1 : ch.getD j 0 < (g.length : Int)
        · have ht := hd.2 (ch.getD j 0).toNat (by omega)
          have ih := rt_l1 g ch hch i d x5 hx hd r fin H m (j + 1) (decide (rd d (ch.getD j 0) ≥ 0)) (by omega) (hb.trans ⟨?_, ?_⟩)
          · refine Ev.step (fun q => ?_) ih
            simp only [pomaceref30_Touched.l1]
            rw [if_pos (by omega), if_pos (by omega), if_pos (by omega), if_neg (by decide), hrd, if_pos h0, if_pos h1, if_pos h0, if_pos (by omega), w1 j (by omega)]
          · rintro (e | ⟨c, e1, e2⟩)
            · cases e
            · rcases List.mem_cons.1 e1 with e1 | e1
              · subst e1; exact .inl (decide_eq_true (ht.2 e2.2.2))
              · exact .inr ⟨c, e1, e2⟩
          · rintro (e | ⟨c, e1, e2⟩)
            · exact .inr ⟨_, List.mem_cons_self, h0, h1, ht.1 (of_decide_eq_true e)⟩
            · exact .inr ⟨c, List.mem_cons_of_mem _ e1, e2⟩
        · have ih := rt_l1 g ch hch i d x5 hx hd r fin H m (j + 1) false (by omega) (hb.trans ⟨?_, ?_⟩)
          · refine Ev.step (fun q => ?_) ih
            simp only [pomaceref30_Touched.l1]
            rw [if_pos (by omega), if_pos (by omega), if_pos (by omega), if_neg (by decide), hrd, if_pos h0, if_neg h1, w1 j (by omega)]
          · rintro (e | ⟨c, e1, e2⟩)
            · cases e
            · rcases List.mem_cons.1 e1 with e1 | e1
              · subst e1; exact absurd e2.2.1 h1
              · exact .inr ⟨c, e1, e2⟩
          · rintro (e | ⟨c, e1, e2⟩)
            · cases e
            · exact .inr ⟨c, List.mem_cons_of_mem _ e1, e2⟩
      · have ih := rt_l1 g ch hch i d x5 hx hd r fin H m (j + 1) false (by omega) (hb.trans ⟨?_, ?_⟩)
        · refine Ev.step (fun q => ?_) ih
          simp only [pomaceref30_Touched.l1]
          rw [if_pos (by omega), if_pos (by omega), if_pos (by omega), if_neg (by decide), hrd, if_neg h0, w1 j (by omega)]
        · rintro (e | ⟨c, e1, e2⟩)
          · cases e
          · rcases List.mem_cons.1 e1 with e1 | e1
            · subst e1; exact absurd e2.1 h0
            · exact .inr ⟨c, e1, e2⟩
        · rintro (e | ⟨c, e1, e2⟩)
          · cases e
          · exact .inr ⟨c, List.mem_cons_of_mem _ e1, e2⟩
theorem rt_l0 (g : List (List Int)) (hg : Small g) (hok : goodb g = true) (ch : List Int) (hch : ch.length ≤ 40) (p : Nat → Bool)
    (hp : ∀ v, v < g.length → (p v = true ↔ ∃ c ∈ ch, 0 ≤ c ∧ c < (g.length : Int) ∧ Rch g v c.toNat)) :
    ∀ m i x5, i + m = g.length → x5.length ≤ i → Ev (fun q => pomaceref30_Touched.l0 q g ch x5 (g.length : Int) (i : Int)) (x5 ++ pick p m i)
  | 0, i, x5, h, hx => by
    rw [pick, List.append_nil]
    refine Ev.step (f := fun _ => some x5) (fun q => ?_) (Ev.now _)
    simp only [pomaceref30_Touched.l0]
    rw [if_neg (by omega)]
  | m + 1, i, x5, h, hx => by
    have hg1 := hg.1
    obtain ⟨d, hd, hs⟩ := rdepth_f g hg hok i (by omega)
    have H : Ev (fun q => if p i = true then pomaceref30_Touched.l0 q g ch (x5 ++ [(i : Int)]) (g.length : Int) (wrap64 ((i : Int) + 1)) else pomaceref30_Touched.l0 q g ch x5 (g.length : Int) (wrap64 ((i : Int) + 1))) (x5 ++ pick p (m + 1) i) := by
      rw [pick, w1 i (by omega)]
      cases p i with
      | true =>
        have ih := rt_l0 g hg hok ch hch p hp m (i + 1) (x5 ++ [(i : Int)]) (by omega) (by simp; omega)
        rw [List.append_assoc, List.singleton_append] at ih
        exact ih
      | false => exact rt_l0 g hg hok ch hch p hp m (i + 1) x5 (by omega) (by omega)
    have h1 := rt_l1 g ch hch i d x5 (by omega) hs _ (p i) H ch.length 0 false (by omega) ((hp i (by omega)).trans ⟨fun h => .inr h, fun h => h.elim (fun h => by cases h) id⟩)
    refine Ev.step (fun q => ?_) (Ev.bind (f := fun q d => pomaceref30_Touched.l1 q g ch x5 (i : Int) d false (g.length : Int) (i : Int) ch (ch.length : Int) 0) hd h1)
    simp only [pomaceref30_Touched.l0]
    rw [if_pos (by omega)]

/-! ### same, and the law -/
theorem same_l0 (l : List Int) (hl : l.length ≤ 1000) : ∀ m i, i + m = l.length → Ev (fun k => pomacelaw30_same.l0 k l l (l.length : Int) (i : Int)) true
  | 0, i, h => by
    refine Ev.step (f := fun _ => some true) (fun k => ?_) (Ev.now _)
    simp only [pomacelaw30_same.l0]
    rw [if_neg (by omega)]
  | m + 1, i, h => by
    refine Ev.step (fun k => ?_) (same_l0 l hl m (i + 1) (by omega))
    simp only [pomacelaw30_same.l0, if_true]
    rw [if_pos (by omega), if_pos (by omega), if_pos (by omega), if_pos (by omega), w1 i (by omega)]
theorem same_f (l : List Int) (hl : l.length ≤ 1000) : Ev (fun k => pomacelaw30_same.f k l l) true := by
  refine Ev.congr (fun k => ?_) (same_l0 l hl l.length 0 (by omega))
  unfold pomacelaw30_same.f
  rw [if_pos rfl]
  rfl
theorem Rch.head {g : List (List Int)} {a b c : Nat} (h : (b : Int) ∈ g.getD a []) (k : Rch g b c) : Rch g a c := by
  induction k with
  | refl => exact Rch.step (x := (b : Int)) .refl h
  | step _ hx ih => exact Rch.step ih hx
theorem rch_flip {g t : List (List Int)} (hok : goodb t = true) (edge : ∀ a b : Nat, (b : Int) ∈ t.getD a [] → (a : Int) ∈ g.getD b []) {a b : Nat} (h : Rch t a b) : Rch g b a := by
  induction h with
  | refl => exact .refl
  | step _ hx ih =>
    obtain ⟨h0, -⟩ := good_at hok hx
    exact Rch.head (edge _ _ (by rw [Int.toNat_of_nonneg h0]; exact hx)) ih
theorem law_true (g : List (List Int)) (ch : List Int) : ∃ k, pomacelaw30_PlanTouches.f k g ch = some true := by
  have out : Ev (fun k => pomacelaw30_PlanTouches.j0 k g ch true) true := by
    refine Ev.step (f := fun _ => some true) (fun k => ?_) (Ev.now _)
    simp only [pomacelaw30_PlanTouches.j0, if_true]
    rfl
  obtain ⟨b, hb, hs⟩ := light_f g
  apply Ev.rounds
  unfold pomacelaw30_PlanTouches.f
  refine Ev.bind hb ?_
  cases b with
  | false => exact out
  | true =>
    obtain ⟨hn, hr⟩ := hs rfl
    have hr' : ∀ j, (g.getD j []).length ≤ 40 := fun j => by
      by_cases hj : j < g.length
      · exact hr j hj
      · rw [List.getD_eq_getElem?_getD, List.getElem?_eq_none (by omega)]; simp
    have hg : Small g := ⟨by omega, fun j => by have := hr' j; omega⟩
    by_cases hch : ch.length ≤ 40
    · have hd : decide ((ch.length : Int) > 40) = false := decide_eq_false (by omega)
      rw [hd]
      refine Ev.congr (fun k => if_pos rfl) (Ev.step (fun k => by simp only [pomacelaw30_PlanTouches.j0]; rw [if_neg (by decide)]) ?_)
      cases hok : goodb g with
      | true =>
        obtain ⟨t, ht, T⟩ := turned_f g hn hr' hok
        have hTn := T.len
        have hT : Small t := ⟨by omega, fun j => by have := T.size j; omega⟩
        obtain ⟨p, hp, h1⟩ := touch_f g t ht hT T.good ch hch
        refine Ev.bind h1 (Ev.bind (rmay_f g hg) ?_)
        rw [hok]
        have h2 := rt_l0 g hg hok ch hch p (fun v hv => (hp v (by omega)).trans ⟨?_, ?_⟩) g.length 0 [] (by omega) (by simp)
        · have hl := pick_length p t.length 0
          rw [List.nil_append, ← hTn] at h2
          refine Ev.congr (fun k => if_pos rfl) (Ev.bind (g := fun k => pomaceref30_Touched.f k g ch) (Ev.congr (fun k => ?_) h2) (Ev.bind (same_f _ (by omega)) (Ev.congr (fun k => ?_) (Ev.now _))))
          · unfold pomaceref30_Touched.f
            rw [hTn]; rfl
          · rw [if_pos rfl]; rfl
        · rintro ⟨c, hc, e1, e2, e3, e4⟩
          exact ⟨c, hc, e1, by omega, rch_flip T.good (fun a b h => (T.edge a b).1 h) e4⟩
        · rintro ⟨c, hc, e1, e2, e3⟩
          exact ⟨c, hc, e1, by omega, by omega, rch_flip hok (fun a b h => (T.edge b a).2 h) e3⟩
      | false =>
        obtain ⟨p, hp, h1⟩ := touch_f g [] (turned_bad g hg hok) ⟨by simp, fun j => by simp⟩ rfl ch hch
        refine Ev.bind h1 (Ev.bind (rmay_f g hg) ?_)
        rw [hok]
        refine Ev.congr (fun k => ?_) (Ev.now _)
        rw [if_neg (by decide)]
        rfl
    · rw [decide_eq_true (show (ch.length : Int) > 40 by omega)]
      exact out
end Go.Proofs.YtikfiadnnlgokaaGreatDoor.TouchesP
