/-
  A sound evaluator of the program's form, part 2 of 2: no program in sight. Conditions: none of its own; each theorem tells its own.
-/
import Derived.Test.YtikfiadnnlgokaaGreatDoorDmA
import Derived.Lib.UnsafeStr
import Derived.Lib.Bytealg
import Derived.Laws.StandIn
import Derived.Lib.Index
import Derived.Lib.LastIndexByte
section
namespace Go.Dm
variable {C : Ctx} {ρ : Ren} {h : Heap} {w : World} {n : Nat} {e : E} {a : Act}

theorem storeVarD_sim (ok : C.Ok) (H : HR C ρ h w) {t : TypeId} {x v : DV} {h' : Heap} {x' v' : Value} (hq : storeVarD C.S h t x v = some h') (hx : VR ρ x x') (hv : VR ρ v v') :
    ∃ w', (Instr.storeAt t x' v').run C.P w = .ok () w' ∧ HR C ρ h' w' ∧ Stp ρ h w ρ h' w' := by
  unfold storeVarD at hq
  split at hq
  · rename_i id off i hi
    rw [beqD] at hq
    by_cases hl : v.cellsL.length = i.size
    · rw [decide_eq_true hl] at hq
      simp only [cond_true] at hq
      cases hx with
      | ptr _ _ bi hb =>
        obtain ⟨w', r1, r2, r3⟩ := storeN_sim ok H hq hb hv.cells
        refine ⟨w', ?_, r2, r3⟩
        unfold Instr.storeAt storeVar
        show ((do if v'.cells.size ≠ (← sizeOf t) then stuck "storeVar: the value has not the size of the variable"
                  storeCells ⟨bi.b, off, none⟩ v'.cells.toList : Sem Unit)).run C.P w = _
        rw [Sem.run_bind, run_sizeOf' ok hi]
        simp only [Result.andThen]
        rw [if_neg (by rw [hv.cells_size, hl]; simp)]
        exact r1
    · rw [decide_eq_false hl] at hq; cases hq
  · cases hq

theorem lies_bytes {P : Program} {e : TypeId} (hc : P.cellsOf e = 1) (count off n : Nat) (hn : off + n ≤ count) : liesAt P P.depth e (count / P.cellsOf e) off e n = true := by
  have hd : P.depth = (2 * (P.types.size + Made.depth) + 1) + 1 := rfl
  rw [hc, Nat.div_one, hd]
  simp only [liesAt, Bool.or_eq_true]
  left
  rw [hd]
  simp [rowAt, hc, hn, sameLayout, Nat.mod_one]

theorem bytesOf_sim : ∀ {l : List DV} {bs : List Nat}, bytesOf l = some bs → ∃ us : List UInt8, numOfN bs = numOf us ∧ us.length = l.length ∧ ∀ {vs : List Value}, VRs ρ l vs → vs = us.map fun b => Value.int .u8 b.toNat
  | [], bs, h => by
    unfold bytesOf at h; cases h
    exact ⟨[], rfl, rfl, fun hv => by cases hv; rfl⟩
  | x :: l, bs, h => by
    unfold bytesOf at h
    split at h
    · rename_i heq; cases heq
    · rename_i m l' heq
      cases heq
      rw [bltD] at h
      by_cases hm : m < 256
      · rw [decide_eq_true hm] at h
        simp only [cond_true] at h
        split at h
        · rename_i r hr
          cases h
          obtain ⟨us, h1, h2, h3⟩ := bytesOf_sim hr
          have hu : (UInt8.ofNat m).toNat = m := by simp; omega
          refine ⟨UInt8.ofNat m :: us, ?_, by simp [h2], fun hv => ?_⟩
          · simp only [numOfN, numOf, h1, hu]
          · cases hv with
            | cons _ v _ vs hx hs =>
              cases hx
              rw [h3 hs, List.map_cons, hu]
              rfl
        · cases h
      · rw [decide_eq_false hm] at h; cases h
    · cases h

theorem unsafeStringD_sim (ok : C.Ok) (H : HR C ρ h w) {pt el : TypeId} {i : TypeInfo} {ts : Array TypeId} {l : List DV} {l' : List Value} {v : DV} {h' : Heap} (t0 : TypeId) (ht : ts[0]? = some pt)
    (hp : Dm.und C.S pt = some (.pointer el)) (hi : C.S.ty el = some i) (hi1 : i.size = 1) (hq : unsafeStringD el h l = some (.val v h')) (hl : VRs ρ l l') :
    ∃ u w', (Builtin.unsafeString_ ts t0 l'.toArray).run C.P w = .ok u w' ∧ VR ρ v u ∧ HR C ρ h' w' ∧ Stp ρ h w ρ h' w' := by
  have hmax : IntKind.i64.max = 9223372036854775807 := rfl
  unfold unsafeStringD at hq
  split at hq
  · rename_i id off k n
    obtain ⟨p, q, rfl, hp1, hq1⟩ : ∃ p q, l' = [p, q] ∧ VR ρ (.ptr id off) p ∧ VR ρ (.int k (.ofNat n)) q := by
      cases hl with
      | cons _ p _ _ h1 h2 => cases h2 with
        | cons _ q _ _ h3 h4 => cases h4; exact ⟨p, q, rfl, h1, h3⟩
    cases hq1
    cases hp1 with
    | ptr _ _ bi hb =>
      have hdef : Builtin.unsafeString_ ts t0 [Value.pointer (some ⟨bi.b, off, none⟩), .int k (Int.ofNat n)].toArray = (do
          let n ← asInt (.int k (Int.ofNat n))
          let some pt := ts[0]? | stuck "unsafe.String: no argument types"
          if n < 0 then runtimePanic (.error "unsafe.String: len out of range")
          if n > IntKind.i64.max then unsupported (.unsafePointer "String: a length above the largest int")
          if n = 0 then pure (.string .empty)
          else if ← variablesAt ⟨bi.b, off, none⟩ (← elemOf pt) n.toNat then do
            let s ← loadBytes ⟨bi.b, off, none⟩ .empty n.toNat
            freeze ⟨bi.b, off, none⟩ n.toNat
            pure (.string s)
          else unsupported (.unsafePointer "String: not so many bytes at ptr") : Sem Value) := rfl
      rw [hdef]
      rw [beqD] at hq
      by_cases h0 : n = 0
      · rw [decide_eq_true h0] at hq
        cases hq
        subst h0
        refine ⟨.string .empty, w, ?_, ?_, H, Stp.refl _ _ _⟩
        · simp [asInt, asIntOf, hmax, ht]
        · exact .str ⟨0, 0⟩ (by show 0 < 256 ^ 0; simp)
      · rw [decide_eq_false h0] at hq
        simp only [cond_false] at hq
        split at hq
        · rename_i c m e' g fz hg
          cases hb2 : (Nat.ble (off + n) m && Nat.beq el e' && Nat.ble n 1073741824) with
          | false => rw [hb2] at hq; cases hq
          | true =>
            rw [hb2] at hq
            simp only [Bool.and_eq_true, bleD, beqD, decide_eq_true_eq] at hb2
            obtain ⟨⟨b1, b2⟩, b3⟩ := hb2
            subst b2
            simp only [cond_true] at hq
            split at hq
            · rename_i r hr
              split at hq
              · rename_i bs hbs
                cases hq
                obtain ⟨c', fr, k1, k2, k3, k4, k5, k6, k7⟩ := H.toHL.cell hg hb
                have hld : loadN h id off n = some r := by
                  unfold loadN
                  rw [hg]
                  simp only [bleD, b1, decide_true, cond_true]
                  exact hr
                obtain ⟨l2, g1, g2, g3, g4⟩ := loadN_sim H.toHL hld hb
                obtain ⟨us, u1, u2, u3⟩ := bytesOf_sim (ρ := ρ) hbs
                have u4 := u3 g1
                have hn : us.length = n := by rw [u2, g2]
                have hbytes := Lib.run_loadBytes (P := C.P) w us ⟨bi.b, off, none⟩ .empty (fun j x hj => by
                  rw [add_none]
                  exact g3 j _ (by rw [u4, List.getElem?_map, hj]; rfl))
                rw [hn] at hbytes
                have hz : C.P.cellsOf el = 1 := by
                  unfold Program.cellsOf
                  rw [ok.ty el i hi]
                  exact hi1
                have hvar : (variablesAt ⟨bi.b, off, none⟩ el n).run C.P w = .ok true w := by
                  unfold variablesAt
                  rw [Sem.run_bind]
                  show Result.andThen (.ok C.P w) _ = _
                  simp only [Result.andThen]
                  rw [Sem.run_bind, run_shape C.P k1]
                  simp only [Result.andThen]
                  rw [lies_bytes hz _ _ _ (by omega)]
                  rfl
                have hel : (elemOf pt).run C.P w = .ok el w := by
                  unfold elemOf
                  rw [Sem.run_bind, run_underlying (ok.und hp)]
                  rfl
                refine ⟨.string ⟨us.toArray⟩, setW w bi.b (.cells c' el (if fr.1 == fr.2 then (off, off + n) else (min fr.1 off, max fr.2 (off + n)))), ?_, ?_, ?_, Stp.set _ hg hb⟩
                · rw [ht]
                  rw [Sem.run_bind]
                  show Result.andThen (.ok ((n : Nat) : Int) w) _ = _
                  simp only [Result.andThen]
                  rw [if_neg (by omega), if_neg (by rw [hmax]; omega), if_neg (by omega)]
                  simp only [Int.toNat_natCast]
                  rw [Sem.run_bind, hel]
                  simp only [Result.andThen]
                  rw [Sem.run_bind, hvar]
                  simp only [Result.andThen, if_true]
                  rw [Sem.run_bind, hbytes]
                  simp only [Result.andThen]
                  rw [Sem.run_bind, run_freeze C.P k1 h0]
                  simp only [Result.andThen]
                  show Result.ok _ _ = Result.ok _ _
                  congr 2
                  apply ByteArray.ext
                  show (#[] : Array UInt8) ++ us.toArray = us.toArray
                  simp
                · have e1 : (⟨n, numOfN bs⟩ : BS) = BS.ofList us := by
                    unfold BS.ofList
                    rw [hn, u1]
                  rw [e1]
                  have e2 : (⟨us.toArray⟩ : ByteArray) = (BS.ofList us).ba := by
                    unfold BS.ba
                    rw [BS.ofList_bytes]
                  rw [e2]
                  exact .str _ (BS.ofList_ok _)
                · refine H.set ok hg hb ⟨c', _, rfl, k2, k3, k4, (fun e => by cases e), (fun e => by cases e), k7⟩
              · cases hq
            · cases hq
        · cases hq
  · rename_i k n
    obtain ⟨p, q, rfl, hp1, hq1⟩ : ∃ p q, l' = [p, q] ∧ VR ρ .nilptr p ∧ VR ρ (.int k (.ofNat n)) q := by
      cases hl with
      | cons _ p _ _ h1 h2 => cases h2 with
        | cons _ q _ _ h3 h4 => cases h4; exact ⟨p, q, rfl, h1, h3⟩
    cases hq1; cases hp1
    rw [beqD] at hq
    by_cases h0 : n = 0
    · rw [decide_eq_true h0] at hq
      cases hq
      subst h0
      refine ⟨.string .empty, w, ?_, ?_, H, Stp.refl _ _ _⟩
      · have hdef : Builtin.unsafeString_ ts t0 [Value.pointer none, .int k (Int.ofNat 0)].toArray = (do
            let n ← asInt (.int k (Int.ofNat 0))
            let some _ := ts[0]? | stuck "unsafe.String: no argument types"
            if n < 0 then runtimePanic (.error "unsafe.String: len out of range")
            if n > IntKind.i64.max then unsupported (.unsafePointer "String: a length above the largest int")
            if n = 0 then pure (.string .empty)
            else runtimePanic (.error "unsafe.String: ptr is nil and len is not zero") : Sem Value) := rfl
        rw [hdef]
        simp [asInt, asIntOf, hmax, ht]
      · exact .str ⟨0, 0⟩ (by show 0 < 256 ^ 0; simp)
    · rw [decide_eq_false h0] at hq; cases hq
  · cases hq

end Go.Dm
end

section
namespace Go.Dm
variable {C : Ctx} {ρ : Ren} {h : Heap} {w : World} {n : Nat} {e : E} {a : Act}

/-- what an operation with an effect comes to -/
def ERSim (C : Ctx) (ρ : Ren) (h : Heap) (w : World) (s : Sem Next) : ERes → Prop
  | .val v h' => (∃ u w' ρ', s.run C.P w = .ok (.value u) w' ∧ VR ρ' v u ∧ HR C ρ' h' w' ∧ Stp ρ h w ρ' h' w') ∨ (s.run C.P w = .ok .recover w ∧ v = .nilIface ∧ h' = h)
  | .skip h' => ∃ w', s.run C.P w = .ok .skip w' ∧ HR C ρ h' w' ∧ Stp ρ h w ρ h' w'
  | .call f args => ∃ us, s.run C.P w = (callFunc f us.toArray).run C.P w ∧ VRs ρ args us
  | .defer f args => ∃ d, s.run C.P w = .ok (.defer d) w ∧ DefR ρ (f, args) d

theorem ERSim.ofVal {s : Sem Value} {v : DV} {h' : Heap} (h1 : ∃ u w' ρ', s.run C.P w = .ok u w' ∧ VR ρ' v u ∧ HR C ρ' h' w' ∧ Stp ρ h w ρ' h' w') :
    ERSim C ρ h w (do pure (.value (← s))) (.val v h') := by
  obtain ⟨u, w', ρ', h1, h2, h3, h4⟩ := h1
  exact .inl ⟨u, w', ρ', run_v' C.P h1, h2, h3, h4⟩

theorem ERSim.ofSkip {s : Sem Unit} {h' : Heap} (h1 : ∃ w', s.run C.P w = .ok () w' ∧ HR C ρ h' w' ∧ Stp ρ h w ρ h' w') :
    ERSim C ρ h w (do s; pure .skip) (.skip h') := by
  obtain ⟨w', h1, h2, h3⟩ := h1
  refine ⟨w', ?_, h2, h3⟩
  rw [Sem.run_bind, h1]
  rfl

theorem skipE_some {x : Option Heap} {r : ERes} (h : skipE x = some r) : ∃ h', x = some h' ∧ r = .skip h' := by
  unfold skipE at h
  split at h
  · cases h; exact ⟨_, rfl, rfl⟩
  · cases h
theorem valE_some {x : Option (DV × Heap)} {r : ERes} (h : valE x = some r) : ∃ v h', x = some (v, h') ∧ r = .val v h' := by
  unfold valE at h
  split at h
  · cases h; exact ⟨_, _, rfl, rfl⟩
  · cases h

theorem callE_call {args : List DV} {f : DV} {r : ERes} {c : Call} {t : TypeId} {g : Value} {args' : List Value} {ρ' : Operand → Value} {fo : Operand} (hc : c.callee = .value fo) (hr : callE false args f = some r)
    (hf : VR ρ f g) (hg : ρ' fo = g) (ha : VRs ρ args args') (hargs : c.args.map ρ' = args'.toArray) : ERSim C ρ h w (do let d ← resolve ρ' c t; invoke d.target d.args) r := by
  unfold callE at hr
  split at hr
  · rename_i f first captured
    simp only [joinA_eq] at hr
    cases hr
    cases hf with
    | func _ _ _ a' b' h1 h2 =>
      refine ⟨a' ++ args' ++ b', ?_, (h1.append ha).append h2⟩
      unfold resolve
      simp only [hc, hg, hargs]
      show (callFunc f (a'.toArray ++ args'.toArray ++ b'.toArray)).run C.P w = _
      congr 2
      simp
  · cases hr

theorem callE_defer {args : List DV} {f : DV} {r : ERes} {c : Call} {t : TypeId} {g : Value} {args' : List Value} {ρ' : Operand → Value} {fo : Operand} (hc : c.callee = .value fo) (hr : callE true args f = some r)
    (hf : VR ρ f g) (hg : ρ' fo = g) (ha : VRs ρ args args') (hargs : c.args.map ρ' = args'.toArray) : ERSim C ρ h w (do pure (.defer (← resolve ρ' c t))) r := by
  unfold callE at hr
  split at hr
  · rename_i f first captured
    simp only [joinA_eq] at hr
    cases hr
    cases hf with
    | func _ _ _ a' b' h1 h2 =>
      refine ⟨{ target := .fn (.func f) b'.toArray, args := a'.toArray ++ args'.toArray }, ?_, b'.toArray, rfl, ?_⟩
      · unfold resolve
        simp only [hc, hg, hargs]
        rfl
      · have := (h1.append ha).append h2
        simpa using this
  · cases hr

theorem opE_sim (ok : C.Ok) (H : HR C ρ h w) (E : ER ρ n e a) {o : Oper} {x : FE} {r : ERes} (ho : opF C.S o.op = .e x) (hq : x.f e h = some r) :
    ERSim C ρ h w (execOp a.eval o) r := by
  obtain ⟨dst, op, type, pos, after, guard⟩ := o
  cases op <;> simp only [opF] at ho
  case store t y z =>
    split at ho
    · rename_i f g h1 h2
      cases ho
      obtain ⟨h', hs, rfl⟩ := skipE_some hq
      exact ERSim.ofSkip (storeVarD_sim ok H hs (E.ev h1) (E.ev h2))
    · cases ho
  case mapUpdate t m k y =>
    split at ho
    · rename_i f g q h1 h2 h3
      cases ho
      obtain ⟨h', hs, rfl⟩ := skipE_some hq
      exact ERSim.ofSkip (mapUpdateD_sim ok H hs (E.ev h1) (E.ev h2) (E.ev h3))
    · cases ho
  case insert t m k y =>
    split at ho
    · rename_i f g q h1 h2 h3
      cases ho
      obtain ⟨h', hs, rfl⟩ := skipE_some hq
      exact ERSim.ofSkip (mapUpdateD_sim ok H hs (E.ev h1) (E.ev h2) (E.ev h3))
    · cases ho
  case mapEntry t m k =>
    split at ho
    · rename_i f g h1 h2
      cases ho
      obtain ⟨v, h', hs, rfl⟩ := valE_some hq
      obtain ⟨u, w', g1, g2, g3, g4⟩ := mapEntryD_sim ok H hs (E.ev h1) (E.ev h2)
      exact ERSim.ofVal ⟨u, w', ρ, g1, g2, g3, g4⟩
    · cases ho
  case entryStore t m s y =>
    split at ho
    · rename_i f g q h1 h2 h3
      cases ho
      obtain ⟨h', hs, rfl⟩ := skipE_some hq
      exact ERSim.ofSkip (entryStoreD_sim ok H hs (E.ev h1) (E.ev h2) (E.ev h3))
    · cases ho
  case convert s d y =>
    split at ho
    · rename_i f h1
      unfold convF at ho
      split at ho
      · rename_i el hs hd
        split at ho
        · rename_i i hel hi
          rw [beqD] at ho
          by_cases h2 : i.size = 1
          · rw [decide_eq_true h2] at ho
            simp only [cond_true] at ho
            cases ho
            obtain ⟨v, h', rfl⟩ : ∃ v h', r = .val v h' := by
              simp only at hq
              unfold convBytesD at hq
              split at hq
              · cases hq; exact ⟨_, _, rfl⟩
              · cases hq
            exact ERSim.ofVal (convBytesD_sim ok H hs hd hel hq (E.ev h1))
          · rw [decide_eq_false h2] at ho; cases ho
        · cases ho
      · cases ho
    · cases ho
  case call c =>
    obtain ⟨cal, args, ats⟩ := c
    cases hev : evCs args.toList with
    | none => rw [hev] at ho; cases cal <;> cases ho
    | some fs =>
      have hargs := E.evs hev
      have hal : args.map a.eval = (args.toList.map a.eval).toArray := by rw [← List.map_toArray, Array.toArray_toList]
      cases cal <;> simp only [hev] at ho
      case value fo =>
        split at ho
        · rename_i f h1
          cases ho
          exact callE_call (c := ⟨.value fo, args, ats⟩) rfl hq (E.ev h1) rfl hargs hal
        · cases ho
      case builtin b =>
        generalize hzs : args.toList.map a.eval = zs at hargs hal
        have hrun : execOp a.eval ⟨dst, .call ⟨.builtin b, args, ats⟩, type, pos, after, guard⟩ = builtin b ats type (args.map fun | .const _ => true | _ => false) zs.toArray := by rw [← hal]; rfl
        rw [hrun]
        cases b <;> simp only [builtF] at ho <;> first | (cases ho; done) | skip
        case append =>
          split at ho
          · rename_i t t2 s x' hts
            cases ho
            obtain ⟨v, h', hs, rfl⟩ := valE_some hq
            have e0 : ats[0]? = some t := by have := congrArg (fun l : List TypeId => l[0]?) hts; simpa using this
            have e1 : ats[1]? = some t2 := by have := congrArg (fun l : List TypeId => l[1]?) hts; simpa using this
            cases hargs with
            | cons _ s' _ r1 g1 g2 => cases g2 with
              | cons _ x2 _ r2 g3 g4 => exact ERSim.ofVal (appendD_sim (ts := ats) (args := (s' :: x2 :: r2).toArray) ok H type e0 e1 rfl rfl hs g1 g3)
          · cases ho
        case copy =>
          split at ho
          · rename_i t ts' d s hts
            cases ho
            obtain ⟨v, h', hs, rfl⟩ := valE_some hq
            have e0 : ats[0]? = some t := by have := congrArg (fun l : List TypeId => l[0]?) hts; simpa using this
            cases hargs with
            | cons _ s' _ r1 g1 g2 => cases g2 with
              | cons _ x2 _ r2 g3 g4 =>
                obtain ⟨u, w', k1, k2, k3, k4⟩ := copyD_sim (ts := ats) (args := (s' :: x2 :: r2).toArray) ok H type e0 rfl rfl hs g1 g3
                exact ERSim.ofVal ⟨u, w', ρ, k1, k2, k3, k4⟩
          · cases ho
        case recover =>
          cases ho
          cases hq
          exact .inr ⟨rfl, rfl, rfl⟩
        case unsafeString =>
          split at ho
          · rename_i pt ts' hts
            split at ho
            · rename_i el hp
              split at ho
              · rename_i i hel hi
                rw [beqD] at ho
                by_cases h2 : i.size = 1
                · rw [decide_eq_true h2] at ho
                  simp only [cond_true] at ho
                  cases ho
                  have e0 : ats[0]? = some pt := by have := congrArg (fun l : List TypeId => l[0]?) hts; simpa using this
                  obtain ⟨v, h', rfl⟩ : ∃ v h', r = .val v h' := by
                    simp only at hq
                    generalize FV.all e fs = al at hq
                    unfold unsafeStringD at hq
                    repeat' (split at hq)
                    all_goals first
                      | (cases hb : Nat.beq _ 0 <;> rw [hb] at hq <;> first | (cases hq; exact ⟨_, _, rfl⟩) | skip)
                      | (cases hq; done)
                    all_goals (simp only [cond_false] at hq)
                    all_goals (repeat' (split at hq))
                    all_goals first
                      | (cases hq; done)
                      | (cases hb3 : (Nat.ble _ _ && Nat.beq _ _ && Nat.ble _ _) <;> rw [hb3] at hq <;> first | (cases hq; done) | (simp only [cond_true] at hq; repeat' (split at hq)))
                    all_goals first
                      | (cases hq; exact ⟨_, _, rfl⟩)
                      | (cases hq; done)
                  obtain ⟨u, w', k1, k2, k3, k4⟩ := unsafeStringD_sim (ts := ats) ok H type e0 hp hi h2 hq hargs
                  exact ERSim.ofVal ⟨u, w', ρ, k1, k2, k3, k4⟩
                · rw [decide_eq_false h2] at ho; cases ho
              · cases ho
            · cases ho
          · cases ho
        all_goals (repeat' (split at ho))
        all_goals (cases ho)
      all_goals (repeat' (split at ho))
      all_goals (cases ho)
  case defer c =>
    obtain ⟨cal, args, ats⟩ := c
    cases hev : evCs args.toList with
    | none => rw [hev] at ho; cases cal <;> cases ho
    | some fs =>
      have hargs := E.evs hev
      have hal : args.map a.eval = (args.toList.map a.eval).toArray := by rw [← List.map_toArray, Array.toArray_toList]
      cases cal <;> simp only [hev] at ho
      case value fo =>
        split at ho
        · rename_i f h1
          cases ho
          exact callE_defer (c := ⟨.value fo, args, ats⟩) rfl hq (E.ev h1) rfl hargs hal
        · cases ho
      all_goals (cases ho)
  case makeFunc fn l m =>
    cases fn <;> simp only at ho <;> first | (cases ho; done) | skip
    split at ho <;> cases ho
  all_goals (repeat' (split at ho))
  all_goals (first | (cases ho; done) | skip)
  all_goals (cases hz : Nat.beq _ 0 <;> rw [hz] at ho <;> cases ho)

end Go.Dm
end

section
namespace Go.Dm

/-- two frames agree at all slots that an operation reads -/
def Agree (o : Op) (e e' : E) : Prop := ∀ t, Operand.tmp t ∈ o.operands → e.get t = e'.get t

theorem evC_congr {x : Operand} {f : FV} (h : evC x = some f) {e e' : E} (ha : ∀ t, x = .tmp t → e.get t = e'.get t) : f.f e = f.f e' := by
  cases x with
  | tmp t =>
    unfold evC at h
    cases h
    show (slotG t).f e = (slotG t).f e'
    rw [slotG_f, slotG_f]
    exact ha t rfl
  | const v =>
    unfold evC at h
    split at h
    · rename_i heq; cases heq
    · split at h
      · cases h; rfl
      · cases h
    · rename_i heq; cases heq
    · rename_i heq; cases heq
  | global g => cases h
  | func f => cases h; rfl

theorem evCs_congr : ∀ {l : List Operand} {fs : List FV}, evCs l = some fs → ∀ {e e' : E}, (∀ t, Operand.tmp t ∈ l → e.get t = e'.get t) → FV.all e fs = FV.all e' fs
  | [], fs, h, e, e', _ => by cases h; rfl
  | x :: l, fs, h, e, e', ha => by
    unfold evCs at h
    split at h
    · rename_i v vs h1 h2
      cases h
      simp only [FV.all]
      rw [evC_congr h1 (fun t ht => ha t (by simp [ht])), evCs_congr h2 (fun t ht => ha t (by simp [ht]))]
    · cases h
theorem evCp_congr : ∀ {l : List (Nat × Operand)} {fs : List (Nat × FV)}, evCp l = some fs → ∀ {e e' : E}, (∀ t, Operand.tmp t ∈ l.map (·.2) → e.get t = e'.get t) → FV.parts e fs = FV.parts e' fs
  | [], fs, h, e, e', _ => by cases h; rfl
  | (i, x) :: l, fs, h, e, e', ha => by
    unfold evCp at h
    split at h
    · rename_i v vs h1 h2
      cases h
      simp only [FV.parts]
      rw [evC_congr h1 (fun t ht => ha t (by simp [ht])), evCp_congr h2 (fun t ht => ha t (by simp at ht ⊢; exact .inr ht))]
    · cases h
theorem evO_congr {x : Option Operand} {f : Option FV} (h : evO x = some f) {e e' : E} (ha : ∀ t, x = some (.tmp t) → e.get t = e'.get t) : FV.opt e f = FV.opt e' f := by
  cases x with
  | none => cases h; rfl
  | some x =>
    unfold evO at h
    split at h
    · rename_i heq; cases heq
    · rename_i heq
      cases heq
      split at h
      · rename_i h1
        cases h
        simp only [FV.opt]
        rw [evC_congr h1 (fun t ht => ha t (by rw [ht]))]
      · cases h

/-- an operation, made ready, looks at no other slots -/
def FO.Same (e e' : E) : FO → Prop
  | .q x => ∀ h, x.f e h = x.f e' h
  | .a x => ∀ id, x.f e id = x.f e' id
  | .e x => ∀ h, x.f e h = x.f e' h
  | .bad => True

theorem opF_congr (S : St) (o : Op) (e e' : E) (ha : Agree o e e') : (opF S o).Same e e' := by
  unfold Agree at ha
  cases o <;> simp only [opF] <;> simp only [Op.operands, Call.operands] at ha
  case call c =>
    obtain ⟨cal, args, ats⟩ := c
    cases hev : evCs args.toList with
    | none => cases cal <;> trivial
    | some fs =>
      have hall : FV.all e fs = FV.all e' fs := evCs_congr hev (fun t ht => ha t (by cases cal <;> simp at ht ⊢ <;> simp [ht]))
      cases cal <;> simp only
      case invoke r m => trivial
      case value fo =>
        split
        · rename_i f h1
          intro h
          simp only [hall, evC_congr h1 (fun t ht => ha t (by simp [ht]))]
        · trivial
      case builtin b =>
        cases b <;> simp only [builtF] <;> try trivial
        case len =>
          cases fs with
          | nil => split <;> first | trivial | (rename_i heq; cases heq)
          | cons x xs =>
            split
            · rename_i heq; cases heq
              intro h
              simp only [FV.all, List.cons.injEq] at hall
              simp only [hall.1]
            · trivial
        case append =>
          split
          · intro h
            simp only [FV.all, List.cons.injEq] at hall
            simp only [hall.1, hall.2.1]
          · trivial
        case copy =>
          split
          · intro h
            simp only [FV.all, List.cons.injEq] at hall
            simp only [hall.1, hall.2.1]
          · trivial
        case max => intro h; simp only [hall]
        case min => intro h; simp only [hall]
        case unsafeSliceData => intro h; simp only [hall]
        case recover => intro h; rfl
        case unsafeString =>
          split
          · split
            · split
              · rw [beqD]
                rename_i i _ _
                cases hz : decide (i.size = 1)
                · trivial
                · intro h; simp only [hall]
              · trivial
            · trivial
          · trivial
  case defer c =>
    obtain ⟨cal, args, ats⟩ := c
    cases hev : evCs args.toList with
    | none => cases cal <;> trivial
    | some fs =>
      have hall : FV.all e fs = FV.all e' fs := evCs_congr hev (fun t ht => ha t (by cases cal <;> simp at ht ⊢ <;> simp [ht]))
      cases cal <;> simp only <;> try trivial
      split
      · rename_i f h1
        intro h
        simp only [hall, evC_congr h1 (fun t ht => ha t (by simp [ht]))]
      · trivial
  case move y =>
    split
    · rename_i f h1
      have q1 := evC_congr h1 (fun t ht => ha t (by simp [ht]))
      intro h
      simp only [q1]
    · trivial
  case assign y =>
    split
    · rename_i f h1
      have q1 := evC_congr h1 (fun t ht => ha t (by simp [ht]))
      intro h
      simp only [q1]
    · trivial
  case nilCheck y =>
    split
    · rename_i f h1
      have q1 := evC_congr h1 (fun t ht => ha t (by simp [ht]))
      intro h
      simp only [q1]
    · trivial
  case unOp op t y =>
    split
    · rename_i f h1
      have q1 := evC_congr h1 (fun t ht => ha t (by simp [ht]))
      intro h
      simp only [q1]
    · trivial
  case extract y i =>
    split
    · rename_i f h1
      have q1 := evC_congr h1 (fun t ht => ha t (by simp [ht]))
      intro h
      simp only [q1]
    · trivial
  case box t y =>
    split
    · rename_i f h1
      have q1 := evC_congr h1 (fun t ht => ha t (by simp [ht]))
      intro h
      simp only [q1]
    · trivial
  case store t y z =>
    split
    · rename_i f g h1 h2
      have q1 := evC_congr h1 (fun t ht => ha t (by simp [ht]))
      have q2 := evC_congr h2 (fun t ht => ha t (by simp [ht]))
      intro h
      simp only [q1, q2]
    · trivial
  case mapEntry t m k =>
    split
    · rename_i f g h1 h2
      have q1 := evC_congr h1 (fun t ht => ha t (by simp [ht]))
      have q2 := evC_congr h2 (fun t ht => ha t (by simp [ht]))
      intro h
      simp only [q1, q2]
    · trivial
  case lookup t y z ok =>
    split
    · rename_i f g h1 h2
      have q1 := evC_congr h1 (fun t ht => ha t (by simp [ht]))
      have q2 := evC_congr h2 (fun t ht => ha t (by simp [ht]))
      intro h
      simp only [q1, q2]
    · trivial
  case pick c y z =>
    split
    · rename_i f g k h1 h2 h3
      have q1 := evC_congr h1 (fun t ht => ha t (by simp [ht]))
      have q2 := evC_congr h2 (fun t ht => ha t (by simp [ht]))
      have q3 := evC_congr h3 (fun t ht => ha t (by simp [ht]))
      intro h
      simp only [q1, q2, q3]
    · trivial
  case mapUpdate t m k y =>
    split
    · rename_i f g k h1 h2 h3
      have q1 := evC_congr h1 (fun t ht => ha t (by simp [ht]))
      have q2 := evC_congr h2 (fun t ht => ha t (by simp [ht]))
      have q3 := evC_congr h3 (fun t ht => ha t (by simp [ht]))
      intro h
      simp only [q1, q2, q3]
    · trivial
  case insert t m k y =>
    split
    · rename_i f g k h1 h2 h3
      have q1 := evC_congr h1 (fun t ht => ha t (by simp [ht]))
      have q2 := evC_congr h2 (fun t ht => ha t (by simp [ht]))
      have q3 := evC_congr h3 (fun t ht => ha t (by simp [ht]))
      intro h
      simp only [q1, q2, q3]
    · trivial
  case entryStore t m s y =>
    split
    · rename_i f g k h1 h2 h3
      have q1 := evC_congr h1 (fun t ht => ha t (by simp [ht]))
      have q2 := evC_congr h2 (fun t ht => ha t (by simp [ht]))
      have q3 := evC_congr h3 (fun t ht => ha t (by simp [ht]))
      intro h
      simp only [q1, q2, q3]
    · trivial
  case makeSlice t l c =>
    split
    · rename_i f g h1 h2
      have q1 := evC_congr h1 (fun t ht => ha t (by simp [ht]))
      have q2 := evC_congr h2 (fun t ht => ha t (by simp [ht]))
      intro h
      simp only [q1, q2]
    · trivial
  case build t ps =>
    split
    · rename_i fs h1
      have q1 := evCp_congr h1 (e := e) (e' := e') (fun t ht => ha t (by simp at ht ⊢; exact ht))
      intro h
      simp only [q1]
    · trivial
  case buildSlice t n ps =>
    split
    · rename_i fs h1
      have q1 := evCp_congr h1 (e := e) (e' := e') (fun t ht => ha t (by simp at ht ⊢; exact ht))
      intro h
      simp only [q1]
    · trivial
  case load t y =>
    split
    · rename_i f i d h1 h2 h3
      have q1 := evC_congr h1 (fun t ht => ha t (by simp [ht]))
      cases isAggD d <;> intro h <;> simp only [q1, cond_true, cond_false]
    · trivial
  case binOp op t y z t2 =>
    split
    · rename_i f g h1 h2
      have q1 := evC_congr h1 (fun t ht => ha t (by simp [ht]))
      have q2 := evC_congr h2 (fun t ht => ha t (by simp [ht]))
      intro h
      simp only [q1, q2]
    · trivial
  case convert s d y =>
    split
    · rename_i f h1
      have q1 := evC_congr h1 (fun t ht => ha t (by simp [ht]))
      unfold convF
      split
      · split
        · rw [beqD]
          rename_i i _ _
          cases decide (i.size = 1)
          · trivial
          · intro h; simp only [q1]
        · trivial
      · intro h; simp only [q1]
    · trivial
  case makeInterface t y =>
    split
    · trivial
    · rename_i f d h1 h2 h3
      have q1 := evC_congr h2 (fun t ht => ha t (by simp [ht]))
      intro h
      simp only [q1]
    · trivial
  case makeFunc fn l m =>
    cases fn <;> simp only <;> try trivial
    split
    · rename_i f g h1 h2
      have q1 := evCs_congr h1 (e := e) (e' := e') (fun t ht => ha t (by simp at ht ⊢; exact .inl ht))
      have q2 := evCs_congr h2 (e := e) (e' := e') (fun t ht => ha t (by simp at ht ⊢; exact .inr ht))
      intro h
      simp only [q1, q2]
    · trivial
  case slice t y lo hi mx =>
    split
    · rename_i f g k m h1 h2 h3 h4
      have q1 := evC_congr h1 (fun t ht => ha t (by simp [ht]))
      have q2 := evO_congr h2 (e := e) (e' := e') (fun t ht => ha t (by simp [ht]))
      have q3 := evO_congr h3 (e := e) (e' := e') (fun t ht => ha t (by simp [ht]))
      have q4 := evO_congr h4 (e := e) (e' := e') (fun t ht => ha t (by simp [ht]))
      intro h
      simp only [q1, q2, q3, q4]
    · trivial
  case fieldAddr t y f =>
    split
    · rename_i x fs h1 h2
      have q1 := evC_congr h1 (fun t ht => ha t (by simp [ht]))
      split
      · split
        · rw [beqD]
          rename_i i _
          cases decide (i.size = 0)
          · intro h; simp only [q1]
          · trivial
        · trivial
      · trivial
    · trivial
  case field t y f =>
    split
    · rename_i x fs h1 h2
      have q1 := evC_congr h1 (fun t ht => ha t (by simp [ht]))
      split
      · intro h; simp only [q1]
      · trivial
    · trivial
  case indexAddr t y i =>
    split
    · rename_i f g el h1 h2 h3
      have q1 := evC_congr h1 (fun t ht => ha t (by simp [ht]))
      have q2 := evC_congr h2 (fun t ht => ha t (by simp [ht]))
      split
      · intro h; simp only [q1, q2]
      · trivial
    · trivial
  case index t y i =>
    split
    · rename_i f g h1 h2 h3
      have q1 := evC_congr h1 (fun t ht => ha t (by simp [ht]))
      have q2 := evC_congr h2 (fun t ht => ha t (by simp [ht]))
      intro h; simp only [q1, q2]
    · rename_i f g len el h1 h2 h3
      have q1 := evC_congr h1 (fun t ht => ha t (by simp [ht]))
      have q2 := evC_congr h2 (fun t ht => ha t (by simp [ht]))
      split
      · intro h; simp only [q1, q2]
      · trivial
    · trivial
  case alloc t =>
    split
    · split
      · intro id; rfl
      · trivial
    · trivial
  case makeMap t r =>
    cases r with
    | none => intro id; rfl
    | some y =>
      simp only
      split
      · rename_i f k el h1 h2
        have q1 := evC_congr h1 (fun t ht => ha t (by simp [ht]))
        intro h; simp only [q1]
      · trivial
  all_goals trivial

end Go.Dm
end

section
namespace Go.Dm
variable {C : Ctx}

/-- the frame, what is deferred, memory -/
structure Rel (C : Ctx) (ρ : Ren) (N : Nat) (e : E) (ds : Defs) (h : Heap) (a : Act) (w : World) : Prop where
  er : ER ρ N e a
  dr : DefRs ρ ds a.defers
  hr : HR C ρ h w

theorem Act.put_def (a : Act) (d : Option Tmp) (v : Value) : (a.put d v).defers = a.defers := by cases d <;> rfl

theorem Rel.put {ρ : Ren} {N : Nat} {e : E} {ds : Defs} {h : Heap} {a : Act} {w : World} (R : Rel C ρ N e ds h a w) (d : Option Tmp) {v : DV} {u : Value} (hv : VR ρ v u) :
    Rel C ρ N ((slotP N d).f e v) ds h (a.put d u) w :=
  ⟨R.er.put d hv, by rw [Act.put_def]; exact R.dr, R.hr⟩

/-- what a call of a function comes to -/
def CallSem (P : Program) (f : FuncId) (us : Array Value) (w : World) (K : Value → World → Prop) : Prop :=
  match (callFunc f us).run P w with
  | .ok (.value v) w' => K v w'
  | .ok (.enter f us) w' => Calls P f us w' fun e w'' => ∃ v, e = .returned v ∧ K v w''
  | _ => False

theorem CallSem.mono {P : Program} {f : FuncId} {us : Array Value} {w : World} {K K' : Value → World → Prop} (h : CallSem P f us w K) (hk : ∀ v w, K v w → K' v w) : CallSem P f us w K' := by
  unfold CallSem at *
  split at h
  · exact hk _ _ h
  · exact h.mono fun e w' ⟨v, h1, h2⟩ => ⟨v, h1, hk _ _ h2⟩
  · exact h.elim

/-- a function, called with these values at this memory, answers so -/
def SFn (C : Ctx) (f : FuncId) (args : List DV) (h : Heap) (v : DV) (h' : Heap) : Prop :=
  ∀ (ρ : Ren) (us : List Value) (w : World), VRs ρ args us → HR C ρ h w →
    CallSem C.P f us.toArray w fun u w' => ∃ ρ', VR ρ' v u ∧ HR C ρ' h' w' ∧ Stp ρ h w ρ' h' w'

/-- an operation with an effect, at this frame and memory, comes to this -/
def SStep (C : Ctx) (N : Nat) (o : Oper) (e : E) (h : Heap) (v : DV) (dd : Defs) (h' : Heap) : Prop :=
  ∀ (ρ : Ren) (e2 : E) (a : Act) (w : World), Agree o.op e e2 → ER ρ N e2 a → HR C ρ h w →
    OpSem C.P o a w fun a' w' => ∃ ρ' u dr, a' = ({ a with defers := dr ++ a.defers } : Act).put o.dst u ∧ VR ρ' v u ∧ DefRs ρ' dd dr ∧ HR C ρ' h' w' ∧ Stp ρ h w ρ' h' w'

section
variable {R : Type} {ih : Run R} {N : Nat}

/-- calls are sound -/
def CallsOk (C : Ctx) (ih : Run R) : Prop := ∀ f args h k r, callD ih C.S f args h k = some r → ∃ v h', SFn C f args h v h' ∧ k v h' = some r

theorem stepE_sound (ok : C.Ok) (hc : CallsOk C ih) {o : Oper} {x : FE} {e : E} {h : Heap} {k : DV → Defs → Heap → Option R} {r : R} (ho : opF C.S o.op = .e x) (hr : stepE ih C.S x e h k = some r) :
    ∃ v dd h', SStep C N o e h v dd h' ∧ k v dd h' = some r := by
  unfold stepE at hr
  split at hr
  · rename_i er her
    have key : ∀ (ρ : Ren) (e2 : E) (a : Act) (w : World), Agree o.op e e2 → ER ρ N e2 a → HR C ρ h w → ERSim C ρ h w (execOp a.eval o) er := fun ρ e2 a w ha E H => by
      have hs := opF_congr C.S o.op e e2 ha
      rw [ho] at hs
      exact opE_sim ok H E ho (by rw [← hs h]; exact her)
    cases er with
    | val v h1 =>
      refine ⟨v, [], h1, fun ρ e2 a w ha E H => ?_, hr⟩
      rcases key ρ e2 a w ha E H with ⟨u, w', ρ', k1, k2, k3, k4⟩ | ⟨k1, rfl, rfl⟩
      · unfold OpSem; rw [k1]
        exact ⟨ρ', u, [], rfl, k2, .nil, k3, k4⟩
      · unfold OpSem; rw [k1]
        exact ⟨ρ, .nilIface, [], rfl, .nilIface, .nil, H, Stp.refl _ _ _⟩
    | skip h1 =>
      refine ⟨.tuple [], [], h1, fun ρ e2 a w ha E H => ?_, hr⟩
      obtain ⟨w', k1, k2, k3⟩ := key ρ e2 a w ha E H
      unfold OpSem; rw [k1]
      exact ⟨ρ, undef, [], rfl, VR.undef, .nil, k2, k3⟩
    | call f args =>
      obtain ⟨v, h1, k1, k2⟩ := hc _ _ _ _ _ hr
      refine ⟨v, [], h1, fun ρ e2 a w ha E H => ?_, k2⟩
      obtain ⟨us, g1, g2⟩ := key ρ e2 a w ha E H
      have := k1 ρ us w g2 H
      unfold CallSem at this
      unfold OpSem
      rw [g1]
      split at this
      · rename_i u w' hu
        rw [hu]
        obtain ⟨ρ', q1, q2, q3⟩ := this
        exact ⟨ρ', u, [], rfl, q1, .nil, q2, q3⟩
      · rename_i f' us' w' hu
        rw [hu]
        refine Calls.mono this fun e3 w3 ⟨u, hu1, ρ', q1, q2, q3⟩ => ⟨u, hu1, ρ', u, [], rfl, q1, .nil, q2, q3⟩
      · exact this.elim
    | defer f args =>
      refine ⟨.tuple [], [(f, args)], h, fun ρ e2 a w ha E H => ?_, hr⟩
      obtain ⟨d, k1, k2⟩ := key ρ e2 a w ha E H
      unfold OpSem; rw [k1]
      exact ⟨ρ, undef, [d], rfl, VR.undef, .cons _ _ _ _ k2 .nil, H, Stp.refl _ _ _⟩
  · cases hr

theorem DefRs.append {ρ : Ren} : ∀ {a : Defs} {b : List Deferred} {c : Defs} {d : List Deferred}, DefRs ρ a b → DefRs ρ c d → DefRs ρ (a ++ c) (b ++ d)
  | _, _, _, _, .nil, h => h
  | _, _, _, _, .cons d r ds rs hd hs, h => .cons d r _ _ hd (DefRs.append hs h)
theorem pushD_eq (d ds : Defs) : pushD d ds = d ++ ds := by cases d <;> rfl

/-! guards -/
def boolV : Value → Option Bool
  | .bool b => some b
  | _ => none
def boolD : DV → Option Bool
  | .bool b => some b
  | _ => none
theorem bool_sim {ρ : Ren} {d : DV} {v : Value} (h : VR ρ d v) : boolV v = boolD d := by cases h <;> rfl

theorem yielded_sim {ρ : Ren} {e : E} {a : Act} (E : ER ρ N e a) (ops : Array Oper) (j : Nat) : yielded ops a.tmps j = yieldedD ops.toList e j := by
  unfold yielded yieldedD
  rw [Array.getElem?_toList]
  cases h1 : ops[j]? with
  | none => rfl
  | some o =>
    cases h2 : o.dst with
    | none => simp [h2]
    | some d =>
      have hb := bool_sim (E.tmp d)
      simp only [Option.bind_some, h2, slotG_f]
      show _ = boolD (e.get d)
      rw [← hb]
      cases h3 : a.tmps[d]? with
      | none => simp [Array.getD_eq_getD_getElem?, h3, undef, boolV]
      | some v => simp [Array.getD_eq_getD_getElem?, h3]; cases v <;> rfl

theorem wanted_sim {ρ : Ren} {e : E} {a : Act} (E : ER ρ N e a) (ops : Array Oper) (o : Oper) : Region.wanted o (yielded ops a.tmps) = wantedD ops.toList e o := by
  unfold Region.wanted wantedD
  cases o.guard with
  | none => rfl
  | some g =>
    obtain ⟨j, want⟩ := g
    simp only [yielded_sim E]
    cases yieldedD ops.toList e j with
    | none => rfl
    | some b => cases want <;> cases b <;> rfl

/-! regions in the order of their text -/

/-- operations of a region, one behind the other -/
def SOps (C : Ctx) (N : Nat) (ops : Array Oper) (l : List Nat) (e : E) (ds : Defs) (h : Heap) (e' : E) (ds' : Defs) (h' : Heap) : Prop :=
  ∀ (ρ : Ren) (a : Act) (w : World), Rel C ρ N e ds h a w → ∀ K : Act → World → Prop, (∀ ρ' a' w', Rel C ρ' N e' ds' h' a' w' → Stp ρ h w ρ' h' w' → K a' w') → OpsSem C.P ops K l a w

/-- one operation, at its place -/
def SOne (C : Ctx) (N : Nat) (ops : Array Oper) (o : Oper) (e : E) (ds : Defs) (h : Heap) (e' : E) (ds' : Defs) (h' : Heap) : Prop :=
  ∀ (ρ : Ren) (a : Act) (w : World), Rel C ρ N e ds h a w → ∀ K : Act → World → Prop, (∀ ρ' a' w', Rel C ρ' N e' ds' h' a' w' → Stp ρ h w ρ' h' w' → K a' w') →
    (Region.wanted o (yielded ops a.tmps) = true ∧ OpSem C.P o a w K) ∨ (Region.wanted o (yielded ops a.tmps) = false ∧ K (a.put o.dst undef) w)

theorem SStep.rel {ρ : Ren} {e : E} {ds : Defs} {h : Heap} {a : Act} {w : World} {o : Oper} {v : DV} {dd : Defs} {h' : Heap} (R : Rel C ρ N e ds h a w) (hs : SStep C N o e h v dd h') :
    OpSem C.P o a w fun a' w' => ∃ ρ', Rel C ρ' N ((slotP N o.dst).f e v) (pushD dd ds) h' a' w' ∧ Stp ρ h w ρ' h' w' := by
  refine OpSem.mono (hs ρ e a w (fun _ _ => rfl) R.er R.hr) fun a' w' ⟨ρ', u, dr, h1, h2, h3, h4, h5⟩ => ?_
  subst h1
  refine ⟨ρ', ⟨?_, ?_, h4⟩, h5⟩
  · have : ER ρ' N e { a with defers := dr ++ a.defers } := ⟨R.er.size, fun t => (R.er.tmp t).mono h5.le⟩
    exact this.put o.dst h2
  · rw [Act.put_def, pushD_eq]
    exact h3.append (R.dr.mono h5.le)

theorem doO_sound (ok : C.Ok) (hc : CallsOk C ih) {o : Oper} {e : E} {ds : Defs} {h : Heap} {k : E → Defs → Heap → Option R} {r : R} (hr : (doO (R := R) C.S N o.dst o.op).f ih e ds h k = some r) :
    ∃ e' ds' h', (∀ (ρ : Ren) (a : Act) (w : World), Rel C ρ N e ds h a w → OpSem C.P o a w fun a' w' => ∃ ρ', Rel C ρ' N e' ds' h' a' w' ∧ Stp ρ h w ρ' h' w') ∧ k e' ds' h' = some r := by
  unfold doO at hr
  cases hp : slotP N o.dst with
  | mk p =>
    have hpf : p = (slotP N o.dst).f := by rw [hp]
    rw [hp] at hr
    simp only at hr
    cases ho : opF C.S o.op with
    | q x =>
      rw [ho] at hr
      obtain ⟨g⟩ := x
      simp only at hr
      cases hv : g e h with
      | none => rw [hv] at hr; cases hr
      | some v =>
        rw [hv] at hr
        refine ⟨_, _, _, fun ρ a w Rl => ?_, hr⟩
        obtain ⟨u, h1, h2⟩ := opQ_sim ok Rl.hr.toHL Rl.er ho hv
        unfold OpSem; rw [h2, hpf]
        exact ⟨ρ, Rl.put o.dst h1, Stp.refl _ _ _⟩
    | a x =>
      rw [ho] at hr
      obtain ⟨g⟩ := x
      simp only at hr
      obtain ⟨nx, bl⟩ := h
      simp only at hr
      split at hr
      · rename_i v b hv
        refine ⟨_, _, _, fun ρ a w Rl => ?_, hr⟩
        have hf : ρ nx = none := Rl.hr.next nx (Nat.le_refl _)
        obtain ⟨u, ro, sz, h1, h2, h3⟩ := opA_sim (w := w) ok Rl.er hf ho hv
        unfold OpSem; rw [h1, hpf]
        have hh : ∀ j, (⟨Nat.succ nx, bl.put nx b⟩ : Heap).get j = if j = nx then some b else (⟨nx, bl⟩ : Heap).get j := fun j => T.get_put _ _ _ _
        have hle := Ren.le_add (i := ⟨w.heap.size, sz⟩) hf
        refine ⟨ρ.add nx ⟨w.heap.size, sz⟩, ⟨(Rl.er.mono hle).put o.dst h2, by rw [Act.put_def]; exact Rl.dr.mono hle, ?_⟩, ?_⟩
        · exact Rl.hr.add ok hf h3 rfl hh (Nat.le_succ _) (Nat.lt_succ_self _)
        · exact Stp.add ro hf rfl hh (Nat.le_succ _) (Nat.le_refl _)
      · cases hr
    | e x =>
      rw [ho] at hr
      simp only at hr
      obtain ⟨v, dd, h', h1, h2⟩ := stepE_sound (N := N) ok hc ho hr
      refine ⟨_, _, _, fun ρ a w Rl => ?_, h2⟩
      rw [hpf]
      exact h1.rel Rl
    | bad => rw [ho] at hr; cases hr

theorem oneO_sound (ok : C.Ok) (hc : CallsOk C ih) {ops : Array Oper} {o : Oper} {e : E} {ds : Defs} {h : Heap} {k : E → Defs → Heap → Option R} {r : R} (hr : (oneO (R := R) C.S N ops.toList o).f ih e ds h k = some r) :
    ∃ e' ds' h', SOne C N ops o e ds h e' ds' h' ∧ k e' ds' h' = some r := by
  unfold oneO at hr
  cases hg : o.guard with
  | none =>
    rw [hg] at hr
    obtain ⟨e', ds', h', h1, h2⟩ := doO_sound ok hc hr
    refine ⟨e', ds', h', fun ρ a w Rl K hK => .inl ⟨by unfold Region.wanted; rw [hg], (h1 ρ a w Rl).mono fun a' w' ⟨ρ', q1, q2⟩ => hK ρ' a' w' q1 q2⟩, h2⟩
  | some gg =>
    rw [hg] at hr
    simp only at hr
    have hr3 : Bool.rec (motive := fun _ => Option R) (k ((slotP N o.dst).f e (.tuple [])) ds h) ((doO (R := R) C.S N o.dst o.op).f ih e ds h k) ((guardC ops.toList o).f e) = some r := hr
    have hr2 : (bif wantedD ops.toList e o then (doO (R := R) C.S N o.dst o.op).f ih e ds h k else k ((slotP N o.dst).f e (.tuple [])) ds h) = some r := by rw [← guardC_eq, ← brec]; exact hr3
    cases hw : wantedD ops.toList e o with
    | true =>
      rw [hw] at hr2
      obtain ⟨e', ds', h', h1, h2⟩ := doO_sound ok hc hr2
      refine ⟨e', ds', h', fun ρ a w Rl K hK => .inl ⟨by rw [wanted_sim Rl.er, hw], (h1 ρ a w Rl).mono fun a' w' ⟨ρ', q1, q2⟩ => hK ρ' a' w' q1 q2⟩, h2⟩
    | false =>
      rw [hw] at hr2
      refine ⟨_, _, _, fun ρ a w Rl K hK => .inr ⟨by rw [wanted_sim Rl.er, hw], hK ρ _ w (Rl.put o.dst VR.undef) (Stp.refl _ _ _)⟩, hr2⟩

theorem opsC_sound (ok : C.Ok) (hc : CallsOk C ih) {ops : Array Oper} {k : E → Defs → Heap → Option R} {r : R} : ∀ (l pre : List Oper) (e : E) (ds : Defs) (h : Heap), ops.toList = pre ++ l →
    (opsC (R := R) C.S N ops.toList l).f ih e ds h k = some r → ∃ e' ds' h', SOps C N ops (List.range' pre.length l.length) e ds h e' ds' h' ∧ k e' ds' h' = some r
  | [], pre, e, ds, h, _, hr => ⟨e, ds, h, fun ρ a w Rl K hK => hK ρ a w Rl (Stp.refl _ _ _), hr⟩
  | o :: l, pre, e, ds, h, hl, hr => by
    have hr2 : (oneO (R := R) C.S N ops.toList o).f ih e ds h (fun e ds h => (opsC (R := R) C.S N ops.toList l).f ih e ds h k) = some r := hr
    obtain ⟨e1, ds1, h1, s1, hr3⟩ := oneO_sound ok hc hr2
    obtain ⟨e2, ds2, h2, s2, hr4⟩ := opsC_sound ok hc l (pre ++ [o]) e1 ds1 h1 (by rw [hl]; simp) hr3
    refine ⟨e2, ds2, h2, fun ρ a w Rl K hK => ?_, hr4⟩
    rw [List.length_cons, List.range'_succ]
    refine ⟨o, ?_, s1 ρ a w Rl _ fun ρ' a' w' q1 q2 => ?_⟩
    · rw [← Array.getElem?_toList, hl]; simp
    · have := s2 ρ' a' w' q1 K (fun ρ2 a2 w2 g1 g2 => hK ρ2 a2 w2 g1 (q2.trans g2))
      rwa [List.length_append, List.length_cons, List.length_nil] at this

end
end Go.Dm
end

section
namespace Go.Dm

/-! what the tables of a region say -/

def maskOf (acc : List Nat) (o : Oper) : Nat := o.after.toList.foldl (fun s e => bif Region.binds .any e then s ||| 2 ^ e.on ||| acc.getD e.on 0 else s) 0

theorem masks_cons (acc : List Nat) (o : Oper) (l : List Oper) : masks acc (o :: l) = masks (acc ++ [maskOf acc o]) l := rfl

theorem masks_pre : ∀ (l : List Oper) (acc : List Nat), ∃ r, masks acc l = acc ++ r ∧ r.length = l.length
  | [], acc => ⟨[], by simp [masks], rfl⟩
  | o :: l, acc => by
    obtain ⟨r, h1, h2⟩ := masks_pre l (acc ++ [maskOf acc o])
    exact ⟨maskOf acc o :: r, by rw [masks_cons, h1]; simp, by simp [h2]⟩

theorem masks_get : ∀ (l : List Oper) (acc : List Nat) (i : Nat) (o : Oper), l[i]? = some o → (masks acc l)[acc.length + i]? = some (maskOf ((masks acc l).take (acc.length + i)) o)
  | [], acc, i, o, h => by simp at h
  | x :: l, acc, 0, o, h => by
    simp at h; subst h
    obtain ⟨r, h1, h2⟩ := masks_pre l (acc ++ [maskOf acc x])
    rw [masks_cons, h1]
    simp
  | x :: l, acc, i + 1, o, h => by
    have := masks_get l (acc ++ [maskOf acc x]) i o (by simpa using h)
    rw [masks_cons]
    rw [List.length_append, List.length_singleton] at this
    rw [show acc.length + (i + 1) = acc.length + 1 + i from by omega]
    exact this

theorem fold_bits (acc : List Nat) (j : Nat) : ∀ (l : List Edge) (s : Nat), Nat.testBit (l.foldl (fun s e => bif Region.binds .any e then s ||| 2 ^ e.on ||| acc.getD e.on 0 else s) s) j = true →
    Nat.testBit s j = true ∨ ∃ e ∈ l, Region.binds .any e = true ∧ (j = e.on ∨ Nat.testBit (acc.getD e.on 0) j = true)
  | [], s, h => .inl h
  | e :: l, s, h => by
    rw [List.foldl_cons] at h
    rcases fold_bits acc j l _ h with h | ⟨e', h1, h2, h3⟩
    · cases hb : Region.binds .any e with
      | false => rw [hb] at h; exact .inl h
      | true =>
        rw [hb] at h
        simp only [cond_true, Nat.testBit_or, Bool.or_eq_true] at h
        rcases h with (h | h) | h
        · exact .inl h
        · rw [Nat.testBit_two_pow] at h
          have h5 : e.on = j := by simpa using h
          exact .inr ⟨e, by simp, hb, .inl h5.symm⟩
        · exact .inr ⟨e, by simp, hb, .inr h⟩
    · exact .inr ⟨e', by simp [h1], h2, h3⟩

theorem edges_spec : ∀ (l : List Oper) (p : Nat), edgesOk l p = true → ∀ (i : Nat) (o : Oper), l[i]? = some o → ∀ e ∈ o.after, Region.binds .any e = true → e.on < p + i
  | [], p, _, i, o, h => by simp at h
  | x :: l, p, hk, i, o, h => by
    unfold edgesOk at hk
    rw [Bool.and_eq_true] at hk
    cases i with
    | zero =>
      simp at h; subst h
      intro e he hb
      have := List.all_eq_true.1 hk.1 e (Array.mem_toList_iff.2 he)
      rw [hb, bltD] at this
      simpa using this
    | succ i =>
      intro e he hb
      have := edges_spec l (p + 1) hk.2 i o (by simpa using h) e he hb
      omega

/-- a mask: what must have run ahead -/
theorem mask_spec {ops : List Oper} (hk : edgesOk ops 0 = true) {i j : Nat} {o : Oper} (ho : ops[i]? = some o) (hb : Nat.testBit ((masks [] ops).getD i 0) j = true) :
    ∃ e ∈ o.after, Region.binds .any e = true ∧ e.on < i ∧ (j = e.on ∨ Nat.testBit ((masks [] ops).getD e.on 0) j = true) := by
  have h1 := masks_get ops [] i o ho
  simp only [List.length_nil, Nat.zero_add] at h1
  rw [List.getD_eq_getElem?_getD, h1] at hb
  simp only [Option.getD_some] at hb
  unfold maskOf at hb
  rcases fold_bits _ _ _ _ hb with h | ⟨e, h2, h3, h4⟩
  · simp at h
  · have h2' := Array.mem_toList_iff.1 h2
    have hlt := edges_spec ops 0 hk i o ho e h2' h3
    rw [Nat.zero_add] at hlt
    refine ⟨e, h2', h3, hlt, h4.imp id fun h => ?_⟩
    rw [List.getD_eq_getElem?_getD, List.getElem?_take, if_pos hlt] at h
    rw [List.getD_eq_getElem?_getD]
    exact h

/-- what is listed is closed under what must run ahead -/
def Closed (ops : List Oper) (L : Nat → Bool) : Prop := ∀ i o, ops[i]? = some o → L i = true → ∀ e ∈ o.after, Region.binds .any e = true → L e.on = true

theorem mask_listed {ops : List Oper} (hk : edgesOk ops 0 = true) {L : Nat → Bool} (hc : Closed ops L) : ∀ (i j : Nat) (o : Oper), ops[i]? = some o → (∀ e ∈ o.after, Region.binds .any e = true → L e.on = true) →
    Nat.testBit ((masks [] ops).getD i 0) j = true → L j = true ∧ j < i := by
  intro i
  induction i using Nat.strongRecOn with
  | _ i ih =>
    intro j o ho hr hb
    obtain ⟨e, h1, h2, h3, h4⟩ := mask_spec hk ho hb
    have hl := hr e h1 h2
    rcases h4 with rfl | h4
    · exact ⟨hl, h3⟩
    · obtain ⟨o', ho'⟩ : ∃ o', ops[e.on]? = some o' := by
        have : i < ops.length := (List.getElem?_eq_some_iff.1 ho).1
        exact ⟨ops[e.on], List.getElem?_eq_getElem (by omega)⟩
      obtain ⟨g1, g2⟩ := ih e.on h3 j o' ho' (fun e' he' hb' => hc _ _ ho' hl e' he' hb') h4
      exact ⟨g1, by omega⟩

/-- two operations that are not ordered do not touch each other's slots -/
structure Apart (ops : List Oper) (oi oj : Oper) : Prop where
  a : ∀ d, oj.dst = some d → d ∉ readsOf ops oi ∧ oi.dst ≠ some d
  b : ∀ d, oi.dst = some d → d ∉ readsOf ops oj

theorem tmpsAt_spec {ops : List Oper} {ms : List Nat} {i : Nat} {o : Oper} : ∀ (l : List Oper) (p : Nat), tmpsOkAt ops ms i o l p = true → ∀ (j : Nat) (oj : Oper), l[j]? = some oj → p + j < i →
    Nat.testBit (ms.getD i 0) (p + j) = false → Apart ops o oj
  | [], p, _, j, oj, h, _, _ => by simp at h
  | x :: l, p, hk, j, oj, h, hlt, hb => by
    unfold tmpsOkAt at hk
    rw [Bool.and_eq_true] at hk
    cases j with
    | zero =>
      simp at h; subst h
      rw [Nat.add_zero] at hlt hb
      have h1 := hk.1
      rw [bltD, decide_eq_true hlt, hb] at h1
      simp only [Bool.not_false, Bool.and_self, cond_true, Bool.and_eq_true] at h1
      obtain ⟨h2, h3⟩ := h1
      refine ⟨fun d hd => ?_, fun d hd => ?_⟩
      · rw [hd] at h2
        simp only [Bool.and_eq_true, Bool.not_eq_true', List.contains_eq_mem, decide_eq_false_iff_not] at h2
        refine ⟨h2.1, fun hd' => ?_⟩
        have := h2.2
        rw [hd'] at this
        simp only [beqD, decide_true, Bool.not_true, Bool.false_eq_true] at this
      · rw [hd] at h3
        simpa using h3
    | succ j =>
      exact tmpsAt_spec l (p + 1) hk.2 j oj (by simpa using h) (by omega) (by rw [show p + 1 + j = p + (j + 1) from by omega]; exact hb)

theorem tmps_spec {ops : List Oper} {ms : List Nat} : ∀ (l : List Oper) (p : Nat), tmpsOk ops ms l p = true → ∀ (i j : Nat) (oi oj : Oper), l[i]? = some oi → ops[j]? = some oj → j < p + i →
    Nat.testBit (ms.getD (p + i) 0) j = false → Apart ops oi oj
  | [], p, _, i, j, oi, oj, h, _, _, _ => by simp at h
  | x :: l, p, hk, i, j, oi, oj, h, hj, hlt, hb => by
    unfold tmpsOk at hk
    rw [Bool.and_eq_true] at hk
    cases i with
    | zero =>
      simp at h; subst h
      exact tmpsAt_spec ops 0 hk.1 j oj hj (by omega) (by simpa using hb)
    | succ i =>
      exact tmps_spec l (p + 1) hk.2 i j oi oj (by simpa using h) hj (by omega) (by rw [show p + 1 + i = p + (i + 1) from by omega]; exact hb)

theorem aIdx_spec (S : St) : ∀ (l : List Oper) (p k : Nat), k ∈ aIdx S l p ↔ p ≤ k ∧ ∃ o, l[k - p]? = some o ∧ ∃ x, opF S o.op = .a x
  | [], p, k => by simp [aIdx]
  | o :: l, p, k => by
    have ih := aIdx_spec S l (p + 1) k
    have tail : k ∈ aIdx S l (p + 1) ↔ p ≤ k ∧ k ≠ p ∧ ∃ o', (o :: l)[k - p]? = some o' ∧ ∃ x, opF S o'.op = .a x := by
      rw [ih]
      constructor
      · rintro ⟨h1, o', h2, h3⟩
        refine ⟨by omega, by omega, o', ?_, h3⟩
        rw [show k - p = (k - (p + 1)) + 1 from by omega]
        simpa using h2
      · rintro ⟨h1, h2, o', h3, h4⟩
        refine ⟨by omega, o', ?_, h4⟩
        rw [show k - p = (k - (p + 1)) + 1 from by omega] at h3
        simpa using h3
    unfold aIdx
    split
    · rename_i x hx
      rw [List.mem_cons, tail]
      constructor
      · rintro (rfl | ⟨h1, -, h2⟩)
        · exact ⟨Nat.le_refl _, o, by simp, x, hx⟩
        · exact ⟨h1, h2⟩
      · rintro ⟨h1, h2⟩
        by_cases e : k = p
        · exact .inl e
        · exact .inr ⟨h1, e, h2⟩
    · rename_i hx
      rw [tail]
      constructor
      · rintro ⟨h1, -, h2⟩; exact ⟨h1, h2⟩
      · rintro ⟨h1, o', h2, y, h3⟩
        refine ⟨h1, fun e => ?_, o', h2, y, h3⟩
        subst e
        simp at h2; subst h2
        exact hx y h3

/-! blocks hidden, and back -/
theorem hideAll_next (base m : Nat) : ∀ (as : List Nat) (h : Heap), (hideAll base m as h).next = h.next
  | [], h => rfl
  | k :: l, h => by
    unfold hideAll
    rw [tb_eq, hideAll_next base m l]
    cases Nat.testBit m k
    · exact Heap.next_del _ _
    · rfl
theorem hideAll_get (base m : Nat) : ∀ (as : List Nat) (h : Heap) (id : Nat), (hideAll base m as h).get id = if (∃ k ∈ as, id = base + k ∧ Nat.testBit m k = false) then none else h.get id
  | [], h, id => by simp [hideAll]
  | k :: l, h, id => by
    unfold hideAll
    rw [tb_eq, hideAll_get base m l]
    by_cases h1 : ∃ k ∈ l, id = base + k ∧ Nat.testBit m k = false
    · rw [if_pos h1, if_pos]
      obtain ⟨j, g1, g2⟩ := h1
      exact ⟨j, by simp [g1], g2⟩
    · rw [if_neg h1]
      cases hb : Nat.testBit m k with
      | false =>
        simp only [cond_false]
        rw [Heap.get_del]
        by_cases e : id = base + k
        · rw [if_pos e, if_pos ⟨k, by simp, e, hb⟩]
        · rw [if_neg e, if_neg]
          rintro ⟨j, g1, g2, g3⟩
          rcases List.mem_cons.1 g1 with rfl | g1
          · exact e g2
          · exact h1 ⟨j, g1, g2, g3⟩
      | true =>
        simp only [cond_true]
        rw [if_neg]
        rintro ⟨j, g1, g2, g3⟩
        rcases List.mem_cons.1 g1 with rfl | g1
        · rw [hb] at g3; cases g3
        · exact h1 ⟨j, g1, g2, g3⟩
theorem backAll_next (base m : Nat) (h0 : Heap) : ∀ (as : List Nat) (h : Heap), (backAll base m h0 as h).next = h.next
  | [], h => rfl
  | k :: l, h => by
    unfold backAll
    rw [tb_eq, backAll_next base m h0 l]
    cases Nat.testBit m k
    · simp only [cond_false]
      split
      · exact Heap.next_put _ _ _
      · rfl
    · rfl
theorem backAll_get (base m : Nat) (h0 : Heap) : ∀ (as : List Nat) (h : Heap) (id : Nat), (backAll base m h0 as h).get id = if (∃ k ∈ as, id = base + k ∧ Nat.testBit m k = false) ∧ (h0.get id).isSome then h0.get id else h.get id
  | [], h, id => by simp [backAll]
  | k :: l, h, id => by
    unfold backAll
    rw [tb_eq, backAll_get base m h0 l]
    by_cases hs : (h0.get id).isSome = true
    · by_cases h1 : ∃ k ∈ l, id = base + k ∧ Nat.testBit m k = false
      · rw [if_pos ⟨h1, hs⟩, if_pos]
        obtain ⟨j, g1, g2⟩ := h1
        exact ⟨⟨j, by simp [g1], g2⟩, hs⟩
      · rw [if_neg (fun h => h1 h.1)]
        cases hb : Nat.testBit m k with
        | false =>
          simp only [cond_false]
          by_cases e : id = base + k
          · rw [if_pos ⟨⟨k, by simp, e, hb⟩, hs⟩]
            subst e
            cases hg : h0.get (base + k) with
            | none => rw [hg] at hs; cases hs
            | some o => simp only [Heap.get_put, if_true]
          · rw [if_neg]
            · split
              · rw [Heap.get_put, if_neg e]
              · rfl
            · rintro ⟨⟨j, g1, g2, g3⟩, -⟩
              rcases List.mem_cons.1 g1 with rfl | g1
              · exact e g2
              · exact h1 ⟨j, g1, g2, g3⟩
        | true =>
          simp only [cond_true]
          rw [if_neg]
          rintro ⟨⟨j, g1, g2, g3⟩, -⟩
          rcases List.mem_cons.1 g1 with rfl | g1
          · rw [hb] at g3; cases g3
          · exact h1 ⟨j, g1, g2, g3⟩
    · rw [if_neg (fun h => hs h.2), if_neg (fun h => hs h.2)]
      cases hb : Nat.testBit m k with
      | false =>
        simp only [cond_false]
        split
        · rename_i o hg
          rw [Heap.get_put, if_neg]
          rintro rfl
          rw [hg] at hs
          exact hs rfl
        · rfl
      | true => rfl

theorem freshOk_spec {base : Nat} {h0 h1 : Heap} : ∀ {as : List Nat}, freshOk base h0 h1 as = true → ∀ k ∈ as, h0.get (base + k) = none → h1.get (base + k) = none
  | [], _, k, hk, _ => by simp at hk
  | x :: l, h, k, hk, hn => by
    unfold freshOk at h
    rw [Bool.and_eq_true] at h
    rcases List.mem_cons.1 hk with rfl | hk
    · have := h.1
      rw [hn] at this
      simpa using this
    · exact freshOk_spec h.2 k hk hn

/-- a memory with other blocks at some names -/
theorem patch (f : Nat → Option DObj) : ∀ (l : List Nat) (h : Heap), ∃ h' : Heap, h'.next = h.next ∧ ∀ id, h'.get id = if id ∈ l then f id else h.get id
  | [], h => ⟨h, rfl, fun id => by simp⟩
  | x :: l, h => by
    obtain ⟨h', h1, h2⟩ := patch f l h
    cases hf : f x with
    | none =>
      refine ⟨h'.del x, by rw [Heap.next_del, h1], fun id => ?_⟩
      rw [Heap.get_del, h2]
      by_cases e : id = x
      · subst e; rw [if_pos rfl, if_pos (by simp), hf]
      · rw [if_neg e]; simp [e]
    | some o =>
      refine ⟨h'.put x o, by rw [Heap.next_put, h1], fun id => ?_⟩
      rw [Heap.get_put, h2]
      by_cases e : id = x
      · subst e; rw [if_pos rfl, if_pos (by simp), hf]
      · rw [if_neg e]; simp [e]

/-! values that are told the same -/
mutual
theorem dvEq_eq : ∀ (a b : DV), dvEq a b = true → a = b
  | .bool a, b, h => by cases b <;> simp [dvEq] at h; rw [h]
  | .int k a, b, h => by
    cases b <;> simp [dvEq] at h
    rw [eqI_iff, kEq_iff] at h
    simp at h
    rw [h.1, h.2]
  | .str s, b, h => by
    cases b <;> simp [dvEq] at h
    rename_i t
    obtain ⟨l, n⟩ := s; obtain ⟨l', n'⟩ := t
    simp at h
    rw [h.1, h.2]
  | .nilptr, b, h => by cases b <;> simp [dvEq] at h; rfl
  | .ptr x y, b, h => by cases b <;> simp [dvEq] at h; rw [h.1, h.2]
  | .nilslice, b, h => by cases b <;> simp [dvEq] at h; rfl
  | .slice x y z u v, b, h => by cases b <;> simp [dvEq] at h; obtain ⟨⟨⟨⟨h1, h2⟩, h3⟩, h4⟩, h5⟩ := h; rw [h1, h2, h3, h4, h5]
  | .nilmap, b, h => by cases b <;> simp [dvEq] at h; rfl
  | .map x, b, h => by cases b <;> simp [dvEq] at h; rw [h]
  | .nilfunc, b, h => by cases b <;> simp [dvEq] at h; rfl
  | .func f x y, b, h => by
    cases b <;> simp [dvEq] at h
    rw [h.1.1, dvEqs_eq _ _ h.1.2, dvEqs_eq _ _ h.2]
  | .nilIface, b, h => by cases b <;> simp [dvEq] at h; rfl
  | .iface t v, b, h => by
    cases b <;> simp [dvEq] at h
    rw [h.1, dvEq_eq _ _ h.2]
  | .agg x, b, h => by cases b <;> simp [dvEq] at h; rw [dvEqs_eq _ _ h]
  | .tuple x, b, h => by cases b <;> simp [dvEq] at h; rw [dvEqs_eq _ _ h]
theorem dvEqs_eq : ∀ (a b : List DV), dvEqs a b = true → a = b
  | [], b, h => by cases b <;> simp [dvEqs] at h; rfl
  | a :: l, b, h => by
    cases b <;> simp [dvEqs] at h
    rw [dvEq_eq _ _ h.1, dvEqs_eq _ _ h.2]
end

end Go.Dm
end

section
namespace Go.Dm
variable {C : Ctx}

/-! what a run of a drawn region, in the order of its text, has told -/

inductive Kd where
  | skip
  | q (x : FQ) (v : DV)
  | a (x : FA) (v : DV) (b : DObj)
  | e (x : FE) (v : DV) (dd : Defs) (h1 : Heap)

def Kd.val : Kd → DV
  | .skip => .tuple []
  | .q _ v => v
  | .a _ v _ => v
  | .e _ v _ _ => v
def Kd.isE : Kd → Bool
  | .e _ _ _ _ => true
  | _ => false
def Kd.isA : Kd → Bool
  | .a _ _ _ => true
  | _ => false
def Kd.blk : Kd → Option DObj
  | .a _ _ b => some b
  | _ => none

/-- the tables of the region -/
structure Tab where
  N : Nat
  ops : List Oper
  base : Nat
  ms : List Nat
  as : List Nat

def Tab.mk_ (T : Tab) (i : Nat) : Nat := T.ms.getD i 0
noncomputable def Tab.hid (T : Tab) (i : Nat) (h : Heap) : Heap := hideAll T.base (T.mk_ i) T.as h

/-- the run: frames, deferred calls, memories ahead of each operation; what each came to -/
structure Trc where
  EV : Nat → E
  DS : Nat → Defs
  HD : Nat → Heap
  KD : Nat → Kd

def StFact (C : Ctx) (T : Tab) (t : Trc) (i : Nat) (o : Oper) : Kd → Prop
  | .skip => wantedD T.ops (t.EV i) o = false ∧ t.DS (i + 1) = t.DS i ∧ t.HD (i + 1) = t.HD i
  | .q x v => wantedD T.ops (t.EV i) o = true ∧ opF C.S o.op = .q x ∧ x.f (t.EV i) (T.hid i (t.HD i)) = some v ∧ t.DS (i + 1) = t.DS i ∧ t.HD (i + 1) = t.HD i
  | .a x v b => wantedD T.ops (t.EV i) o = true ∧ opF C.S o.op = .a x ∧ x.f (t.EV i) (T.base + i) = some (v, b) ∧ t.DS (i + 1) = t.DS i ∧ t.HD (i + 1) = (t.HD i).put (T.base + i) b
  | .e x v dd h1 => wantedD T.ops (t.EV i) o = true ∧ opF C.S o.op = .e x ∧ SStep C T.N o (t.EV i) (T.hid i (t.HD i)) v dd h1 ∧ freshOk T.base (T.hid i (t.HD i)) h1 T.as = true ∧
      t.DS (i + 1) = pushD dd (t.DS i) ∧ t.HD (i + 1) = backAll T.base (T.mk_ i) (t.HD i) T.as h1 ∧ (x.f (t.EV i) (T.hid i (t.HD i))).isSome = true

/-- the last operation, a store, may come ahead of the store i -/
structure SwOk (C : Ctx) (T : Tab) (t : Trc) (i j : Nat) : Prop where
  last : j + 1 = T.ops.length
  lt : i < j
  ei : (t.KD i).isE = true
  ej : (t.KD j).isE = true
  dst : ∀ o, T.ops[j]? = some o → o.dst = none
  as : ∀ k ∈ T.as, Nat.testBit (T.mk_ j) k = true
  others : ∀ k, k < j → (t.KD k).isE = true → k ≠ i → Nat.testBit (T.mk_ j) k = true
  nmask : Nat.testBit (T.mk_ j) i = false
  pure : ∀ k x v, k < j → t.KD k = .q x v → Nat.testBit (T.mk_ j) k = false → x.f (t.EV k) { next := 0, bl := .lf } = some v
  early : ∀ x v dd h1, t.KD j = .e x v dd h1 → (x.f (t.EV j) (T.hid j (t.HD i))).isSome = true
  apart : ∀ oi oj, T.ops[i]? = some oi → T.ops[j]? = some oj → ∃ r r', storeAtD C.S (t.EV i) oi.op = some r ∧ storeAtD C.S (t.EV j) oj.op = some r' ∧ apartD r r' = true

structure Facts (C : Ctx) (T : Tab) (t : Trc) (sw : Option (Nat × Nat)) (p : Nat) : Prop where
  st : ∀ i o, i < p → T.ops[i]? = some o → StFact C T t i o (t.KD i)
  ev : ∀ i o, i < p → T.ops[i]? = some o → t.EV (i + 1) = (slotP T.N o.dst).f (t.EV i) (t.KD i).val
  qe : ∀ i j x v, i < p → j < i → t.KD i = .q x v → (t.KD j).isE = true → Nat.testBit (T.mk_ i) j = false → x.f (t.EV i) (T.hid i (t.HD j)) = some v
  ql : ∀ i j x v, j < p → i < j → t.KD i = .q x v → (t.KD j).isE = true → Nat.testBit (T.mk_ j) i = false → x.f (t.EV i) (T.hid i (t.HD (j + 1))) = some v
  ee : ∀ i j, j < p → i < j → (t.KD i).isE = true → (t.KD j).isE = true → Nat.testBit (T.mk_ j) i = true ∨ sw = some (i, j)

def upd {α : Type} (f : Nat → α) (n : Nat) (v : α) : Nat → α := fun i => if i = n then v else f i
theorem upd_same {α : Type} (f : Nat → α) (n : Nat) (v : α) : upd f n v n = v := if_pos rfl
theorem upd_ne {α : Type} (f : Nat → α) (v : α) {i n : Nat} (h : i ≠ n) : upd f n v i = f i := if_neg h

def Trc.push (t : Trc) (p : Nat) (e : E) (ds : Defs) (h : Heap) (k : Kd) : Trc :=
  { EV := upd t.EV (p + 1) e, DS := upd t.DS (p + 1) ds, HD := upd t.HD (p + 1) h, KD := upd t.KD p k }

section
variable {T : Tab} {t : Trc} {p : Nat} {e : E} {ds : Defs} {h : Heap} {k : Kd}

theorem push_EV {i : Nat} (hi : i ≤ p) : (t.push p e ds h k).EV i = t.EV i := upd_ne _ _ (by omega)
theorem push_DS {i : Nat} (hi : i ≤ p) : (t.push p e ds h k).DS i = t.DS i := upd_ne _ _ (by omega)
theorem push_HD {i : Nat} (hi : i ≤ p) : (t.push p e ds h k).HD i = t.HD i := upd_ne _ _ (by omega)
theorem push_KD {i : Nat} (hi : i < p) : (t.push p e ds h k).KD i = t.KD i := upd_ne _ _ (by omega)
theorem push_EV' : (t.push p e ds h k).EV (p + 1) = e := upd_same _ _ _
theorem push_DS' : (t.push p e ds h k).DS (p + 1) = ds := upd_same _ _ _
theorem push_HD' : (t.push p e ds h k).HD (p + 1) = h := upd_same _ _ _
theorem push_KD' : (t.push p e ds h k).KD p = k := upd_same _ _ _

theorem StFact.push {i : Nat} {o : Oper} (hi : i < p) {kd : Kd} (hf : StFact C T t i o kd) : StFact C T (t.push p e ds h k) i o kd := by
  cases kd <;> simp only [StFact] at hf ⊢ <;>
    rw [push_EV (show i ≤ p by omega), push_DS (show i + 1 ≤ p by omega), push_DS (show i ≤ p by omega), push_HD (show i + 1 ≤ p by omega), push_HD (show i ≤ p by omega)] <;> exact hf

/-- one operation more -/
theorem Facts.push (F : Facts C T t none p) {o : Oper} {sw : Option (Nat × Nat)} (ho : T.ops[p]? = some o) (hs : StFact C T (t.push p e ds h k) p o k) (he : e = (slotP T.N o.dst).f (t.EV p) k.val)
    (hqe : ∀ j x v, j < p → k = .q x v → (t.KD j).isE = true → Nat.testBit (T.mk_ p) j = false → x.f (t.EV p) (T.hid p (t.HD j)) = some v)
    (hql : ∀ i x v, i < p → t.KD i = .q x v → k.isE = true → Nat.testBit (T.mk_ p) i = false → x.f (t.EV i) (T.hid i h) = some v)
    (hee : ∀ i, i < p → (t.KD i).isE = true → k.isE = true → Nat.testBit (T.mk_ p) i = true ∨ sw = some (i, p)) : Facts C T (t.push p e ds h k) sw (p + 1) := by
  refine ⟨fun i o' hi ho' => ?_, fun i o' hi ho' => ?_, fun i j x v hi hj hq he' hb => ?_, fun i j x v hj hi hq he' hb => ?_, fun i j hj hi h1 h2 => ?_⟩
  · by_cases e1 : i = p
    · subst e1
      rw [ho] at ho'; cases ho'
      rw [push_KD']; exact hs
    · rw [push_KD (by omega)]
      exact (F.st i o' (by omega) ho').push (by omega)
  · by_cases e1 : i = p
    · subst e1
      rw [ho] at ho'; cases ho'
      rw [push_EV', push_KD', push_EV (Nat.le_refl _)]; exact he
    · rw [push_EV (by omega), push_KD (by omega), push_EV (by omega)]
      exact F.ev i o' (by omega) ho'
  · rw [push_KD (by omega)] at he'
    by_cases e1 : i = p
    · subst e1
      rw [push_KD'] at hq
      rw [push_EV (Nat.le_refl _), push_HD (by omega)]
      exact hqe j x v hj hq he' hb
    · rw [push_KD (by omega)] at hq
      rw [push_EV (by omega), push_HD (by omega)]
      exact F.qe i j x v (by omega) hj hq he' hb
  · by_cases e1 : j = p
    · subst e1
      rw [push_KD'] at he'
      rw [push_KD hi] at hq
      rw [push_EV (by omega), push_HD']
      exact hql i x v hi hq he' hb
    · rw [push_KD (by omega)] at he' hq
      rw [push_EV (by omega), push_HD (by omega)]
      exact F.ql i j x v (by omega) hi hq he' hb
  · by_cases e1 : j = p
    · subst e1
      rw [push_KD'] at h2
      rw [push_KD hi] at h1
      exact hee i hi h1 h2
    · rw [push_KD (by omega)] at h1 h2
      rcases F.ee i j (by omega) hi h1 h2 with h | h
      · exact .inl h
      · cases h

/-! the lists that the run keeps -/
def QOk (t : Trc) (p : Nat) (qs : List Rec) : Prop := ∀ i x v, i < p → t.KD i = .q x v → ∃ r ∈ qs, r.i = i ∧ r.e = t.EV i ∧ r.x = x ∧ r.v = v
structure EOk (C : Ctx) (T : Tab) (t : Trc) (p : Nat) (es : List ERec) : Prop where
  mem : ∀ r ∈ es, r.i < p ∧ (t.KD r.i).isE = true ∧ r.h = t.HD r.i ∧ ∃ o, T.ops[r.i]? = some o ∧ r.rg = storeAtD C.S (t.EV r.i) o.op
  all : ∀ j, j < p → (t.KD j).isE = true → ∃ r ∈ es, r.i = j

theorem QOk.push {qs : List Rec} (h1 : QOk t p qs) (hk : ∀ x v, k ≠ .q x v) : QOk (t.push p e ds h k) (p + 1) qs := fun i x v hi hq => by
  by_cases e1 : i = p
  · subst e1; rw [push_KD'] at hq; exact absurd hq (hk x v)
  · rw [push_KD (by omega)] at hq
    rw [push_EV (by omega)]
    exact h1 i x v (by omega) hq
theorem QOk.pushQ {qs : List Rec} (h1 : QOk t p qs) {x : FQ} {v : DV} (hk : k = .q x v) : QOk (t.push p e ds h k) (p + 1) ({ i := p, e := t.EV p, x, v } :: qs) := fun i x' v' hi hq => by
  by_cases e1 : i = p
  · subst e1
    rw [push_KD', hk] at hq; cases hq
    rw [push_EV (Nat.le_refl _)]
    exact ⟨_, List.mem_cons_self .., rfl, rfl, rfl, rfl⟩
  · rw [push_KD (by omega)] at hq
    rw [push_EV (by omega)]
    obtain ⟨r, h2, h3⟩ := h1 i x' v' (by omega) hq
    exact ⟨r, by simp [h2], h3⟩
theorem EOk.push {es : List ERec} (h1 : EOk C T t p es) (hk : k.isE = false) : EOk C T (t.push p e ds h k) (p + 1) es := by
  refine ⟨fun r hr => ?_, fun j hj he => ?_⟩
  · obtain ⟨g1, g2, g3, g4⟩ := h1.mem r hr
    rw [push_KD g1, push_HD (by omega), push_EV (by omega)]
    exact ⟨by omega, g2, g3, g4⟩
  · by_cases e1 : j = p
    · subst e1; rw [push_KD', hk] at he; cases he
    · rw [push_KD (by omega)] at he
      exact h1.all j (by omega) he
theorem EOk.pushE {es : List ERec} (h1 : EOk C T t p es) {o : Oper} (ho : T.ops[p]? = some o) (hk : k.isE = true) :
    EOk C T (t.push p e ds h k) (p + 1) ({ i := p, h := t.HD p, rg := storeAtD C.S (t.EV p) o.op } :: es) := by
  refine ⟨fun r hr => ?_, fun j hj he => ?_⟩
  · rcases List.mem_cons.1 hr with rfl | hr
    · exact ⟨Nat.lt_succ_self _, by rw [push_KD']; exact hk, (push_HD (Nat.le_refl _)).symm, o, ho, by rw [push_EV (Nat.le_refl _)]⟩
    · obtain ⟨g1, g2, g3, g4⟩ := h1.mem r hr
      rw [push_KD g1, push_HD (by omega), push_EV (by omega)]
      exact ⟨by omega, g2, g3, g4⟩
  · by_cases e1 : j = p
    · exact ⟨_, List.mem_cons_self .., e1.symm⟩
    · rw [push_KD (by omega)] at he
      obtain ⟨r, h2, h3⟩ := h1.all j (by omega) he
      exact ⟨r, by simp [h2], h3⟩

theorem qAt_spec {fr : E} {x : FQ} {base m : Nat} {as : List Nat} {v : DV} {h : Heap} (hq : qAt fr x base m as v h = true) : x.f fr (hideAll base m as h) = some v := by
  unfold qAt at hq
  split at hq
  · rename_i u hu
    rw [hu, dvEq_eq _ _ hq]
  · cases hq
theorem qPast_spec {fr : E} {x : FQ} {base m : Nat} {as : List Nat} {v : DV} : ∀ {es : List ERec}, qPast fr x base m as v es = true → ∀ r ∈ es, Nat.testBit m r.i = false → x.f fr (hideAll base m as r.h) = some v
  | [], _, r, hr, _ => by simp at hr
  | y :: l, hq, r, hr, hb => by
    unfold qPast at hq
    rw [tb_eq, Bool.and_eq_true, Bool.or_eq_true] at hq
    rcases List.mem_cons.1 hr with rfl | hr
    · rcases hq.1 with h1 | h1
      · rw [hb] at h1; cases h1
      · exact qAt_spec h1
    · exact qPast_spec hq.2 r hr hb
theorem qLater_spec {base me : Nat} {ms as : List Nat} {h : Heap} : ∀ {qs : List Rec}, qLater base me ms as h qs = true → ∀ r ∈ qs, Nat.testBit me r.i = false → r.x.f r.e (hideAll base (ms.getD r.i 0) as h) = some r.v
  | [], _, r, hr, _ => by simp at hr
  | y :: l, hq, r, hr, hb => by
    unfold qLater at hq
    rw [tb_eq, Bool.and_eq_true, Bool.or_eq_true] at hq
    rcases List.mem_cons.1 hr with rfl | hr
    · rcases hq.1 with h1 | h1
      · rw [hb] at h1; cases h1
      · exact qAt_spec h1
    · exact qLater_spec hq.2 r hr hb
theorem allBefore_spec {m : Nat} : ∀ {es : List ERec}, allBefore m es = true → ∀ r ∈ es, Nat.testBit m r.i = true
  | [], _, r, hr => by simp at hr
  | y :: l, hq, r, hr => by
    unfold allBefore at hq
    rw [tb_eq, Bool.and_eq_true] at hq
    rcases List.mem_cons.1 hr with rfl | hr
    · exact hq.1
    · exact allBefore_spec hq.2 r hr
theorem aBefore_spec {m : Nat} : ∀ {as : List Nat}, aBefore m as = true → ∀ k ∈ as, Nat.testBit m k = true
  | [], _, k, hk => by simp at hk
  | y :: l, hq, k, hk => by
    unfold aBefore at hq
    rw [tb_eq, Bool.and_eq_true] at hq
    rcases List.mem_cons.1 hk with rfl | hk
    · exact hq.1
    · exact aBefore_spec hq.2 k hk
theorem qPure_spec {m : Nat} : ∀ {qs : List Rec}, qPure m qs = true → ∀ r ∈ qs, Nat.testBit m r.i = false → r.x.f r.e { next := 0, bl := .lf } = some r.v
  | [], _, r, hr, _ => by simp at hr
  | y :: l, hq, r, hr, hb => by
    unfold qPure at hq
    rw [tb_eq, Bool.and_eq_true, Bool.or_eq_true] at hq
    rcases List.mem_cons.1 hr with rfl | hr
    · rcases hq.1 with h1 | h1
      · rw [hb] at h1; cases h1
      · split at h1
        · rename_i u hu
          rw [hu, dvEq_eq _ _ h1]
        · cases h1
    · exact qPure_spec hq.2 r hr hb

end

section
variable {R : Type} {ih : Run R}

theorem opsD_facts (ok : C.Ok) (hc : CallsOk C ih) {T : Tab} {k : E → Defs → Heap → Option R} {r : R} : ∀ (l : List Oper) (p : Nat) (t : Trc) (qs : List Rec) (es : List ERec), (∀ i, T.ops[p + i]? = l[i]?) →
    T.ops.length = p + l.length → Facts C T t none p → QOk t p qs → EOk C T t p es →
    opsD ih C.S T.N T.ops T.base T.ms T.as (dosC C.S T.ops T.ms l p) ⟨t.EV p, t.DS p, t.HD p, qs, es⟩ k = some r →
    ∃ t' sw, Facts C T t' sw T.ops.length ∧ (∀ i j, sw = some (i, j) → SwOk C T t' i j) ∧ t'.EV 0 = t.EV 0 ∧ t'.DS 0 = t.DS 0 ∧ t'.HD 0 = t.HD 0 ∧
      k (t'.EV T.ops.length) (t'.DS T.ops.length) (t'.HD T.ops.length) = some r
  | [], p, t, qs, es, _, hlen, F, Q, Ee, hr => by
    rw [List.length_nil, Nat.add_zero] at hlen
    refine ⟨t, none, by rw [hlen]; exact F, (fun i j h => by cases h), rfl, rfl, rfl, ?_⟩
    rw [hlen]
    exact hr
  | o :: l, p, t, qs, es, hl, hlen, F, Q, Ee, hr => by
    have ho : T.ops[p]? = some o := by simpa using hl 0
    have hl' : ∀ i, T.ops[p + 1 + i]? = l[i]? := fun i => by
      have := hl (i + 1)
      rw [show p + 1 + i = p + (i + 1) from by omega]
      simpa using this
    have hlen' : T.ops.length = p + 1 + l.length := by rw [hlen, List.length_cons]; omega
    have back : ∀ (t2 : Trc) (e2 : E) (d2 : Defs) (h2 : Heap) (k2 : Kd), t2 = t.push p e2 d2 h2 k2 → t2.EV 0 = t.EV 0 ∧ t2.DS 0 = t.DS 0 ∧ t2.HD 0 = t.HD 0 := fun t2 e2 d2 h2 k2 h => by
      subst h
      exact ⟨push_EV (Nat.zero_le _), push_DS (Nat.zero_le _), push_HD (Nat.zero_le _)⟩
    unfold dosC at hr
    unfold opsD at hr
    simp only [guardC_eq] at hr
    cases hw : wantedD T.ops (t.EV p) o with
    | false =>
      rw [hw] at hr
      simp only [cond_false] at hr
      have F' : Facts C T (t.push p ((slotP T.N o.dst).f (t.EV p) (.tuple [])) (t.DS p) (t.HD p) .skip) none (p + 1) := by
        refine F.push ho ?_ rfl (fun _ _ _ _ h => by cases h) (fun _ _ _ _ _ h => by cases h) (fun _ _ _ h => by cases h)
        simp only [StFact]
        rw [push_EV (Nat.le_refl _), push_DS', push_DS (Nat.le_refl _), push_HD', push_HD (Nat.le_refl _)]
        exact ⟨hw, rfl, rfl⟩
      obtain ⟨t', sw, g1, g2, g3, g4, g5, g6⟩ := opsD_facts ok hc l (p + 1) _ qs es hl' hlen' F' (Q.push (fun _ _ h => by cases h)) (Ee.push rfl) (by rw [push_EV', push_DS', push_HD']; exact hr)
      obtain ⟨b1, b2, b3⟩ := back _ _ _ _ _ rfl
      exact ⟨t', sw, g1, g2, g3.trans b1, g4.trans b2, g5.trans b3, g6⟩
    | true =>
      rw [hw] at hr
      simp only [cond_true] at hr
      cases hx : opF C.S o.op with
      | bad => rw [hx] at hr; cases hr
      | q x =>
        rw [hx] at hr
        simp only at hr
        split at hr
        · rename_i v hv
          cases hp : qPast (t.EV p) x T.base (T.ms.getD p 0) T.as v es with
          | false => rw [hp] at hr; cases hr
          | true =>
            rw [hp] at hr
            simp only [cond_true] at hr
            have F' : Facts C T (t.push p ((slotP T.N o.dst).f (t.EV p) v) (t.DS p) (t.HD p) (.q x v)) none (p + 1) := by
              refine F.push ho ?_ rfl (fun j x' v' hj h he hb => ?_) (fun _ _ _ _ _ h => by cases h) (fun _ _ _ h => by cases h)
              · simp only [StFact]
                rw [push_EV (Nat.le_refl _), push_DS', push_DS (Nat.le_refl _), push_HD', push_HD (Nat.le_refl _)]
                exact ⟨hw, hx, hv, rfl, rfl⟩
              · cases h
                obtain ⟨rc, k1, k2⟩ := Ee.all j hj he
                have := qPast_spec hp rc k1 (by rw [k2]; exact hb)
                rw [(Ee.mem rc k1).2.2.1, k2] at this
                exact this
            obtain ⟨t', sw, g1, g2, g3, g4, g5, g6⟩ := opsD_facts ok hc l (p + 1) _ ({ i := p, e := t.EV p, x, v } :: qs) es hl' hlen' F' (Q.pushQ rfl) (Ee.push rfl) (by rw [push_EV', push_DS', push_HD']; exact hr)
            obtain ⟨b1, b2, b3⟩ := back _ _ _ _ _ rfl
            exact ⟨t', sw, g1, g2, g3.trans b1, g4.trans b2, g5.trans b3, g6⟩
        · cases hr
      | a x =>
        rw [hx] at hr
        simp only at hr
        split at hr
        · rename_i v b hv
          have F' : Facts C T (t.push p ((slotP T.N o.dst).f (t.EV p) v) (t.DS p) ((t.HD p).put (Nat.add T.base p) b) (.a x v b)) none (p + 1) := by
            refine F.push ho ?_ rfl (fun _ _ _ _ h => by cases h) (fun _ _ _ _ _ h => by cases h) (fun _ _ _ h => by cases h)
            simp only [StFact]
            rw [push_EV (Nat.le_refl _), push_DS', push_DS (Nat.le_refl _), push_HD', push_HD (Nat.le_refl _)]
            exact ⟨hw, hx, hv, rfl, rfl⟩
          obtain ⟨t', sw, g1, g2, g3, g4, g5, g6⟩ := opsD_facts ok hc l (p + 1) _ qs es hl' hlen' F' (Q.push (fun _ _ h => by cases h)) (Ee.push rfl) (by rw [push_EV', push_DS', push_HD']; exact hr)
          obtain ⟨b1, b2, b3⟩ := back _ _ _ _ _ rfl
          exact ⟨t', sw, g1, g2, g3.trans b1, g4.trans b2, g5.trans b3, g6⟩
        · cases hr
      | e x =>
        rw [hx] at hr
        simp only at hr
        cases hab : (allBefore (T.ms.getD p 0) es || (l.isEmpty && swapOk C.S (t.EV p) o x T.base T.as (T.ms.getD p 0) qs es)) with
        | false =>
          have e0 : (dosC C.S T.ops T.ms l (p + 1)).isEmpty = l.isEmpty := by cases l <;> rfl
          rw [e0, hab] at hr; cases hr
        | true =>
          have e0 : (dosC C.S T.ops T.ms l (p + 1)).isEmpty = l.isEmpty := by cases l <;> rfl
          rw [e0, hab] at hr
          simp only [cond_true] at hr
          obtain ⟨v, dd, h1, hs, hr2⟩ := stepE_sound (N := T.N) ok hc hx hr
          have hsome : (x.f (t.EV p) (T.hid p (t.HD p))).isSome = true := by
            unfold stepE at hr
            split at hr
            · rename_i y hy
              show (x.f (t.EV p) (hideAll T.base (T.ms.getD p 0) T.as (t.HD p))).isSome = true
              rw [hy]; rfl
            · cases hr
          clear hr
          cases hfq : (freshOk T.base (hideAll T.base (T.ms.getD p 0) T.as (t.HD p)) h1 T.as && qLater T.base (T.ms.getD p 0) T.ms T.as (backAll T.base (T.ms.getD p 0) (t.HD p) T.as h1) qs) with
          | false => rw [hfq] at hr2; cases hr2
          | true =>
            rw [hfq] at hr2
            simp only [cond_true] at hr2
            rw [Bool.and_eq_true] at hfq
            obtain ⟨hfr, hql⟩ := hfq
            have hst : StFact C T (t.push p ((slotP T.N o.dst).f (t.EV p) v) (pushD dd (t.DS p)) (backAll T.base (T.ms.getD p 0) (t.HD p) T.as h1) (.e x v dd h1)) p o (.e x v dd h1) := by
              simp only [StFact]
              rw [push_EV (Nat.le_refl _), push_DS', push_DS (Nat.le_refl _), push_HD', push_HD (Nat.le_refl _)]
              exact ⟨hw, hx, hs, hfr, rfl, rfl, hsome⟩
            have hqlF : ∀ i x' v', i < p → t.KD i = .q x' v' → (Kd.e x v dd h1).isE = true → Nat.testBit (T.mk_ p) i = false → x'.f (t.EV i) (T.hid i (backAll T.base (T.ms.getD p 0) (t.HD p) T.as h1)) = some v' :=
              fun i x' v' hi hq _ hb => by
                obtain ⟨rc, k1, k2, k3, k4, k5⟩ := Q i x' v' hi hq
                have := qLater_spec hql rc k1 (by rw [k2]; exact hb)
                rw [k2, k3, k4, k5] at this
                exact this
            by_cases hall : allBefore (T.ms.getD p 0) es = true
            · have F' : Facts C T (t.push p ((slotP T.N o.dst).f (t.EV p) v) (pushD dd (t.DS p)) (backAll T.base (T.ms.getD p 0) (t.HD p) T.as h1) (.e x v dd h1)) none (p + 1) := by
                refine F.push ho hst rfl (fun _ _ _ _ h => by cases h) hqlF (fun i hi he _ => ?_)
                obtain ⟨rc, k1, k2⟩ := Ee.all i hi he
                have := allBefore_spec hall rc k1
                rw [k2] at this
                exact .inl this
              obtain ⟨t', sw, g1, g2, g3, g4, g5, g6⟩ := opsD_facts ok hc l (p + 1) _ qs ({ i := p, h := t.HD p, rg := storeAtD C.S (t.EV p) o.op } :: es) hl' hlen' F' (Q.push (fun _ _ h => by cases h)) (Ee.pushE ho rfl)
                (by rw [push_EV', push_DS', push_HD']; exact hr2)
              obtain ⟨b1, b2, b3⟩ := back _ _ _ _ _ rfl
              exact ⟨t', sw, g1, g2, g3.trans b1, g4.trans b2, g5.trans b3, g6⟩
            · rw [Bool.eq_false_iff.2 hall, Bool.false_or, Bool.and_eq_true] at hab
              obtain ⟨hemp, hsw⟩ := hab
              have hnil : l = [] := by simpa using hemp
              subst hnil
              cases es with
              | nil => cases hsw
              | cons er es =>
                unfold swapOk at hsw
                simp only [tb_eq, Bool.and_eq_true, Bool.not_eq_true'] at hsw
                obtain ⟨⟨⟨⟨⟨⟨s1, s2⟩, s3⟩, s4⟩, s5⟩, s6⟩, s7⟩ := hsw
                obtain ⟨m1, m2, m3, oi, m4, m5⟩ := Ee.mem er (by simp)
                have F' : Facts C T (t.push p ((slotP T.N o.dst).f (t.EV p) v) (pushD dd (t.DS p)) (backAll T.base (T.ms.getD p 0) (t.HD p) T.as h1) (.e x v dd h1)) (some (er.i, p)) (p + 1) := by
                  refine F.push ho hst rfl (fun _ _ _ _ h => by cases h) hqlF (fun i hi he _ => ?_)
                  obtain ⟨rc, k1, k2⟩ := Ee.all i hi he
                  rcases List.mem_cons.1 k1 with rfl | k1
                  · exact .inr (by rw [k2])
                  · have := allBefore_spec s2 rc k1
                    rw [k2] at this
                    exact .inl this
                rw [List.length_nil, Nat.add_zero] at hlen'
                obtain ⟨b1, b2, b3⟩ := back _ _ _ _ _ rfl
                refine ⟨_, some (er.i, p), by rw [hlen']; exact F', fun i j h => ?_, b1, b2, b3, by rw [hlen', push_EV', push_DS', push_HD']; exact hr2⟩
                cases h
                refine ⟨hlen'.symm, m1, by rw [push_KD m1]; exact m2, by rw [push_KD']; rfl, fun o' ho' => ?_, fun k hk => aBefore_spec s3 k hk, fun k hk he hne => ?_, s1, fun k x' v' hk hq hb => ?_, fun x' v' dd' h1' hk => ?_, fun o1 o2 h1 h2 => ?_⟩
                · rw [ho] at ho'; cases ho'
                  simpa using s5
                · rw [push_KD hk] at he
                  obtain ⟨rc, k1, k2⟩ := Ee.all k hk he
                  rcases List.mem_cons.1 k1 with rfl | k1
                  · exact absurd k2.symm hne
                  · have := allBefore_spec s2 rc k1
                    rw [k2] at this
                    exact this
                · rw [push_KD hk] at hq
                  rw [push_EV (by omega)]
                  obtain ⟨rc, k1, k2, k3, k4, k5⟩ := Q k x' v' hk hq
                  have := qPure_spec s4 rc k1 (by rw [k2]; exact hb)
                  rw [k3, k4, k5] at this
                  exact this
                · rw [push_KD'] at hk; cases hk
                  rw [push_EV (Nat.le_refl _), push_HD (by omega), ← m3]
                  exact s6
                · rw [m4] at h1; cases h1
                  rw [ho] at h2; cases h2
                  rw [push_EV (by omega), push_EV (Nat.le_refl _), ← m5]
                  split at s7
                  · rename_i r1 r2 e1 e2
                    exact ⟨r1, r2, e1, e2, s7⟩
                  · cases s7

end
end Go.Dm
end

section
namespace Go.Dm
variable {C : Ctx}

/-! memories in parts -/
theorem HL.sub {ρ : Ren} {g h : Heap} {w : World} (H : HL ρ g w) (hs : ∀ id o, h.get id = some o → g.get id = some o) : HL ρ h w :=
  ⟨fun id o hg => H.live id o (hs id o hg), fun id id' o o' i i' h1 h2 => H.inj id id' o o' i i' (hs _ _ h1) (hs _ _ h2)⟩

theorem HR.sub {ρ : Ren} {g h : Heap} {w : World} (H : HR C ρ g w) (hs : ∀ id o, h.get id = some o → g.get id = some o) (hn : h.next = g.next) : HR C ρ h w :=
  ⟨H.toHL.sub hs, fun id hi => H.next id (by rw [← hn]; exact hi), H.base, H.low, H.old⟩

/-- a step over a part of memory, the rest beside it -/
theorem frame {ρ ρ' : Ren} {g hid h1 g' : Heap} {w w' : World} (H : HR C ρ g w) (hs : ∀ id o, hid.get id = some o → g.get id = some o) (hn : hid.next = g.next) (H' : HR C ρ' h1 w') (St : Stp ρ hid w ρ' h1 w')
    (hg' : ∀ id o, g'.get id = some o → h1.get id = some o ∨ (g.get id = some o ∧ hid.get id = none)) (hn' : g'.next = h1.next) : HR C ρ' g' w' ∧ Stp ρ g w ρ' g' w' := by
  have own : ∀ id o i, g.get id = some o → hid.get id = none → ρ id = some i → ∀ id' o' i', hid.get id' = some o' → ρ id' = some i' → i'.b ≠ i.b := fun id o i h2 h3 h4 id' o' i' h5 h6 e => by
    have := H.inj _ _ _ _ _ _ (hs _ _ h5) h2 h6 h4 e
    subst this
    rw [h3] at h5; cases h5
  have fr : ∀ id o, g.get id = some o → hid.get id = none → ∃ i ro, ρ id = some i ∧ ρ' id = some i ∧ i.b < w.heap.size ∧ w'.heap[i.b]? = some ro ∧ OR ρ' i o ro := fun id o h2 h3 => by
    obtain ⟨i, ro, g1, g2, g3⟩ := H.live id o h2
    have hlt := H.toHL.lt h2 g1
    refine ⟨i, ro, g1, St.le _ _ g1, hlt, ?_, g3.mono St.le⟩
    rw [St.block i.b hlt (fun id' o' i' h5 h6 => own id o i h2 h3 g1 id' o' i' h5 h6)]
    exact g2
  have mix : ∀ id o i id' o' i', h1.get id = some o → ρ' id = some i → g.get id' = some o' → hid.get id' = none → ρ' id' = some i' → i.b ≠ i'.b := fun id o i id' o' i' k1 k2 k3 k4 k5 e => by
    obtain ⟨j, ro, f1, f2, f3, -⟩ := fr id' o' k3 k4
    rw [k5] at f2; cases f2
    obtain ⟨id2, o2, i2, q1, q2, q3⟩ := St.from_ id o i k1 k2 (by omega)
    exact own id' o' i' k3 k4 f1 id2 o2 i2 q1 q2 (by omega)
  refine ⟨⟨⟨fun id o h2 => ?_, fun id id' o o' i i' h2 h3 h4 h5 h6 => ?_⟩, fun id h2 => H'.next id (by rw [← hn']; exact h2), H'.base, H'.low, H'.old⟩,
    ⟨St.os, St.tape, St.output, St.size, fun b hb hno => St.block b hb fun id o i h2 h3 => hno id o i (hs _ _ h2) h3⟩, St.le, by rw [hn', ← hn]; exact St.next, fun id o i h2 h3 h4 => ?_, fun id i h2 h3 => by rw [← hn]; exact St.new id i h2 h3, fun id h2 h3 => ?_⟩
  · rcases hg' id o h2 with h3 | ⟨h3, h4⟩
    · exact H'.live id o h3
    · obtain ⟨i, ro, f1, f2, f3, f4, f5⟩ := fr id o h3 h4
      exact ⟨i, ro, f2, f4, f5⟩
  · rcases hg' id o h2 with h2 | ⟨h2, h2'⟩ <;> rcases hg' id' o' h3 with h3 | ⟨h3, h3'⟩
    · exact H'.inj _ _ _ _ _ _ h2 h3 h4 h5 h6
    · exact absurd h6 (mix id o i id' o' i' h2 h4 h3 h3' h5)
    · exact absurd h6.symm (mix id' o' i' id o i h3 h5 h2 h2' h4)
    · obtain ⟨j, ro, f1, f2, -⟩ := fr id o h2 h2'
      obtain ⟨j', ro', f1', f2', -⟩ := fr id' o' h3 h3'
      rw [h4] at f2; cases f2
      rw [h5] at f2'; cases f2'
      exact H.inj _ _ _ _ _ _ h2 h3 f1 f1' h6
  · rcases hg' id o h2 with h2 | ⟨h2, h2'⟩
    · obtain ⟨id', o', i', q1, q2, q3⟩ := St.from_ id o i h2 h3 h4
      exact ⟨id', o', i', hs _ _ q1, q2, q3⟩
    · obtain ⟨j, ro, f1, f2, -⟩ := fr id o h2 h2'
      rw [h3] at f2; cases f2
      exact ⟨id, o, i, h2, f1, rfl⟩
  · cases e : g'.get id with
    | none => rfl
    | some o =>
      rcases hg' id o e with k | ⟨k, -⟩
      · have hid0 : hid.get id = none := by
          cases e2 : hid.get id with
          | none => rfl
          | some o2 => rw [hs _ _ e2] at h3; cases h3
        rw [St.dead id (by rw [hn]; exact h2) hid0] at k; cases k
      · rw [h3] at k; cases k

/-! the memory at a listing -/
section
variable {T : Tab} {t : Trc} {sw : Option (Nat × Nat)}

/-- the effects that are listed are those ahead of q -/
def Valid (T : Tab) (t : Trc) (L : Nat → Bool) (q : Nat) : Prop := ∀ j, j < T.ops.length → (t.KD j).isE = true → (L j = true ↔ j < q)

structure GH (T : Tab) (t : Trc) (L : Nat → Bool) (q : Nat) (g : Heap) : Prop where
  next : g.next = (t.HD q).next
  a : ∀ k, k < T.ops.length → (t.KD k).isA = true → g.get (T.base + k) = if L k then (if k < q then (t.HD q).get (T.base + k) else (t.KD k).blk) else none
  o : ∀ id, (∀ k, k < T.ops.length → (t.KD k).isA = true → id ≠ T.base + k) → g.get id = (t.HD q).get id

/-- the tables are what they should be -/
structure TabOk (C : Ctx) (T : Tab) : Prop where
  ed : edgesOk T.ops 0 = true
  tm : tmpsOk T.ops T.ms T.ops 0 = true
  ms : T.ms = masks [] T.ops
  as : T.as = aIdx C.S T.ops 0

theorem TabOk.mem (ok : TabOk C T) {k : Nat} {o : Oper} {x : FA} (ho : T.ops[k]? = some o) (hx : opF C.S o.op = .a x) : k ∈ T.as := by
  rw [ok.as, aIdx_spec]
  exact ⟨Nat.zero_le _, o, by simpa using ho, x, hx⟩

theorem Facts.isA (tok : TabOk C T) (F : Facts C T t sw T.ops.length) {k : Nat} (hk : k < T.ops.length) (ha : (t.KD k).isA = true) : k ∈ T.as ∧ ∃ x v b, t.KD k = .a x v b := by
  have ho : T.ops[k]? = some T.ops[k] := List.getElem?_eq_getElem hk
  have := F.st k _ hk ho
  cases hkd : t.KD k with
  | a x v b =>
    rw [hkd] at this
    exact ⟨tok.mem ho this.2.1, x, v, b, rfl⟩
  | _ => rw [hkd] at ha; cases ha

theorem mask_lt (tok : TabOk C T) {i j : Nat} (hi : i < T.ops.length) (hb : Nat.testBit (T.mk_ i) j = true) : j < i := by
  unfold Tab.mk_ at hb
  rw [tok.ms] at hb
  have hc : Closed T.ops (fun _ => true) := fun _ _ _ _ _ _ _ => rfl
  exact (mask_listed tok.ed hc i j T.ops[i] (List.getElem?_eq_getElem hi) (fun _ _ _ => rfl) hb).2

theorem mask_in (tok : TabOk C T) {L : Nat → Bool} (hc : Closed T.ops L) {i j : Nat} {o : Oper} (ho : T.ops[i]? = some o) (hr : ∀ e ∈ o.after, Region.binds .any e = true → L e.on = true) (hb : Nat.testBit (T.mk_ i) j = true) : L j = true := by
  unfold Tab.mk_ at hb
  rw [tok.ms] at hb
  exact (mask_listed tok.ed hc i j o ho hr hb).1

theorem mask_in' (tok : TabOk C T) {L : Nat → Bool} (hc : Closed T.ops L) {i j : Nat} (hi : i < T.ops.length) (hl : L i = true) (hb : Nat.testBit (T.mk_ i) j = true) : L j = true :=
  mask_in tok hc (List.getElem?_eq_getElem hi) (fun e he hbi => hc i _ (List.getElem?_eq_getElem hi) hl e he hbi) hb

theorem hid_get (T : Tab) (i : Nat) (h : Heap) (id : Nat) : (T.hid i h).get id = if (∃ k ∈ T.as, id = T.base + k ∧ Nat.testBit (T.mk_ i) k = false) then none else h.get id := hideAll_get _ _ _ _ _
theorem hid_next (T : Tab) (i : Nat) (h : Heap) : (T.hid i h).next = h.next := hideAll_next _ _ _ _

/-- names of blocks not yet made are free -/
theorem Facts.deadAt (tok : TabOk C T) (F : Facts C T t sw T.ops.length) (h0 : ∀ k ∈ T.as, (t.HD 0).get (T.base + k) = none) : ∀ (p : Nat), p ≤ T.ops.length → ∀ k ∈ T.as, (p ≤ k ∨ (t.KD k).isA = false) → (t.HD p).get (T.base + k) = none
  | 0, _, k, hk, _ => h0 k hk
  | p + 1, hp, k, hk, hor => by
    have ih := Facts.deadAt tok F h0 p (by omega) k hk (hor.imp (by omega) id)
    have ho : T.ops[p]? = some T.ops[p] := List.getElem?_eq_getElem (by omega)
    have := F.st p _ (by omega) ho
    cases hkd : t.KD p with
    | skip => rw [hkd] at this; rw [this.2.2]; exact ih
    | q x v => rw [hkd] at this; rw [this.2.2.2.2]; exact ih
    | a x v b =>
      rw [hkd] at this; rw [this.2.2.2.2, Heap.get_put, if_neg]
      · exact ih
      · intro e
        have : k = p := by omega
        subst this
        rcases hor with h | h
        · omega
        · rw [hkd] at h; cases h
    | e x v dd h1 =>
      rw [hkd] at this
      obtain ⟨-, -, -, hf, -, hd, -⟩ := this
      rw [hd, backAll_get, ih, if_neg (fun h => by cases h.2)]
      refine freshOk_spec hf k hk ?_
      rw [hid_get]
      split
      · rfl
      · exact ih

/-- a block that no effect may touch stays as it was made -/
theorem Facts.keepAt (tok : TabOk C T) (F : Facts C T t sw T.ops.length) {k : Nat} {x : FA} {v : DV} {b : DObj} (hk : t.KD k = .a x v b) : ∀ (p : Nat), k < p → p ≤ T.ops.length →
    (∀ j, k < j → j < p → (t.KD j).isE = true → Nat.testBit (T.mk_ j) k = false) → (t.HD p).get (T.base + k) = some b
  | 0, h, _, _ => by omega
  | p + 1, hkp, hp, hno => by
    have ho : T.ops[p]? = some T.ops[p] := List.getElem?_eq_getElem (by omega)
    have hs := F.st p _ (by omega) ho
    by_cases e : k = p
    · subst e
      rw [hk] at hs
      rw [hs.2.2.2.2, Heap.get_put, if_pos rfl]
    · have ih := Facts.keepAt tok F hk p (by omega) (by omega) (fun j h1 h2 => hno j h1 (by omega))
      cases hkd : t.KD p with
      | skip => rw [hkd] at hs; rw [hs.2.2]; exact ih
      | q x v => rw [hkd] at hs; rw [hs.2.2.2.2]; exact ih
      | a x v b => rw [hkd] at hs; rw [hs.2.2.2.2, Heap.get_put, if_neg (by omega)]; exact ih
      | e x v dd h1 =>
        rw [hkd] at hs
        obtain ⟨-, -, -, hf, -, hd, -⟩ := hs
        have hmem := (F.isA tok (k := k) (by omega) (by rw [hk]; rfl)).1
        rw [hd, backAll_get, if_pos ⟨⟨k, hmem, rfl, hno p (by omega) (by omega) (by rw [hkd]; rfl)⟩, by rw [ih]; rfl⟩]
        exact ih

/-- where no effect lies between, memory differs by new blocks alone -/
theorem Facts.moveAt (F : Facts C T t sw T.ops.length) {p : Nat} : ∀ (p' : Nat), p ≤ p' → p' ≤ T.ops.length → (∀ j, p ≤ j → j < p' → (t.KD j).isE = false) →
    t.DS p' = t.DS p ∧ (t.HD p').next = (t.HD p).next ∧ (∀ k x v b, p ≤ k → k < p' → t.KD k = .a x v b → (t.HD p').get (T.base + k) = some b) ∧
    (∀ id, (∀ k, p ≤ k → k < p' → (t.KD k).isA = true → id ≠ T.base + k) → (t.HD p').get id = (t.HD p).get id)
  | 0, h, _, _ => by
    have : p = 0 := by omega
    subst this
    exact ⟨rfl, rfl, fun k _ _ _ _ h => by omega, fun _ _ => rfl⟩
  | p' + 1, hpp, hp, hno => by
    by_cases e : p = p' + 1
    · subst e
      exact ⟨rfl, rfl, fun k _ _ _ _ h => by omega, fun _ _ => rfl⟩
    · obtain ⟨i1, i2, i3, i4⟩ := Facts.moveAt F p' (by omega) (by omega) (fun j h1 h2 => hno j h1 (by omega))
      have ho : T.ops[p']? = some T.ops[p'] := List.getElem?_eq_getElem (by omega)
      have hs := F.st p' _ (by omega) ho
      cases hkd : t.KD p' with
      | e x v dd h1 =>
        have := hno p' (by omega) (by omega)
        rw [hkd] at this; cases this
      | a x v b =>
        rw [hkd] at hs
        obtain ⟨-, -, -, h1, h2⟩ := hs
        rw [h1, h2]
        refine ⟨i1, by rw [Heap.next_put]; exact i2, fun k x' v' b' h3 h4 h5 => ?_, fun id h3 => ?_⟩
        · rw [Heap.get_put]
          by_cases e : k = p'
          · subst e
            rw [hkd] at h5; cases h5
            rw [if_pos rfl]
          · rw [if_neg (by omega)]
            exact i3 k x' v' b' h3 (by omega) h5
        · rw [Heap.get_put, if_neg (h3 p' (by omega) (by omega) (by rw [hkd]; rfl))]
          exact i4 id (fun k h5 h6 h7 => h3 k h5 (by omega) h7)
      | skip =>
        rw [hkd] at hs
        obtain ⟨-, h1, h2⟩ := hs
        rw [h1, h2]
        refine ⟨i1, i2, fun k x' v' b' h3 h4 h5 => i3 k x' v' b' h3 ?_ h5, fun id h3 => i4 id (fun k h5 h6 h7 => h3 k h5 (by omega) h7)⟩
        rcases Nat.lt_or_ge k p' with h | h
        · exact h
        · have : k = p' := by omega
          subst this
          rw [hkd] at h5; cases h5
      | q x v =>
        rw [hkd] at hs
        obtain ⟨-, -, -, h1, h2⟩ := hs
        rw [h1, h2]
        refine ⟨i1, i2, fun k x' v' b' h3 h4 h5 => i3 k x' v' b' h3 ?_ h5, fun id h3 => i4 id (fun k h5 h6 h7 => h3 k h5 (by omega) h7)⟩
        rcases Nat.lt_or_ge k p' with h | h
        · exact h
        · have : k = p' := by omega
          subst this
          rw [hkd] at h5; cases h5

theorem blk_of {x : FA} {v : DV} {b : DObj} {k : Nat} (h : t.KD k = .a x v b) : (t.KD k).blk = some b := by rw [h]; rfl

theorem GH.uniqLe (tok : TabOk C T) (F : Facts C T t sw T.ops.length) {L : Nat → Bool} {q q' : Nat} {g : Heap} (hq : Valid T t L q) (hq' : Valid T t L q') (hle : q ≤ q') (hm : q' ≤ T.ops.length) :
    (GH T t L q g ↔ GH T t L q' g) ∧ t.DS q' = t.DS q := by
  have hno : ∀ j, q ≤ j → j < q' → (t.KD j).isE = false := fun j h1 h2 => by
    cases e : (t.KD j).isE with
    | false => rfl
    | true =>
      have := (hq j (by omega) e).1 ((hq' j (by omega) e).2 h2)
      omega
  obtain ⟨m1, m2, m3, m4⟩ := F.moveAt q' hle hm hno
  have hA : ∀ k, k < T.ops.length → (t.KD k).isA = true → (if k < q then (t.HD q).get (T.base + k) else (t.KD k).blk) = if k < q' then (t.HD q').get (T.base + k) else (t.KD k).blk := fun k h1 h2 => by
    obtain ⟨-, x, v, b, hk⟩ := F.isA tok h1 h2
    by_cases e1 : k < q
    · rw [if_pos e1, if_pos (by omega), m4]
      intro k' g1 g2 g3
      omega
    · rw [if_neg e1]
      by_cases e2 : k < q'
      · rw [if_pos e2, m3 k x v b (by omega) e2 hk, blk_of hk]
      · rw [if_neg e2]
  have hO : ∀ id, (∀ k, k < T.ops.length → (t.KD k).isA = true → id ≠ T.base + k) → (t.HD q').get id = (t.HD q).get id := fun id h => m4 id (fun k g1 g2 g3 => h k (by omega) g3)
  refine ⟨⟨fun G => ⟨by rw [G.next, m2], fun k h1 h2 => by rw [G.a k h1 h2, hA k h1 h2], fun id h => by rw [G.o id h, hO id h]⟩,
    fun G => ⟨by rw [G.next, m2], fun k h1 h2 => by rw [G.a k h1 h2, hA k h1 h2], fun id h => by rw [G.o id h, hO id h]⟩⟩, m1⟩

theorem GH.uniq (tok : TabOk C T) (F : Facts C T t sw T.ops.length) {L : Nat → Bool} {q q' : Nat} {g : Heap} (hq : Valid T t L q) (hq' : Valid T t L q') (h1 : q ≤ T.ops.length) (h2 : q' ≤ T.ops.length)
    (G : GH T t L q g) : GH T t L q' g ∧ t.DS q' = t.DS q := by
  rcases Nat.le_total q q' with h | h
  · have := GH.uniqLe (g := g) tok F hq hq' h h2
    exact ⟨this.1.1 G, this.2⟩
  · have := GH.uniqLe (g := g) tok F hq' hq h h1
    exact ⟨this.1.2 G, this.2.symm⟩

/-! the frame at a listing -/
noncomputable def envF (T : Tab) (t : Trc) (L : Nat → Bool) : Nat → E
  | 0 => t.EV 0
  | i + 1 => match T.ops[i]? with
    | some o => if L i then (slotP T.N o.dst).f (envF T t L i) (t.KD i).val else envF T t L i
    | none => envF T t L i

theorem slotP_get (N : Nat) (d : Option Tmp) (e : E) (v : DV) (x : Nat) : ((slotP N d).f e v).get x = if d = some x ∧ x < N then v else e.get x := by
  rw [slotP_f]
  cases d with
  | none => simp
  | some k =>
    simp only [Option.some.injEq]
    by_cases h : k < N
    · rw [if_pos h, E.get_put]
      by_cases e : x = k
      · subst e; rw [if_pos rfl, if_pos ⟨rfl, h⟩]
      · rw [if_neg e, if_neg (fun h => e h.1.symm)]
    · rw [if_neg h, if_neg]
      rintro ⟨rfl, h2⟩
      exact h h2

theorem apart_of (tok : TabOk C T) {i j : Nat} {oi oj : Oper} (hi : T.ops[i]? = some oi) (hj : T.ops[j]? = some oj) (hlt : j < i) (hb : Nat.testBit (T.mk_ i) j = false) : Apart T.ops oi oj :=
  tmps_spec T.ops 0 tok.tm i j oi oj hi hj (by omega) (by rw [Nat.zero_add]; exact hb)

theorem env_reads (tok : TabOk C T) (F : Facts C T t sw T.ops.length) {L : Nat → Bool} (hc : Closed T.ops L) {i : Nat} {o : Oper} (ho : T.ops[i]? = some o) (hl : L i = false)
    (hr : ∀ e ∈ o.after, Region.binds .any e = true → L e.on = true) {x : Nat} (hx : x ∈ readsOf T.ops o) : (envF T t L T.ops.length).get x = (t.EV i).get x := by
  have hi : i < T.ops.length := (List.getElem?_eq_some_iff.1 ho).1
  have A : ∀ p, p ≤ i → (envF T t L p).get x = (t.EV p).get x := by
    intro p
    induction p with
    | zero => intro _; rfl
    | succ p ih =>
      intro hp
      have ih := ih (by omega)
      have hop : T.ops[p]? = some T.ops[p] := List.getElem?_eq_getElem (by omega)
      rw [F.ev p _ (by omega) hop]
      unfold envF
      rw [hop]
      simp only
      by_cases hL : L p = true
      · rw [if_pos hL, slotP_get, slotP_get, ih]
      · rw [if_neg hL, slotP_get, ih, if_neg]
        rintro ⟨h1, -⟩
        have hb : Nat.testBit (T.mk_ i) p = false := by
          cases e : Nat.testBit (T.mk_ i) p with
          | false => rfl
          | true => exact absurd (mask_in tok hc ho hr e) hL
        exact ((apart_of tok ho hop (by omega) hb).a x h1).1 hx
  have B : ∀ p, i ≤ p → p ≤ T.ops.length → (envF T t L p).get x = (envF T t L i).get x := by
    intro p
    induction p with
    | zero => intro h _; have : i = 0 := by omega
              subst this; rfl
    | succ p ih =>
      intro h1 h2
      by_cases e : i = p + 1
      · subst e; rfl
      · have ih := ih (by omega) (by omega)
        have hop : T.ops[p]? = some T.ops[p] := List.getElem?_eq_getElem (by omega)
        rw [← ih]
        conv => lhs; unfold envF
        rw [hop]
        simp only
        by_cases hL : L p = true
        · rw [if_pos hL, slotP_get, if_neg]
          rintro ⟨h3, -⟩
          have hne : p ≠ i := fun e => by subst e; rw [hl] at hL; cases hL
          have hb : Nat.testBit (T.mk_ p) i = false := by
            cases e : Nat.testBit (T.mk_ p) i with
            | false => rfl
            | true => rw [mask_in' tok hc (by omega) hL e] at hl; cases hl
          exact (apart_of tok hop ho (by omega) hb).b x h3 hx
        · rw [if_neg hL]
  rw [B _ (by omega) (Nat.le_refl _), A i (Nat.le_refl _)]

def setL (L : Nat → Bool) (i : Nat) : Nat → Bool := fun k => if k = i then true else L k
theorem setL_same (L : Nat → Bool) (i : Nat) : setL L i i = true := if_pos rfl
theorem setL_ne (L : Nat → Bool) {i k : Nat} (h : k ≠ i) : setL L i k = L k := if_neg h

theorem env_set (tok : TabOk C T) {L : Nat → Bool} (hc : Closed T.ops L) {i : Nat} {o : Oper} (ho : T.ops[i]? = some o) (hl : L i = false) (x : Nat) :
    (envF T t (setL L i) T.ops.length).get x = ((slotP T.N o.dst).f (envF T t L T.ops.length) (t.KD i).val).get x := by
  have hi : i < T.ops.length := (List.getElem?_eq_some_iff.1 ho).1
  have A : ∀ p, p ≤ i → envF T t (setL L i) p = envF T t L p := by
    intro p
    induction p with
    | zero => intro _; rfl
    | succ p ih =>
      intro hp
      have ih := ih (by omega)
      unfold envF
      rw [setL_ne L (by omega), ih]
  have B : ∀ p, i < p → p ≤ T.ops.length → (envF T t (setL L i) p).get x = ((slotP T.N o.dst).f (envF T t L p) (t.KD i).val).get x := by
    intro p
    induction p with
    | zero => intro h _; omega
    | succ p ih =>
      intro h1 h2
      by_cases e : p = i
      · subst e
        conv => lhs; unfold envF
        conv => rhs; unfold envF
        rw [ho]
        simp only
        rw [setL_same, if_pos rfl, hl, A p (Nat.le_refl _)]
        simp
      · have ih := ih (by omega) (by omega)
        have hop : T.ops[p]? = some T.ops[p] := List.getElem?_eq_getElem (by omega)
        conv => lhs; unfold envF
        rw [slotP_get]
        conv => rhs; unfold envF
        rw [hop]
        simp only
        rw [setL_ne L e]
        by_cases hL : L p = true
        · rw [if_pos hL, if_pos hL, slotP_get, slotP_get, ih, slotP_get]
          have hb : Nat.testBit (T.mk_ p) i = false := by
            cases e : Nat.testBit (T.mk_ p) i with
            | false => rfl
            | true => rw [mask_in' tok hc (by omega) hL e] at hl; cases hl
          have hap := apart_of tok hop ho (by omega) hb
          by_cases h3 : T.ops[p].dst = some x ∧ x < T.N
          · rw [if_pos h3, if_neg, if_pos h3]
            rintro ⟨h4, -⟩
            exact (hap.a x h4).2 h3.1
          · rw [if_neg h3, if_neg h3]
        · rw [if_neg hL, if_neg hL, ih, slotP_get]
  exact B _ hi (Nat.le_refl _)

end
end Go.Dm
end

section
namespace Go.Dm
variable {C : Ctx} {T : Tab} {t : Trc} {sw : Option (Nat × Nat)}

theorem Stp.thenAdd {ρ0 ρ : Ren} {h0 h h' : Heap} {w0 w : World} {id : Nat} {i : BI} {b : DObj} (S : Stp ρ0 h0 w0 ρ h w) (ro : Obj) (hf : ρ id = none) (hi : i.b = w.heap.size)
    (hh : ∀ j, h'.get j = if j = id then some b else h.get j) (hn : h.next ≤ h'.next) (hge : h0.next ≤ id) : Stp ρ0 h0 w0 (ρ.add id i) h' (pushW w ro) := by
  refine ⟨⟨S.os, S.tape, S.output, ?_, fun b hb hno => ?_⟩, Ren.le_trans S.le (Ren.le_add hf), Nat.le_trans S.next hn, fun j o p hg hp hl => ?_, fun j p h1 h2 => ?_, fun j hj hg => ?_⟩
  · show w0.heap.size ≤ (w.heap.push ro).size
    have := S.size
    simp; omega
  · rw [pushW_get _ _ (Nat.lt_of_lt_of_le hb S.size)]
    exact S.block b hb hno
  · by_cases e : j = id
    · subst e
      rw [Ren.add_self] at hp; cases hp
      have := S.size
      omega
    · rw [hh, if_neg e] at hg
      rw [Ren.add_ne e] at hp
      exact S.from_ j o p hg hp hl
  · by_cases e : j = id
    · omega
    · rw [Ren.add_ne e] at h1; exact S.new j p h1 h2
  · rw [hh, if_neg (by omega)]
    exact S.dead j hj hg

theorem Stp.ext {ρ0 ρ : Ren} {h0 g g' : Heap} {w0 w : World} (S : Stp ρ0 h0 w0 ρ g w) (hn : g'.next = g.next) (hg : ∀ id, g'.get id = g.get id) : Stp ρ0 h0 w0 ρ g' w :=
  ⟨S.toKeeps, S.le, by rw [hn]; exact S.next, fun id o i h1 h2 h3 => S.from_ id o i (by rw [← hg]; exact h1) h2 h3, S.new, fun id h1 h2 => by rw [hg]; exact S.dead id h1 h2⟩

theorem ER.ext {ρ : Ren} {N : Nat} {e e' : E} {a : Act} (h : ER ρ N e a) (he : ∀ x, e'.get x = e.get x) : ER ρ N e' a := ⟨h.size, fun x => by rw [he]; exact h.tmp x⟩

theorem least (p : Nat → Prop) : ∀ n, p n → ∃ k, k ≤ n ∧ p k ∧ ∀ j, j < k → ¬ p j := by
  intro n
  induction n using Nat.strongRecOn with
  | _ n ih =>
    intro h
    by_cases hx : ∃ j, j < n ∧ p j
    · obtain ⟨j, h1, h2⟩ := hx
      obtain ⟨k, g1, g2, g3⟩ := ih j h1 h2
      exact ⟨k, by omega, g2, g3⟩
    · exact ⟨n, Nat.le_refl _, h, fun j h1 h2 => hx ⟨j, h1, h2⟩⟩

theorem greatest (p : Nat → Prop) : ∀ n, (∃ j, j < n ∧ p j) → ∃ k, k < n ∧ p k ∧ ∀ j, k < j → j < n → ¬ p j
  | 0, h => by obtain ⟨j, h, -⟩ := h; omega
  | n + 1, h => by
    by_cases hn : p n
    · exact ⟨n, Nat.lt_succ_self _, hn, fun j h1 h2 => by omega⟩
    · obtain ⟨k, g1, g2, g3⟩ := greatest p n (by
        obtain ⟨j, h1, h2⟩ := h
        refine ⟨j, ?_, h2⟩
        rcases Nat.lt_or_ge j n with h3 | h3
        · exact h3
        · have : j = n := by omega
          subst this; exact absurd h2 hn)
      refine ⟨k, by omega, g2, fun j h1 h2 h3 => ?_⟩
      by_cases e : j = n
      · subst e; exact hn h3
      · exact g3 j h1 (by omega) h3

/-- what holds when these operations have run -/
structure Inv (C : Ctx) (T : Tab) (t : Trc) (sw : Option (Nat × Nat)) (ρ0 : Ren) (h0 : Heap) (w0 : World) (ρ : Ren) (L : Nat → Bool) (a : Act) (w : World) : Prop where
  er : ER ρ T.N (envF T t L T.ops.length) a
  heap : ∃ g, HR C ρ g w ∧ T.base + T.ops.length ≤ g.next ∧ Stp ρ0 h0 w0 ρ g w ∧ ∀ q, q ≤ T.ops.length → Valid T t L q → GH T t L q g ∧ DefRs ρ (t.DS q) a.defers
  fresh : ∀ k ∈ T.as, L k = false → ρ (T.base + k) = none
  closed : Closed T.ops L
  val : ∃ q, q ≤ T.ops.length ∧ Valid T t L q
  nosw : ∀ i j, sw = some (i, j) → L j = true → L i = true

/-- the facts that all steps stand on -/
structure Base (C : Ctx) (T : Tab) (t : Trc) (sw : Option (Nat × Nat)) (h0 : Heap) : Prop where
  tok : TabOk C T
  F : Facts C T t sw T.ops.length
  dead : ∀ k ∈ T.as, (t.HD 0).get (T.base + k) = none
  h0 : h0.next = T.base
  sws : ∀ i j, sw = some (i, j) → SwOk C T t i j

/-- an operation that may run now -/
structure Next_ (T : Tab) (L : Nat → Bool) (i : Nat) (o : Oper) : Prop where
  ho : T.ops[i]? = some o
  hl : L i = false
  hr : ∀ e ∈ o.after, Region.binds .any e = true → L e.on = true

section
variable {ρ0 ρ : Ren} {h0 : Heap} {w0 w : World} {L : Nat → Bool} {a : Act} {i : Nat} {o : Oper}

theorem Next_.lt (n : Next_ T L i o) : i < T.ops.length := (List.getElem?_eq_some_iff.1 n.ho).1

theorem setL_mono (L : Nat → Bool) (i : Nat) {k : Nat} (h : L k = true) : setL L i k = true := by
  unfold setL; split
  · rfl
  · exact h
theorem setL_false {L : Nat → Bool} {i k : Nat} (h : setL L i k = false) : L k = false ∧ k ≠ i := by
  unfold setL at h
  by_cases e : k = i
  · rw [if_pos e] at h; cases h
  · rw [if_neg e] at h; exact ⟨h, e⟩

theorem Closed.set (hc : Closed T.ops L) (n : Next_ T L i o) : Closed T.ops (setL L i) := fun k ok hk hl e he hb => by
  by_cases e1 : k = i
  · subst e1
    rw [n.ho] at hk; cases hk
    exact setL_mono L _ (n.hr e he hb)
  · rw [setL_ne L e1] at hl
    exact setL_mono L _ (hc k ok hk hl e he hb)

theorem Next_.agree (B : Base C T t sw h0) (I : Inv C T t sw ρ0 h0 w0 ρ L a w) (n : Next_ T L i o) : Agree o.op (t.EV i) (envF T t L T.ops.length) := fun x hx => by
  refine (env_reads B.tok B.F I.closed n.ho n.hl n.hr ?_).symm
  unfold readsOf
  exact List.mem_append_left _ (List.mem_filterMap.2 ⟨.tmp x, by simpa using hx, rfl⟩)

theorem Next_.wanted (B : Base C T t sw h0) (I : Inv C T t sw ρ0 h0 w0 ρ L a w) (n : Next_ T L i o) : wantedD T.ops (envF T t L T.ops.length) o = wantedD T.ops (t.EV i) o := by
  unfold wantedD
  cases hg : o.guard with
  | none => rfl
  | some gg =>
    obtain ⟨j, want⟩ := gg
    have : yieldedD T.ops (envF T t L T.ops.length) j = yieldedD T.ops (t.EV i) j := by
      unfold yieldedD
      cases hj : T.ops[j]? with
      | none => rfl
      | some oj =>
        cases hd : oj.dst with
        | none => simp [hd]
        | some d =>
          have hr : d ∈ readsOf T.ops o := by
            unfold readsOf
            refine List.mem_append_right _ ?_
            rw [hg]
            simp [hj, hd]
          simp only [hd, slotG_f]
          rw [env_reads B.tok B.F I.closed n.ho n.hl n.hr hr]
    simp only [this]

theorem valid_set {q : Nat} (he : (t.KD i).isE = false) : Valid T t (setL L i) q ↔ Valid T t L q := by
  constructor <;> intro h j h1 h2
  · have := h j h1 h2
    rwa [setL_ne L (fun e => by subst e; rw [he] at h2; cases h2)] at this
  · rw [setL_ne L (fun e => by subst e; rw [he] at h2; cases h2)]
    exact h j h1 h2

/-- a quiet operation, or none, has run -/
theorem Inv.put (B : Base C T t sw h0) (I : Inv C T t sw ρ0 h0 w0 ρ L a w) (n : Next_ T L i o) (he : (t.KD i).isE = false) (ha : (t.KD i).isA = false) {u : Value} (hv : VR ρ (t.KD i).val u) :
    Inv C T t sw ρ0 h0 w0 ρ (setL L i) (a.put o.dst u) w := by
  obtain ⟨g, g1, g2, g3, g4⟩ := I.heap
  obtain ⟨q, q1, q2⟩ := I.val
  refine ⟨(I.er.put o.dst hv).ext (env_set B.tok I.closed n.ho n.hl), ⟨g, g1, g2, g3, fun q h1 h2 => ?_⟩, fun k h1 h2 => I.fresh k h1 (setL_false h2).1, I.closed.set n, ⟨q, q1, (valid_set he).2 q2⟩, fun i' j' h1 h2 => ?_⟩
  · obtain ⟨G, D⟩ := g4 q h1 ((valid_set he).1 h2)
    refine ⟨⟨G.next, fun k h3 h4 => ?_, G.o⟩, by rw [Act.put_def]; exact D⟩
    rw [setL_ne L (fun e => by subst e; rw [ha] at h4; cases h4)]
    exact G.a k h3 h4
  · have S := B.sws i' j' h1
    rw [setL_ne L (fun e => by subst e; rw [S.ej] at he; cases he)] at h2
    exact setL_mono L _ (I.nosw i' j' h1 h2)

/-- what a quiet operation may look at lies in memory -/
theorem GH.hidSub (B : Base C T t sw h0) (I : Inv C T t sw ρ0 h0 w0 ρ L a w) (n : Next_ T L i o) {q : Nat} {g : Heap} (hq : q ≤ T.ops.length) (G : GH T t L q g) :
    ∀ id x, (T.hid i (t.HD q)).get id = some x → g.get id = some x := fun id x hx => by
  rw [hid_get] at hx
  split at hx
  · cases hx
  · rename_i hno
    by_cases hk : ∃ k, k < T.ops.length ∧ (t.KD k).isA = true ∧ id = T.base + k
    · obtain ⟨k, k1, k2, rfl⟩ := hk
      have hmem := (B.F.isA B.tok k1 k2).1
      have hL : L k = true := by
        refine mask_in B.tok I.closed n.ho n.hr ?_
        cases e : Nat.testBit (T.mk_ i) k with
        | true => rfl
        | false => exact absurd ⟨k, hmem, rfl, e⟩ hno
      rw [G.a k k1 k2, if_pos hL]
      by_cases e : k < q
      · rw [if_pos e]; exact hx
      · rw [B.F.deadAt B.tok B.dead q hq k hmem (.inl (by omega))] at hx; cases hx
    · rw [G.o id (fun k k1 k2 k3 => hk ⟨k, k1, k2, k3⟩)]
      exact hx

theorem Inv.quiet (ok : C.Ok) (B : Base C T t sw h0) (I : Inv C T t sw ρ0 h0 w0 ρ L a w) (n : Next_ T L i o) {x : FQ} {v : DV} (hk : t.KD i = .q x v) :
    ∃ u, VR ρ v u ∧ (execOp a.eval o).run C.P w = .ok (.value u) w := by
  have hi := n.lt
  have hst := B.F.st i o hi n.ho
  rw [hk] at hst
  obtain ⟨s1, s2, s3, -, -⟩ := hst
  obtain ⟨g, g1, g2, g3, g4⟩ := I.heap
  obtain ⟨q0, q1, q2⟩ := I.val
  have hcong := opF_congr C.S o.op _ _ (n.agree B I)
  rw [s2] at hcong
  have fin : ∀ q, q ≤ T.ops.length → Valid T t L q → x.f (t.EV i) (T.hid i (t.HD q)) = some v → ∃ u, VR ρ v u ∧ (execOp a.eval o).run C.P w = .ok (.value u) w := fun q h1 h2 h3 => by
    have H := g1.toHL.sub (GH.hidSub B I n h1 (g4 q h1 h2).1)
    exact opQ_sim ok H I.er s2 (by rw [← hcong]; exact h3)
  by_cases hA : ∃ j, j < i ∧ (t.KD j).isE = true ∧ L j = false
  · obtain ⟨j0, j1, j2, j3⟩ := hA
    obtain ⟨j, k1, ⟨k2, k3⟩, k4⟩ := least (fun j => (t.KD j).isE = true ∧ L j = false) j0 ⟨j2, j3⟩
    refine fin j (by omega) (fun j' h1 h2 => ⟨fun h3 => ?_, fun h3 => ?_⟩) ?_
    · rcases Nat.lt_or_ge j' j with h4 | h4
      · exact h4
      · have h5 := (q2 j' h1 h2).1 h3
        have h6 := (q2 j (by omega) k2).2 (by omega)
        rw [k3] at h6; cases h6
    · cases e : L j' with
      | true => rfl
      | false => exact absurd ⟨h2, e⟩ (k4 j' h3)
    · refine B.F.qe i j x v hi (by omega) hk k2 ?_
      cases e : Nat.testBit (T.mk_ i) j with
      | false => rfl
      | true => rw [mask_in B.tok I.closed n.ho n.hr e] at k3; cases k3
  · have hall : ∀ j, j < i → (t.KD j).isE = true → L j = true := fun j h1 h2 => by
      cases e : L j with
      | true => rfl
      | false => exact absurd ⟨j, h1, h2, e⟩ hA
    by_cases hB : ∃ j, j < T.ops.length ∧ (i < j ∧ (t.KD j).isE = true ∧ L j = true)
    · obtain ⟨j, k1, ⟨k2, k3, k4⟩, k5⟩ := greatest (fun j => i < j ∧ (t.KD j).isE = true ∧ L j = true) T.ops.length hB
      refine fin (j + 1) (by omega) (fun j' h1 h2 => ⟨fun h3 => ?_, fun h3 => ?_⟩) ?_
      · rcases Nat.lt_or_ge j' (j + 1) with h4 | h4
        · exact h4
        · exact absurd ⟨by omega, h2, h3⟩ (k5 j' (by omega) h1)
      · have := (q2 j k1 k3).1 k4
        exact (q2 j' h1 h2).2 (by omega)
      · refine B.F.ql i j x v k1 k2 hk k3 ?_
        cases e : Nat.testBit (T.mk_ j) i with
        | false => rfl
        | true =>
          have := mask_in' B.tok I.closed k1 k4 e
          rw [n.hl] at this; cases this
    · refine fin i (by omega) (fun j' h1 h2 => ⟨fun h3 => ?_, fun h3 => hall j' h3 h2⟩) s3
      rcases Nat.lt_or_ge j' i with h4 | h4
      · exact h4
      · have hne : j' ≠ i := fun e => by subst e; rw [hk] at h2; cases h2
        exact absurd ⟨j', h1, by omega, h2, h3⟩ hB

/-- a new block has been made -/
theorem Inv.alloc (ok : C.Ok) (B : Base C T t sw h0) (I : Inv C T t sw ρ0 h0 w0 ρ L a w) (n : Next_ T L i o) {x : FA} {v : DV} {b : DObj} (hk : t.KD i = .a x v b) :
    ∃ u w' ρ', (execOp a.eval o).run C.P w = .ok (.value u) w' ∧ Inv C T t sw ρ0 h0 w0 ρ' (setL L i) (a.put o.dst u) w' := by
  have hi := n.lt
  have hst := B.F.st i o hi n.ho
  rw [hk] at hst
  obtain ⟨s1, s2, s3, -, s5⟩ := hst
  obtain ⟨g, g1, g2, g3, g4⟩ := I.heap
  obtain ⟨q0, q1, q2⟩ := I.val
  have hcong := opF_congr C.S o.op _ _ (n.agree B I)
  rw [s2] at hcong
  have hmem := B.tok.mem n.ho s2
  have hf := I.fresh i hmem n.hl
  have hE : (t.KD i).isE = false := by rw [hk]; rfl
  obtain ⟨u, ro, sz, r1, r2, r3⟩ := opA_sim (w := w) ok I.er hf s2 (by rw [← hcong]; exact s3)
  have hle := Ren.le_add (i := ⟨w.heap.size, sz⟩) hf
  have hh : ∀ j, (g.put (T.base + i) b).get j = if j = T.base + i then some b else g.get j := fun j => Heap.get_put _ _ _ _
  refine ⟨u, _, ρ.add (T.base + i) ⟨w.heap.size, sz⟩, r1, ?_, ⟨g.put (T.base + i) b, ?_, by rw [Heap.next_put]; exact g2, ?_, fun q h1 h2 => ?_⟩, fun k h1 h2 => ?_, I.closed.set n, ⟨q0, q1, (valid_set hE).2 q2⟩, fun i' j' h1 h2 => ?_⟩
  · have hv : VR (ρ.add (T.base + i) ⟨w.heap.size, sz⟩) (t.KD i).val u := by rw [hk]; exact r2
    exact ((I.er.mono hle).put o.dst hv).ext (env_set B.tok I.closed n.ho n.hl)
  · exact g1.add ok hf r3 rfl hh (by rw [Heap.next_put]; exact Nat.le_refl _) (by rw [Heap.next_put]; omega)
  · exact g3.thenAdd ro hf rfl hh (by rw [Heap.next_put]; exact Nat.le_refl _) (by rw [B.h0]; omega)
  · have hvq := (valid_set hE).1 h2
    obtain ⟨G, D⟩ := g4 q h1 hvq
    refine ⟨⟨by rw [Heap.next_put]; exact G.next, fun k h3 h4 => ?_, fun id h3 => ?_⟩, by rw [Act.put_def]; exact D.mono hle⟩
    · rw [hh]
      by_cases e : k = i
      · subst e
        rw [if_pos rfl, setL_same, if_pos rfl]
        by_cases e2 : k < q
        · rw [if_pos e2]
          refine (B.F.keepAt B.tok hk q e2 h1 fun j h5 h6 h7 => ?_).symm
          have hLj := (hvq j (by omega) h7).2 h6
          cases e3 : Nat.testBit (T.mk_ j) k with
          | false => rfl
          | true =>
            have := mask_in' B.tok I.closed (by omega) hLj e3
            rw [n.hl] at this; cases this
        · rw [if_neg e2, blk_of hk]
      · rw [if_neg (by omega), setL_ne L e]
        exact G.a k h3 h4
    · rw [hh, if_neg (h3 i hi (by rw [hk]; rfl))]
      exact G.o id h3
  · obtain ⟨h3, h4⟩ := setL_false h2
    rw [Ren.add_ne (by omega)]
    exact I.fresh k h1 h3
  · have S := B.sws i' j' h1
    rw [setL_ne L (fun e => by subst e; rw [S.ej] at hE; cases hE)] at h2
    exact setL_mono L _ (I.nosw i' j' h1 h2)

/-- an effect, all effects ahead of it done -/
theorem Inv.effect (B : Base C T t sw h0) (I : Inv C T t sw ρ0 h0 w0 ρ L a w) (n : Next_ T L i o) {x : FE} {v : DV} {dd : Defs} {h1 : Heap} (hk : t.KD i = .e x v dd h1) (hsw : ∀ j, sw = some (j, i) → L j = true) :
    OpSem C.P o a w fun a' w' => ∃ ρ', Inv C T t sw ρ0 h0 w0 ρ' (setL L i) a' w' := by
  have hi := n.lt
  have hst := B.F.st i o hi n.ho
  rw [hk] at hst
  obtain ⟨s1, s2, s3, s4, s5, s6, -⟩ := hst
  obtain ⟨g, g1, g2, g3, g4⟩ := I.heap
  have hE : (t.KD i).isE = true := by rw [hk]; rfl
  have hval : Valid T t L i := fun j h2 h3 => by
    constructor
    · intro h4
      rcases Nat.lt_or_ge j i with h5 | h5
      · exact h5
      · have hne : j ≠ i := fun e => by subst e; rw [n.hl] at h4; cases h4
        rcases B.F.ee i j h2 (by omega) hE h3 with h6 | h6
        · have := mask_in' B.tok I.closed h2 h4 h6
          rw [n.hl] at this; cases this
        · have := I.nosw i j h6 h4
          rw [n.hl] at this; cases this
    · intro h4
      rcases B.F.ee j i hi h4 h3 hE with h6 | h6
      · exact mask_in B.tok I.closed n.ho n.hr h6
      · exact hsw j h6
  obtain ⟨G, D⟩ := g4 i (by omega) hval
  have hsub := GH.hidSub B I n (by omega) G
  have hnx : (T.hid i (t.HD i)).next = g.next := by rw [hid_next, G.next]
  refine OpSem.mono (s3 ρ _ a w (n.agree B I) I.er (g1.sub hsub hnx)) fun a' w' ⟨ρ', u, dr, e1, e2, e3, e4, e5⟩ => ⟨ρ', ?_⟩
  subst e1
  -- the memory behind it
  obtain ⟨g', p1, p2⟩ := patch (fun id => if L (id - T.base) = true then (if Nat.testBit (T.mk_ i) (id - T.base) = true then h1.get id else g.get id) else none)
    (((List.range T.ops.length).filter fun k => (t.KD k).isA).map (T.base + ·)) h1
  have inl : ∀ id, id ∈ ((List.range T.ops.length).filter fun k => (t.KD k).isA).map (T.base + ·) ↔ ∃ k, k < T.ops.length ∧ (t.KD k).isA = true ∧ id = T.base + k := fun id => by
    simp only [List.mem_map, List.mem_filter, List.mem_range]
    constructor
    · rintro ⟨k, ⟨h2, h3⟩, rfl⟩; exact ⟨k, h2, h3, rfl⟩
    · rintro ⟨k, h2, h3, rfl⟩; exact ⟨k, ⟨h2, h3⟩, rfl⟩
  have pa : ∀ k, k < T.ops.length → (t.KD k).isA = true → g'.get (T.base + k) = if L k = true then (if Nat.testBit (T.mk_ i) k = true then h1.get (T.base + k) else g.get (T.base + k)) else none := fun k h2 h3 => by
    rw [p2, if_pos ((inl _).2 ⟨k, h2, h3, rfl⟩), Nat.add_sub_cancel_left]
  have po : ∀ id, (∀ k, k < T.ops.length → (t.KD k).isA = true → id ≠ T.base + k) → g'.get id = h1.get id := fun id h2 => by
    rw [p2, if_neg]
    rw [inl]
    rintro ⟨k, h3, h4, h5⟩
    exact h2 k h3 h4 h5
  obtain ⟨f1, f2⟩ := frame g1 hsub hnx e4 e5 (g' := g') (fun id ob hg => by
    by_cases hx : ∃ k, k < T.ops.length ∧ (t.KD k).isA = true ∧ id = T.base + k
    · obtain ⟨k, h2, h3, rfl⟩ := hx
      rw [pa k h2 h3] at hg
      by_cases hL : L k = true
      · rw [if_pos hL] at hg
        by_cases hb : Nat.testBit (T.mk_ i) k = true
        · rw [if_pos hb] at hg; exact .inl hg
        · rw [if_neg hb] at hg
          refine .inr ⟨hg, ?_⟩
          rw [hid_get, if_pos ⟨k, (B.F.isA B.tok h2 h3).1, rfl, by simpa using hb⟩]
      · rw [if_neg hL] at hg; cases hg
    · rw [po id (fun k h2 h3 h4 => hx ⟨k, h2, h3, h4⟩)] at hg
      exact .inl hg) p1
  have hnext : g.next ≤ h1.next := by rw [← hnx]; exact e5.next
  have hLi : ∀ k, k < T.ops.length → (t.KD k).isA = true → k ≠ i := fun k _ h3 e => by subst e; rw [hk] at h3; cases h3
  have hGH : GH T t (setL L i) (i + 1) g' := by
    refine ⟨by rw [p1, s6, backAll_next], fun k h2 h3 => ?_, fun id h2 => ?_⟩
    · rw [setL_ne L (hLi k h2 h3), pa k h2 h3]
      by_cases hL : L k = true
      · rw [if_pos hL, if_pos hL]
        have hmem := (B.F.isA B.tok h2 h3).1
        by_cases hb : Nat.testBit (T.mk_ i) k = true
        · have := mask_lt B.tok hi hb
          rw [if_pos hb, if_pos (by omega), s6, backAll_get, if_neg]
          rintro ⟨⟨k', k1, k2, k3⟩, -⟩
          have : k' = k := by omega
          subst this
          have k3' : Nat.testBit (T.mk_ i) k' = false := k3
          rw [hb] at k3'; cases k3'
        · have hb' : Nat.testBit (T.mk_ i) k = false := by simpa using hb
          rw [if_neg hb, G.a k h2 h3, if_pos hL]
          have hne := hLi k h2 h3
          by_cases e : k < i
          · rw [if_pos e, if_pos (by omega), s6, backAll_get]
            by_cases hs : ((t.HD i).get (T.base + k)).isSome = true
            · rw [if_pos ⟨⟨k, hmem, rfl, hb'⟩, hs⟩]
            · rw [if_neg (fun h => hs h.2)]
              have hn0 : (t.HD i).get (T.base + k) = none := by simpa using hs
              rw [hn0]
              refine (freshOk_spec s4 k hmem ?_).symm
              rw [hid_get]
              split
              · rfl
              · exact hn0
          · rw [if_neg e, if_neg (by omega)]
      · rw [if_neg hL, if_neg hL]
    · rw [po id h2, s6, backAll_get, if_neg]
      rintro ⟨⟨k, k1, k2, k3⟩, k4⟩
      subst k2
      have hkl : k < T.ops.length ∧ (t.KD k).isA = false := by
        rw [B.tok.as, aIdx_spec] at k1
        obtain ⟨-, ok, hok, -⟩ := k1
        have hlt := (List.getElem?_eq_some_iff.1 hok).1
        rw [Nat.sub_zero] at hlt
        refine ⟨hlt, ?_⟩
        cases ea : (t.KD k).isA with
        | false => rfl
        | true => exact absurd rfl (h2 k hlt ea)
      rw [B.F.deadAt B.tok B.dead i (by omega) k k1 (.inr hkl.2)] at k4
      cases k4
  have hval' : Valid T t (setL L i) (i + 1) := fun j h2 h3 => by
    by_cases e : j = i
    · subst e; rw [setL_same]; simp
    · rw [setL_ne L e, hval j h2 h3]; omega
  refine ⟨?_, ⟨g', f1, by rw [p1]; omega, g3.trans f2, fun q h2 h3 => ?_⟩, fun k h2 h3 => ?_, I.closed.set n, ⟨i + 1, by omega, hval'⟩, fun i' j' h2 h3 => ?_⟩
  · have hv : VR ρ' (t.KD i).val u := by rw [hk]; exact e2
    have E1 : ER ρ' T.N (envF T t L T.ops.length) { a with defers := dr ++ a.defers } := ⟨I.er.size, fun x => (I.er.tmp x).mono e5.le⟩
    exact (E1.put o.dst hv).ext (env_set B.tok I.closed n.ho n.hl)
  · obtain ⟨G2, D2⟩ := GH.uniq B.tok B.F hval' h3 (by omega) h2 hGH
    refine ⟨G2, ?_⟩
    rw [D2, s5, Act.put_def, pushD_eq]
    exact e3.append (D.mono e5.le)
  · obtain ⟨h4, h5⟩ := setL_false h3
    have hfr := I.fresh k h2 h4
    have hkl : k < T.ops.length := by
      rw [B.tok.as, aIdx_spec] at h2
      obtain ⟨-, ok, hok, -⟩ := h2
      have hlt := (List.getElem?_eq_some_iff.1 hok).1
      rwa [Nat.sub_zero] at hlt
    cases e : ρ' (T.base + k) with
    | none => rfl
    | some bi =>
      have := e5.new _ _ e hfr
      rw [hnx] at this
      omega
  · by_cases e : j' = i
    · subst e
      exact setL_mono L _ (hsw i' h2)
    · rw [setL_ne L e] at h3
      exact setL_mono L _ (I.nosw i' j' h2 h3)

end
end Go.Dm
end

section
namespace Go.Dm
variable {C : Ctx} {T : Tab} {t : Trc} {sw : Option (Nat × Nat)}

/-! two stores, apart, in either order -/
theorem setW_comm {w : World} {b b' : Nat} (o o' : Obj) (h : b ≠ b') : setW (setW w b o) b' o' = setW (setW w b' o') b o := by
  unfold setW
  congr 1
  apply Array.ext_getElem?
  intro j
  simp only [Array.getElem?_setIfInBounds, Array.size_setIfInBounds]
  by_cases e : b' = j
  · subst e
    rw [if_pos rfl, if_neg h, if_pos rfl]
  · rw [if_neg e, if_neg e]

theorem store_comm (P : Program) {w : World} {bA offA bB offB : Nat} {us vs : List Value} {cA cB : Array Value} {tA tB : TypeId} {frA frB : Nat × Nat} (hA : w.heap[bA]? = some (.cells cA tA frA))
    (hB : w.heap[bB]? = some (.cells cB tB frB)) (fA : ∀ k, k < cA.size → ¬ (frA.1 ≤ k ∧ k < frA.2)) (fB : ∀ k, k < cB.size → ¬ (frB.1 ≤ k ∧ k < frB.2)) (lA : offA + us.length ≤ cA.size) (lB : offB + vs.length ≤ cB.size)
    (vA : ∀ v ∈ us, v.cellV = true) (vB : ∀ v ∈ vs, v.cellV = true) (hap : bA ≠ bB ∨ offA + us.length ≤ offB ∨ offB + vs.length ≤ offA) :
    ∃ w1 w2 w3, (storeCells ⟨bA, offA, none⟩ us).run P w = .ok () w1 ∧ (storeCells ⟨bB, offB, none⟩ vs).run P w = .ok () w2 ∧ (storeCells ⟨bB, offB, none⟩ vs).run P w1 = .ok () w3 ∧
      (storeCells ⟨bA, offA, none⟩ us).run P w2 = .ok () w3 := by
  have ltA : bA < w.heap.size := (Array.getElem?_eq_some_iff.1 hA).1
  have ltB : bB < w.heap.size := (Array.getElem?_eq_some_iff.1 hB).1
  obtain ⟨c1, r1, s1, g1⟩ := run_storeCells_sim P bA offA tA frA us 0 w cA hA fA (by omega) vA
  obtain ⟨c2, r2, s2, g2⟩ := run_storeCells_sim P bB offB tB frB vs 0 w cB hB fB (by omega) vB
  by_cases e : bA = bB
  · subst e
    rw [hA] at hB; cases hB
    obtain ⟨c3, r3, s3, g3⟩ := run_storeCells_sim P bA offB tA frA vs 0 (setW w bA (.cells c1 tA frA)) c1 (setW_self _ _ ltA) (fun k hk => fA k (by omega)) (by omega) vB
    obtain ⟨c4, r4, s4, g4⟩ := run_storeCells_sim P bA offA tA frA us 0 (setW w bA (.cells c2 tA frA)) c2 (setW_self _ _ ltA) (fun k hk => fA k (by omega)) (by omega) vA
    rw [setW_setW] at r3 r4
    have ec : c3 = c4 := by
      apply Array.ext_getElem?
      intro k
      rw [g3 k, g4 k, g1 k, g2 k]
      have hap' : offA + us.length ≤ offB ∨ offB + vs.length ≤ offA := hap.resolve_left (fun h => h rfl)
      by_cases h1 : offB + 0 ≤ k ∧ k < offB + 0 + vs.length
      · rw [if_pos h1, if_pos h1]
        by_cases h2 : offA + 0 ≤ k ∧ k < offA + 0 + us.length
        · omega
        · rw [if_neg h2]
      · rw [if_neg h1, if_neg h1]
    subst ec
    exact ⟨_, _, _, r1, r2, r3, r4⟩
  · obtain ⟨c3, r3, s3, g3⟩ := run_storeCells_sim P bB offB tB frB vs 0 (setW w bA (.cells c1 tA frA)) cB (by rw [setW_ne _ _ _ (fun h => e h.symm)]; exact hB) fB (by omega) vB
    obtain ⟨c4, r4, s4, g4⟩ := run_storeCells_sim P bA offA tA frA us 0 (setW w bB (.cells c2 tB frB)) cA (by rw [setW_ne _ _ _ e]; exact hA) fA (by omega) vA
    have e3 : c3 = c2 := by
      apply Array.ext_getElem?
      intro k
      rw [g3 k, g2 k]
    have e4 : c4 = c1 := by
      apply Array.ext_getElem?
      intro k
      rw [g4 k, g1 k]
    subst e3 e4
    rw [setW_comm _ _ e] at r3
    exact ⟨_, _, _, r1, r2, r3, r4⟩

/-- a plain store, seen from both sides -/
theorem store_shape {S : St} {fr : E} {op : Op} {id off : Nat} {cs : List DV} (h : storeAtD S fr op = some (id, off, cs)) {x : FE} (hx : opF S op = .e x) {m : Heap} {r : ERes} (hr : x.f fr m = some r) :
    ∃ ty xa xv fa fv i, op = .store ty xa xv ∧ evC xa = some fa ∧ evC xv = some fv ∧ S.ty ty = some i ∧ fa.f fr = .ptr id off ∧ cs = (fv.f fr).cellsL ∧ cs.length = i.size ∧ ones cs = true ∧
      ∃ c n e g, m.get id = some (.cells c n e g false) ∧ off + cs.length ≤ n := by
  unfold storeAtD at h
  split at h
  · rename_i ty xa xv
    split at h
    · rename_i fa fv i h1 h2 h3
      split at h
      · rename_i id' off' h4
        rw [beqD] at h
        by_cases h5 : (fv.f fr).cellsL.length = i.size
        · rw [decide_eq_true h5] at h
          cases h
          simp only [opF, h1, h2] at hx
          cases hx
          obtain ⟨h', g1, -⟩ := skipE_some hr
          unfold storeVarD at g1
          rw [h4, h3] at g1
          simp only [beqD, h5, decide_true, cond_true] at g1
          unfold storeN at g1
          split at g1
          · rename_i c n e g hg
            cases hb : (Nat.ble (off + (fv.f fr).cellsL.length) n && ones (fv.f fr).cellsL) with
            | false => rw [hb] at g1; cases g1
            | true =>
              rw [Bool.and_eq_true] at hb
              exact ⟨ty, xa, xv, fa, fv, i, rfl, h1, h2, h3, h4, rfl, h5, hb.2, c, n, e, g, hg, Nat.le_of_ble_eq_true hb.1⟩
          · cases g1
        · rw [decide_eq_false h5] at h; cases h
      · cases h
    · cases h
  · cases h

theorem exec_store (ok : C.Ok) {ty : TypeId} {i : TypeInfo} {xa xv : Operand} {o : Oper} {a : Act} {A : Addr} {w w' : World} (ho : o.op = .store ty xa xv) (hi : C.S.ty ty = some i) (hA : a.eval xa = .pointer (some A))
    (hl : (a.eval xv).cells.size = i.size) (hr : (storeCells A (a.eval xv).cells.toList).run C.P w = .ok () w') : (execOp a.eval o).run C.P w = .ok .skip w' := by
  obtain ⟨dst, op, type, pos, after, guard⟩ := o
  simp only at ho
  subst ho
  show ((do Instr.storeAt ty (a.eval xa) (a.eval xv); pure .skip : Sem Next)).run C.P w = _
  unfold Instr.storeAt storeVar
  rw [hA]
  show ((do (do if (a.eval xv).cells.size ≠ (← sizeOf ty) then stuck "storeVar: the value has not the size of the variable"
                storeCells A (a.eval xv).cells.toList : Sem Unit); pure .skip : Sem Next)).run C.P w = _
  rw [Sem.run_bind, Sem.run_bind, run_sizeOf' ok hi]
  simp only [Result.andThen]
  rw [if_neg (by rw [hl]; simp), hr]
  rfl

/-- what is known of the operation `oi` while the store `oj` has run ahead of it -/
structure Inv2 (C : Ctx) (T : Tab) (t : Trc) (sw : Option (Nat × Nat)) (ρ0 : Ren) (h0 : Heap) (w0 : World) (j : Nat) (oj : Oper) (ρ : Ren) (L : Nat → Bool) (a : Act) (w : World) : Prop where
  nj : Next_ T L j oj
  i : ∃ i, sw = some (i, j) ∧ L i = false
  w : ∃ w1, Inv C T t sw ρ0 h0 w0 ρ L a w1 ∧ (execOp a.eval oj).run C.P w1 = .ok .skip w

section
variable {ρ0 ρ : Ren} {h0 : Heap} {w0 w : World} {L : Nat → Bool} {a : Act} {i j : Nat} {oi oj : Oper}

theorem OpSem.skip {P : Program} {o : Oper} {K : Act → World → Prop} {w' : World} (h : OpSem P o a w K) (hr : (execOp a.eval o).run P w = .ok .skip w') : K (a.put o.dst undef) w' := by
  unfold OpSem at h
  rw [hr] at h
  exact h

/-- the two stores of such a pair, in truth -/
theorem swap_runs (ok : C.Ok) (B : Base C T t sw h0) (I : Inv C T t sw ρ0 h0 w0 ρ L a w) (hs : sw = some (i, j)) (ni : i < T.ops.length) (hoi : T.ops[i]? = some oi) (hli : L i = false)
    (nj : Next_ T L j oj) : (∃ w', (execOp a.eval oj).run C.P w = .ok .skip w') ∧
    ((∀ e ∈ oi.after, Region.binds .any e = true → L e.on = true) → ∃ w1 w2 w3, (execOp a.eval oi).run C.P w = .ok .skip w1 ∧ (execOp a.eval oj).run C.P w = .ok .skip w2 ∧ (execOp a.eval oj).run C.P w1 = .ok .skip w3 ∧
      (execOp a.eval oi).run C.P w2 = .ok .skip w3) := by
  have S := B.sws i j hs
  have hj := nj.lt
  obtain ⟨g, g1, g2, g3, g4⟩ := I.heap
  have hval : Valid T t L i := fun k h1 h2 => by
    constructor
    · intro h3
      rcases Nat.lt_or_ge k i with h4 | h4
      · exact h4
      · have hne : k ≠ i := fun e => by subst e; rw [hli] at h3; cases h3
        have hnj : k ≠ j := fun e => by subst e; rw [nj.hl] at h3; cases h3
        rcases B.F.ee i k h1 (by omega) S.ei h2 with h6 | h6
        · have := mask_in' B.tok I.closed h1 h3 h6
          rw [hli] at this; cases this
        · rw [hs] at h6; cases h6
          exact absurd rfl hnj
    · intro h3
      have hlt := S.lt
      exact mask_in B.tok I.closed nj.ho nj.hr (S.others k (by omega) h2 (by omega))
  obtain ⟨G, D⟩ := g4 i (by omega) hval
  have stj := B.F.st j oj hj nj.ho
  obtain ⟨x2, v2, d2, m2, hk2⟩ : ∃ x v dd h1, t.KD j = .e x v dd h1 := by
    have := S.ej
    cases h : t.KD j <;> rw [h] at this <;> first | (cases this; done) | exact ⟨_, _, _, _, rfl⟩
  rw [hk2] at stj
  obtain ⟨-, t2, -⟩ := stj
  have early := S.early x2 v2 d2 m2 hk2
  obtain ⟨r2, hr2⟩ := Option.isSome_iff_exists.1 early
  obtain ⟨⟨id1, off1, cs1⟩, ⟨id2, off2, cs2⟩, a1, a2, a3⟩ := S.apart oi oj hoi nj.ho
  obtain ⟨ty2, xa2, xv2, fa2, fv2, i2, q1, q2, q3, q4, q5, q6, q7, q8, c2, n2, e2, gr2, q9, q10⟩ := store_shape a2 t2 hr2
  have agj := nj.agree B I
  have sub2 := GH.hidSub B I nj (by omega) G _ _ q9
  have addr2 : VR ρ (.ptr id2 off2) (a.eval xa2) := by
    have := I.er.ev q2
    rw [← evC_congr q2 (fun x hx => agj x (by rw [q1, hx]; simp [Op.operands])), q5] at this
    exact this
  have val2 : VRs ρ cs2 (a.eval xv2).cells.toList := by
    have := (I.er.ev q3).cells
    rw [← evC_congr q3 (fun x hx => agj x (by rw [q1, hx]; simp [Op.operands])), ← q6] at this
    exact this
  generalize hA2 : a.eval xa2 = A2 at addr2
  cases addr2 with
  | ptr _ _ b2 hb2 =>
    obtain ⟨d2', fr2, k1, k2, k3, k4, k5, k6, k7⟩ := g1.toHL.cell sub2 hb2
    have hl2 := val2.length
    have len2 : (a.eval xv2).cells.size = i2.size := by
      have : (a.eval xv2).cells.toList.length = i2.size := by rw [← hl2, q7]
      simpa using this
    obtain ⟨c2', rr2, ss2, gg2⟩ := run_storeCells_sim C.P b2.b off2 e2 fr2 (a.eval xv2).cells.toList 0 w d2' k1 (fun k hk => by have := k5 rfl; omega) (by omega) (val2.cellV q8)
    refine ⟨⟨_, exec_store ok q1 q4 hA2 len2 rr2⟩, fun hri => ?_⟩
    have nI : Next_ T L i oi := ⟨hoi, hli, hri⟩
    have sti := B.F.st i oi ni hoi
    obtain ⟨x1, v1, d1, m1, hk1⟩ : ∃ x v dd h1, t.KD i = .e x v dd h1 := by
      have := S.ei
      cases h : t.KD i <;> rw [h] at this <;> first | (cases this; done) | exact ⟨_, _, _, _, rfl⟩
    rw [hk1] at sti
    obtain ⟨-, t1, -, -, -, -, ss1⟩ := sti
    -- the store i: its shape out of its own run
    have agi := nI.agree B I
    obtain ⟨r1, hr1⟩ := Option.isSome_iff_exists.1 ss1
    obtain ⟨ty1, xa1, xv1, fa1, fv1, i1, p1, p2, p3, p4, p5, p6, p7, p8, c1, n1, e1, gr1, p9, p10⟩ := store_shape a1 t1 hr1
    have sub1 := GH.hidSub B I nI (by omega) G _ _ p9
    have addr1 : VR ρ (.ptr id1 off1) (a.eval xa1) := by
      have := I.er.ev p2
      rw [← evC_congr p2 (fun x hx => agi x (by rw [p1, hx]; simp [Op.operands])), p5] at this
      exact this
    have val1 : VRs ρ cs1 (a.eval xv1).cells.toList := by
      have := (I.er.ev p3).cells
      rw [← evC_congr p3 (fun x hx => agi x (by rw [p1, hx]; simp [Op.operands])), ← p6] at this
      exact this
    generalize hA1 : a.eval xa1 = A1 at addr1
    cases addr1 with
    | ptr _ _ b1 hb1 =>
      obtain ⟨d1', fr1, l1, l2, l3, l4, l5, l6, l7⟩ := g1.toHL.cell sub1 hb1
      have hl1 := val1.length
      have len1 : (a.eval xv1).cells.size = i1.size := by
        have : (a.eval xv1).cells.toList.length = i1.size := by rw [← hl1, p7]
        simpa using this
      have hap : b1.b ≠ b2.b ∨ off1 + (a.eval xv1).cells.toList.length ≤ off2 ∨ off2 + (a.eval xv2).cells.toList.length ≤ off1 := by
        unfold apartD at a3
        simp only [Bool.or_eq_true, Bool.not_eq_true', beqD, bleD, decide_eq_true_eq, decide_eq_false_iff_not] at a3
        rcases a3 with (a3 | a3) | a3
        · exact .inl fun h => a3 (g1.inj _ _ _ _ _ _ sub1 sub2 hb1 hb2 h)
        · exact .inr (.inl (by omega))
        · exact .inr (.inr (by omega))
      obtain ⟨w1, w2, w3, z1, z2, z3, z4⟩ := store_comm C.P l1 k1 (fun k hk => by have := l5 rfl; omega) (fun k hk => by have := k5 rfl; omega) (by omega) (by omega) (val1.cellV p8) (val2.cellV q8) hap
      exact ⟨w1, w2, w3, exec_store ok p1 p4 hA1 len1 z1, exec_store ok q1 q4 hA2 len2 z2, exec_store ok q1 q4 hA2 len2 z3, exec_store ok p1 p4 hA1 len1 z4⟩

end
end Go.Dm
end

section
namespace Go.Dm
variable {C : Ctx} {T : Tab} {t : Trc} {sw : Option (Nat × Nat)}

section
variable {ρ0 ρ : Ren} {h0 : Heap} {w0 w : World} {L : Nat → Bool} {a : Act} {i j : Nat} {oi oj o : Oper}

theorem setL_comm (L : Nat → Bool) (i j : Nat) : setL (setL L j) i = setL (setL L i) j := by
  funext k
  unfold setL
  by_cases h1 : k = i <;> by_cases h2 : k = j <;> simp [h1, h2]

theorem Next_.edge (B : Base C T t sw h0) (n : Next_ T L i o) {e : Edge} (he : e ∈ o.after) (hb : Region.binds .any e = true) : e.on < i := by
  have := edges_spec T.ops 0 B.tok.ed i o n.ho e he hb
  omega

theorem storeAt_store {S : St} {fr : E} {op : Op} {r : Nat × Nat × List DV} (h : storeAtD S fr op = some r) : ∃ ty xa xv, op = .store ty xa xv := by
  unfold storeAtD at h
  split at h
  · exact ⟨_, _, _, rfl⟩
  · cases h

/-- the later store does not mind that i has run -/
theorem keep_last (B : Base C T t sw h0) (I : Inv C T t sw ρ0 h0 w0 ρ L a w) (n2 : Next_ T L j oj) (n : Next_ T L i o) (hst : ∃ ty xa xv, oj.op = .store ty xa xv) (hlt : i < j) :
    Nat.testBit (T.mk_ j) i = false ∧ ∀ (b : Act) (u : Value), b.tmps = a.tmps → execOp (b.put o.dst u).eval oj = execOp a.eval oj := by
  have hb : Nat.testBit (T.mk_ j) i = false := by
    cases e : Nat.testBit (T.mk_ j) i with
    | false => rfl
    | true => have := mask_in B.tok I.closed n2.ho n2.hr e; rw [n.hl] at this; cases this
  refine ⟨hb, fun b u hbt => execOp_congr oj (fun cs b h => ?_) fun x hx => ?_⟩
  · obtain ⟨ty, xa, xv, h2⟩ := hst
    rw [h2] at h; cases h
  · have hap := apart_of B.tok n2.ho n.ho hlt hb
    have e1 : (b.put o.dst u).eval x = b.eval x := Act.eval_put fun d hd hxd => by
      refine (hap.a d hd).1 ?_
      subst hxd
      unfold readsOf
      exact List.mem_append_left _ (List.mem_filterMap.2 ⟨.tmp d, by simpa using hx, rfl⟩)
    rw [e1]
    cases x <;> simp [Act.eval, hbt]

/-- the state of a drawn region -/
def StR (C : Ctx) (T : Tab) (t : Trc) (sw : Option (Nat × Nat)) (ρ0 : Ren) (h0 : Heap) (w0 : World) (L : Nat → Bool) (a : Act) (w : World) : Prop :=
  (∃ ρ, Inv C T t sw ρ0 h0 w0 ρ L a w) ∨ (∃ ρ j oj L', L = setL L' j ∧ Inv2 C T t sw ρ0 h0 w0 j oj ρ L' a w)

/-- one operation that may run, runs -/
theorem StR.step (ok : C.Ok) (B : Base C T t sw h0) {ops : Array Oper} (hops : T.ops = ops.toList) (S : StR C T t sw ρ0 h0 w0 L a w) (n : Next_ T L i o) :
    (Region.wanted o (yielded ops a.tmps) = true ∧ OpSem C.P o a w (StR C T t sw ρ0 h0 w0 (setL L i))) ∨
    (Region.wanted o (yielded ops a.tmps) = false ∧ StR C T t sw ρ0 h0 w0 (setL L i) (a.put o.dst undef) w) := by
  have hi := n.lt
  have hst := B.F.st i o hi n.ho
  rcases S with ⟨ρ, I⟩ | ⟨ρ, j, oj, L', rfl, I2⟩
  · have hw : Region.wanted o (yielded ops a.tmps) = wantedD T.ops (t.EV i) o := by
      rw [wanted_sim I.er, ← hops, n.wanted B I]
    cases hk : t.KD i with
    | skip =>
      rw [hk] at hst
      refine .inr ⟨by rw [hw]; exact hst.1, .inl ⟨ρ, I.put B n (by rw [hk]; rfl) (by rw [hk]; rfl) ?_⟩⟩
      rw [hk]; exact VR.undef
    | q x v =>
      rw [hk] at hst
      obtain ⟨u, h1, h2⟩ := I.quiet ok B n hk
      refine .inl ⟨by rw [hw]; exact hst.1, ?_⟩
      unfold OpSem; rw [h2]
      exact .inl ⟨ρ, I.put B n (by rw [hk]; rfl) (by rw [hk]; rfl) (by rw [hk]; exact h1)⟩
    | a x v b =>
      rw [hk] at hst
      obtain ⟨u, w', ρ', h1, h2⟩ := I.alloc ok B n hk
      refine .inl ⟨by rw [hw]; exact hst.1, ?_⟩
      unfold OpSem; rw [h1]
      exact .inl ⟨ρ', h2⟩
    | e x v dd h1 =>
      rw [hk] at hst
      refine .inl ⟨by rw [hw]; exact hst.1, ?_⟩
      by_cases hs : ∃ i0, sw = some (i0, i) ∧ L i0 = false
      · obtain ⟨i0, s1, s2⟩ := hs
        have S := B.sws i0 i s1
        have hlt0 := S.lt
        obtain ⟨⟨w', r1⟩, -⟩ := swap_runs ok B I s1 (by omega) (List.getElem?_eq_getElem (show i0 < T.ops.length by omega)) s2 n
        unfold OpSem; rw [r1]
        refine .inr ⟨ρ, i, o, L, rfl, n, ⟨i0, s1, s2⟩, w, by rw [S.dst o n.ho]; exact I, ?_⟩
        rw [S.dst o n.ho]
        exact r1
      · refine (I.effect B n hk fun j hj => ?_).mono fun a' w' h => .inl h
        cases e : L j with
        | true => rfl
        | false => exact absurd ⟨j, hj, e⟩ hs
  · obtain ⟨nj, ⟨i0, s1, s2⟩, w1, I, r1⟩ := I2
    have Sw := B.sws i0 j s1
    obtain ⟨hli', hne⟩ := setL_false n.hl
    have hlast := Sw.last
    have hltj : i < j := by omega
    have n' : Next_ T L' i o := by
      refine ⟨n.ho, hli', fun e he hb => ?_⟩
      have h1 := n.hr e he hb
      have h2 := n.edge B he hb
      rw [setL_ne L' (by omega)] at h1
      exact h1
    have hw : Region.wanted o (yielded ops a.tmps) = wantedD T.ops (t.EV i) o := by
      rw [wanted_sim I.er, ← hops, n'.wanted B I]
    have hi0 : i0 < T.ops.length := by have := Sw.lt; omega
    obtain ⟨ra, rb, -, ra2, -⟩ := Sw.apart T.ops[i0] oj (List.getElem?_eq_getElem hi0) nj.ho
    have hstj := storeAt_store ra2
    obtain ⟨hb, hkeep⟩ := keep_last B I nj n' hstj hltj
    have nj' : Next_ T (setL L' i) j oj := ⟨nj.ho, by rw [setL_ne L' (by omega)]; exact nj.hl, fun e he hb => setL_mono L' _ (nj.hr e he hb)⟩
    have hdst := Sw.dst oj nj.ho
    cases hk : t.KD i with
    | skip =>
      rw [hk] at hst
      refine .inr ⟨by rw [hw]; exact hst.1, .inr ⟨ρ, j, oj, setL L' i, setL_comm _ _ _, nj', ⟨i0, s1, ?_⟩, w1, I.put B n' (by rw [hk]; rfl) (by rw [hk]; rfl) (by rw [hk]; exact VR.undef), ?_⟩⟩
      · rw [setL_ne L' (fun e => by subst e; have := Sw.ei; rw [hk] at this; cases this)]; exact s2
      · rw [hkeep a undef rfl]; exact r1
    | q x v =>
      rw [hk] at hst
      obtain ⟨t1, t2, t3, -, -⟩ := hst
      have hp := Sw.pure i x v hltj hk hb
      have hcong := opF_congr C.S o.op _ _ (n'.agree B I)
      rw [t2] at hcong
      obtain ⟨u, g1, g2⟩ := opQ_sim (w := w) ok (HL.empty ρ 0 w) I.er t2 (by rw [← hcong]; exact hp)
      refine .inl ⟨by rw [hw]; exact t1, ?_⟩
      unfold OpSem; rw [g2]
      refine .inr ⟨ρ, j, oj, setL L' i, setL_comm _ _ _, nj', ⟨i0, s1, ?_⟩, w1, I.put B n' (by rw [hk]; rfl) (by rw [hk]; rfl) (by rw [hk]; exact g1), ?_⟩
      · rw [setL_ne L' (fun e => by subst e; have := Sw.ei; rw [hk] at this; cases this)]; exact s2
      · rw [hkeep a u rfl]; exact r1
    | a x v b =>
      rw [hk] at hst
      have := Sw.as i (B.tok.mem n.ho hst.2.1)
      rw [hb] at this; cases this
    | e x v dd h1 =>
      have hei : i = i0 := by
        cases Nat.decEq i i0 with
        | isTrue h => exact h
        | isFalse h =>
          have := Sw.others i hltj (by rw [hk]; rfl) h
          rw [hb] at this; cases this
      subst hei
      rw [hk] at hst
      refine .inl ⟨by rw [hw]; exact hst.1, ?_⟩
      obtain ⟨-, hrun⟩ := swap_runs ok B I s1 hi n.ho hli' nj
      obtain ⟨w1', w2', w3, z1, z2, z3, z4⟩ := hrun n'.hr
      rw [r1] at z2
      cases z2
      obtain ⟨ρ1, I1⟩ := (I.effect B n' hk (fun j' hj' => by rw [s1] at hj'; cases hj'; omega)).skip z1
      obtain ⟨x2, v2, d2, m2, hk2⟩ : ∃ x v dd h1, t.KD j = .e x v dd h1 := by
        have := Sw.ej
        cases h : t.KD j <;> rw [h] at this <;> first | (cases this; done) | exact ⟨_, _, _, _, rfl⟩
      have z3' : (execOp (a.put o.dst undef).eval oj).run C.P w1' = .ok .skip w3 := by rw [hkeep a undef rfl]; exact z3
      obtain ⟨ρ2, I2⟩ := (I1.effect B nj' hk2 (fun j' hj' => by rw [s1] at hj'; cases hj'; exact setL_same _ _)).skip z3'
      unfold OpSem; rw [z4]
      refine .inl ⟨ρ2, ?_⟩
      rw [setL_comm]
      rw [hdst] at I2
      exact I2

end
end Go.Dm
end

section
namespace Go.Dm
variable {C : Ctx} {T : Tab} {t : Trc} {sw : Option (Nat × Nat)}

section
variable {ρ0 ρ : Ren} {h0 : Heap} {w0 w : World} {L : Nat → Bool} {a : Act}

theorem listed_set {listed : Array Bool} {i : Nat} (hi : i < listed.size) : (fun k => (listed.setIfInBounds i true).getD k false) = setL (fun k => listed.getD k false) i := by
  funext k
  unfold setL
  by_cases e : k = i
  · subst e
    rw [if_pos rfl]
    simp [Array.getD_eq_getD_getElem?, hi]
  · rw [if_neg e]
    have : ¬ i = k := fun h => e h.symm
    simp [Array.getD_eq_getD_getElem?, this]

theorem length_erase {l : List Nat} {i : Nat} (h : i ∈ l) : (l.erase i).length + 1 = l.length := by
  rw [List.length_erase_of_mem h]
  have := List.length_pos_of_mem h
  omega

theorem reg_go (ok : C.Ok) (B : Base C T t sw h0) {ops : Array Oper} (hops : T.ops = ops.toList) {K : Act → World → Prop}
    (hK : ∀ L a w ρ, (∀ k, k < ops.size → L k = true) → Inv C T t sw ρ0 h0 w0 ρ L a w → K a w) : ∀ (fuel tt : Nat) (listed : Array Bool) (S : List Nat) (a : Act) (w : World), listed.size = ops.size →
    (∀ k, k < ops.size → listed.getD k false = false → k ∈ S) → S.length ≤ fuel → StR C T t sw ρ0 h0 w0 (fun k => listed.getD k false) a w →
    OpsSem C.P ops K (Region.linearise.go .any ops fuel tt listed []) a w := by
  have hlen : T.ops.length = ops.size := by rw [hops]; simp
  have final : ∀ (listed : Array Bool) (a : Act) (w : World), (∀ k, k < ops.size → listed.getD k false = true) → StR C T t sw ρ0 h0 w0 (fun k => listed.getD k false) a w → K a w := fun listed a w hall S => by
    rcases S with ⟨ρ, I⟩ | ⟨ρ, j, oj, L', hL, I2⟩
    · exact hK _ a w ρ hall I
    · obtain ⟨nj, ⟨i0, s1, s2⟩, -⟩ := I2
      have S2 := B.sws i0 j s1
      have hl := S2.last
      have hlt := S2.lt
      have := congrFun hL i0
      rw [hall i0 (by omega), setL_ne L' (by omega), s2] at this
      cases this
  intro fuel
  induction fuel with
  | zero =>
    intro tt listed S a w hsz hS hf St
    have hnil : S = [] := by cases S with
      | nil => rfl
      | cons x l => simp at hf
    subst hnil
    show K a w
    refine final listed a w (fun k hk => ?_) St
    cases e : listed.getD k false with
    | true => rfl
    | false => have := hS k hk e; simp at this
  | succ fuel ih =>
    intro tt listed S a w hsz hS hf St
    simp only [Region.linearise.go]
    change OpsSem C.P ops K (match (Region.ready .any ops listed)[tt % (Region.ready .any ops listed).length]? with
      | some i => Region.linearise.go .any ops fuel (tt / (Region.ready .any ops listed).length) (listed.setIfInBounds i true) [i]
      | none => [].reverse) a w
    cases hi : (Region.ready .any ops listed)[tt % (Region.ready .any ops listed).length]? with
    | none =>
      have hnil : Region.ready .any ops listed = [] := by
        cases hr : Region.ready .any ops listed with
        | nil => rfl
        | cons x xs =>
          rw [hr] at hi
          have hlt : tt % (x :: xs).length < (x :: xs).length := Nat.mod_lt _ (by simp)
          have := List.getElem?_eq_none_iff.1 hi
          omega
      show K a w
      refine final listed a w (fun k hk => ?_) St
      cases e : listed.getD k false with
      | true => rfl
      | false =>
        obtain ⟨j, j1, ⟨j2, j3⟩, j4⟩ := least (fun k => k < ops.size ∧ listed.getD k false = false) k ⟨hk, e⟩
        have hm : j ∈ Region.ready .any ops listed := by
          refine mem_ready.2 ⟨?_, ops[j], Array.getElem?_eq_getElem j2, fun ed he hb => ?_⟩
          · have : j < listed.size := by omega
            simpa [Array.getD_eq_getD_getElem?, this] using j3
          · have hlt := edges_spec T.ops 0 B.tok.ed j ops[j] (by rw [hops]; simp [j2]) ed he hb
            cases e2 : listed.getD ed.on false with
            | true => rfl
            | false => exact absurd ⟨by omega, e2⟩ (j4 ed.on (by omega))
        rw [hnil] at hm
        simp at hm
    | some i =>
      have hm := List.mem_of_getElem? hi
      obtain ⟨m1, o, ho, m2⟩ := mem_ready.1 hm
      have hlt : i < ops.size := (Array.getElem?_eq_some_iff.1 ho).1
      have hl : listed.getD i false = false := by
        have : i < listed.size := by omega
        simpa [Array.getD_eq_getD_getElem?, this] using m1
      simp only []
      rw [linearise_go_acc, List.reverse_singleton, List.singleton_append]
      refine ⟨o, ho, ?_⟩
      have n : Next_ T (fun k => listed.getD k false) i o := ⟨by rw [hops]; simpa using ho, hl, m2⟩
      have step : ∀ (a' : Act) (w' : World), StR C T t sw ρ0 h0 w0 (setL (fun k => listed.getD k false) i) a' w' →
          OpsSem C.P ops K (Region.linearise.go .any ops fuel (tt / (Region.ready .any ops listed).length) (listed.setIfInBounds i true) []) a' w' := fun a' w' h => by
        have hiS := hS i hlt hl
        refine ih _ _ (S.erase i) a' w' (by simpa using hsz) (fun k hk hl2 => ?_) (by have := length_erase hiS; omega) (by rw [listed_set (by omega)]; exact h)
        have : setL (fun k => listed.getD k false) i k = false := by
          have := congrFun (listed_set (listed := listed) (i := i) (by omega)) k
          rw [← this]; exact hl2
        obtain ⟨h1, h2⟩ := setL_false this
        exact (List.mem_erase_of_ne h2).2 (hS k hk h1)
      rcases St.step ok B hops n with ⟨h1, h2⟩ | ⟨h1, h2⟩
      · exact .inl ⟨h1, h2.mono step⟩
      · exact .inr ⟨h1, step _ _ h2⟩

end

/-- a drawn region, in whatever order -/
def SReg (C : Ctx) (N : Nat) (ops : Array Oper) (e : E) (ds : Defs) (h : Heap) (e' : E) (ds' : Defs) (h' : Heap) : Prop :=
  ∀ (ρ : Ren) (a : Act) (w : World), Rel C ρ N e ds h a w → ∀ tt, OpsSem C.P ops (fun a' w' => ∃ ρ', Rel C ρ' N e' ds' h' a' w' ∧ Stp ρ h w ρ' h' w') (Region.schedule true ops tt) a w

theorem regionD_sound {R : Type} {ih : Run R} (ok : C.Ok) (hc : CallsOk C ih) {N : Nat} {ops : Array Oper} {e : E} {ds : Defs} {h : Heap} {k : E → Defs → Heap → Option R} {r : R}
    (hr : regionD ih C.S N ops.toList e ds h k = some r) : ∃ e' ds' h', SReg C N ops e ds h e' ds' h' ∧ k e' ds' h' = some r := by
  obtain ⟨nx, bl⟩ := h
  have hr2 : (bif edgesOk ops.toList 0 && tmpsOk ops.toList (masks [] ops.toList) ops.toList 0 then
      opsD ih C.S N ops.toList nx (masks [] ops.toList) (aIdx C.S ops.toList 0) (dosC C.S ops.toList (masks [] ops.toList) ops.toList 0) ⟨e, ds, ⟨Nat.add nx ops.toList.length, bl⟩, [], []⟩ k else none) = some r := hr
  clear hr
  cases hb : (edgesOk ops.toList 0 && tmpsOk ops.toList (masks [] ops.toList) ops.toList 0) with
  | false => rw [hb] at hr2; cases hr2
  | true =>
    rw [hb] at hr2
    rw [Bool.and_eq_true] at hb
    let T : Tab := ⟨N, ops.toList, nx, masks [] ops.toList, aIdx C.S ops.toList 0⟩
    have tok : TabOk C T := ⟨hb.1, hb.2, rfl, rfl⟩
    let t0 : Trc := ⟨fun _ => e, fun _ => ds, fun _ => ⟨nx + ops.toList.length, bl⟩, fun _ => .skip⟩
    have F0 : Facts C T t0 none 0 := ⟨fun _ _ h => by omega, fun _ _ h => by omega, fun _ _ _ _ h => by omega, fun _ _ _ _ h => by omega, fun _ _ h => by omega⟩
    obtain ⟨t, sw, g1, g2, g3, g4, g5, g6⟩ := opsD_facts (T := T) ok hc ops.toList 0 t0 [] [] (fun i => by rw [Nat.zero_add]) (by rw [Nat.zero_add]) F0 (fun _ _ _ h => by omega) ⟨fun _ h => by simp at h, fun _ h => by omega⟩ hr2
    have hD0 : t.HD 0 = ⟨nx + ops.toList.length, bl⟩ := g5
    refine ⟨_, _, _, fun ρ a w Rl tt => ?_, g6⟩
    have hlen : T.ops.length = ops.size := by show ops.toList.length = _; simp
    have hget : ∀ id, (t.HD 0).get id = (⟨nx, bl⟩ : Heap).get id := fun id => by rw [hD0]; rfl
    have free : ∀ id, nx ≤ id → (t.HD 0).get id = none := fun id hid => by
      rw [hget]
      cases hg : (⟨nx, bl⟩ : Heap).get id with
      | none => rfl
      | some o =>
        obtain ⟨i, ro, q1, -⟩ := Rl.hr.live id o hg
        rw [Rl.hr.next id hid] at q1; cases q1
    have B : Base C T t sw ⟨nx, bl⟩ := ⟨tok, g1, fun k _ => free _ (Nat.le_add_right _ _), rfl, g2⟩
    have HR0 : HR C ρ (t.HD 0) w := ⟨⟨fun id o hg => Rl.hr.live id o (by rw [← hget]; exact hg), fun id id' o o' i i' h1 h2 => Rl.hr.inj id id' o o' i i' (by rw [← hget]; exact h1) (by rw [← hget]; exact h2)⟩,
      fun id hid => Rl.hr.next id (by rw [hD0] at hid; show nx ≤ id; have : nx + ops.toList.length ≤ id := hid; omega), Rl.hr.base, Rl.hr.low, Rl.hr.old⟩
    have S0 : Stp ρ ⟨nx, bl⟩ w ρ (t.HD 0) w := ⟨Keeps.refl _ _ _, Ren.le_refl _, by rw [hD0]; exact Nat.le_add_right _ _, fun id o i h1 h2 _ => ⟨id, o, i, by rw [← hget]; exact h1, h2, rfl⟩,
      (fun id i h1 h2 => by rw [h2] at h1; cases h1), fun id _ h2 => by rw [hget]; exact h2⟩
    have envNone : ∀ p, envF T t (fun _ => false) p = t.EV 0 := by
      intro p
      induction p with
      | zero => rfl
      | succ p ih =>
        unfold envF
        split
        · simp [ih]
        · exact ih
    have val0 : Valid T t (fun _ => false) 0 := fun j _ _ => by simp
    have I0 : Inv C T t sw ρ ⟨nx, bl⟩ w ρ (fun _ => false) a w := by
      refine ⟨by rw [envNone, g3]; exact Rl.er, ⟨t.HD 0, HR0, by rw [hD0]; exact Nat.le_refl _, S0, fun q h1 h2 => ?_⟩, fun k hk _ => Rl.hr.next _ (Nat.le_add_right _ _), (fun _ _ _ h => by cases h), ⟨0, Nat.zero_le _, val0⟩,
        (fun _ _ _ h => by cases h)⟩
      have G0 : GH T t (fun _ => false) 0 (t.HD 0) := ⟨rfl, fun k _ _ => by rw [free _ (Nat.le_add_right _ _)]; simp, fun _ _ => rfl⟩
      obtain ⟨G, D⟩ := GH.uniq tok g1 val0 h2 (Nat.zero_le _) h1 G0
      refine ⟨G, ?_⟩
      rw [D, g4]
      exact Rl.dr
    have hsched : Region.schedule true ops tt = Region.linearise .any ops tt := by simp [Region.schedule]
    rw [hsched]
    have hrep : (fun k => (Array.replicate ops.size false).getD k false) = fun _ => false := by
      funext k
      simp only [Array.getD_eq_getD_getElem?, Array.getElem?_replicate]
      split <;> rfl
    refine reg_go (ρ0 := ρ) (w0 := w) ok B rfl (fun L a' w' ρ' hall I => ?_) ops.size tt (Array.replicate ops.size false) (List.range ops.size) a w (by simp) (fun k hk _ => by simpa using hk) (by simp) (by rw [hrep]; exact .inl ⟨ρ, I0⟩)
    -- all have run
    obtain ⟨g, q1, q2, q3, q4⟩ := I.heap
    have hval : Valid T t L T.ops.length := fun j h1 _ => ⟨fun _ => h1, fun _ => hall j (by rw [← hlen]; exact h1)⟩
    obtain ⟨G, D⟩ := q4 T.ops.length (Nat.le_refl _) hval
    have hgg : ∀ id, (t.HD T.ops.length).get id = g.get id := fun id => by
      by_cases hx : ∃ k, k < T.ops.length ∧ (t.KD k).isA = true ∧ id = T.base + k
      · obtain ⟨k, k1, k2, rfl⟩ := hx
        rw [G.a k k1 k2, if_pos (hall k (by rw [← hlen]; exact k1)), if_pos k1]
      · rw [G.o id (fun k k1 k2 k3 => hx ⟨k, k1, k2, k3⟩)]
    have envAll : ∀ p, p ≤ T.ops.length → envF T t L p = t.EV p := by
      intro p
      induction p with
      | zero => intro _; rfl
      | succ p ih =>
        intro hp
        have hop : T.ops[p]? = some T.ops[p] := List.getElem?_eq_getElem (by omega)
        unfold envF
        rw [hop]
        simp only
        rw [if_pos (hall p (by rw [← hlen]; omega)), ih (by omega), g1.ev p _ (by omega) hop]
    refine ⟨ρ', ⟨?_, D, ?_⟩, ?_⟩
    · have := I.er
      rw [envAll _ (Nat.le_refl _)] at this
      exact this
    · exact q1.sub (fun id o h => by rw [← hgg]; exact h) G.next.symm
    · exact q3.ext G.next.symm hgg

end Go.Dm
end

section
namespace Go.Dm
variable {C : Ctx}

/-! the results of a call -/
theorem VRs.single {ρ : Ren} {d : List DV} {v : List Value} (h : VRs ρ d v) : VR ρ (oneRes d) (if hh : v.toArray.size = 1 then v.toArray[0] else .tuple v.toArray) := by
  cases h with
  | nil => exact .tuple _ _ .nil
  | cons d v ds vs hd hs =>
    cases hs with
    | nil => simpa [oneRes] using hd
    | cons d2 v2 ds2 vs2 hd2 hs2 =>
      rw [dif_neg (by simp)]
      exact .tuple _ _ (.cons _ _ _ _ hd (.cons _ _ _ _ hd2 hs2))

theorem resD_sim (ok : C.Ok) {ρ : Ren} {N : Nat} {e : E} {h : Heap} {a : Act} {w : World} (E1 : ER ρ N e a) (H : HL ρ h w) : ∀ (l : List ResultVar) (vs : List DV), resD C.S e h l = some vs →
    ∃ us, VRs ρ vs us ∧ (l.mapM (m := Sem) fun | .tmp t => pure (a.tmps.getD t undef) | .cell x t => do loadVar t (← asAddr (a.tmps.getD x undef))).run C.P w = .ok us w
  | [], vs, hr => by
    unfold resD at hr; cases hr
    exact ⟨[], .nil, by simp⟩
  | .tmp t :: l, vs, hr => by
    unfold resD at hr
    split at hr
    · rename_i vs' hv
      cases hr
      obtain ⟨us, h1, h2⟩ := resD_sim ok E1 H l vs' hv
      refine ⟨_, .cons _ _ _ _ (E1.tmp t) h1, ?_⟩
      rw [List.mapM_cons, Sem.run_bind, Sem.run_pure]
      simp only [Result.andThen]
      rw [Sem.run_bind, h2]
      rfl
    · cases hr
  | .cell x t :: l, vs, hr => by
    unfold resD at hr
    split at hr
    · rename_i v vs' hv hvs
      cases hr
      obtain ⟨us, h1, h2⟩ := resD_sim ok E1 H l vs' hvs
      obtain ⟨u, h3, h4⟩ := loadVarD_sim ok H hv (E1.tmp x)
      refine ⟨_, .cons _ _ _ _ h3 h1, ?_⟩
      have h5 : (do loadVar t (← asAddr (a.tmps.getD x undef)) : Sem Value).run C.P w = .ok u w := by
        rw [← h4]
        have hp : VR ρ (e.get x) (a.tmps.getD x undef) := E1.tmp x
        generalize a.tmps.getD x undef = y at hp ⊢
        unfold loadVarD at hv
        split at hv
        · rename_i id off hx
          rw [hx] at hp
          cases hp with
          | ptr _ _ bi hb => rfl
        · cases hv
      rw [List.mapM_cons, Sem.run_bind, h5]
      simp only [Result.andThen]
      rw [Sem.run_bind, h2]
      rfl
    · cases hr

theorem results_sim (ok : C.Ok) {ρ : Ren} {N : Nat} {e : E} {h : Heap} {a : Act} {w : World} {fn : Func} {vs : List DV} (E1 : ER ρ N e a) (H : HL ρ h w) (hr : resD C.S e h fn.results.toList = some vs) :
    ∃ u, VR ρ (oneRes vs) u ∧ (results fn a.tmps).run C.P w = .ok u w := by
  obtain ⟨us, h1, h2⟩ := resD_sim ok E1 H _ _ hr
  refine ⟨_, h1.single, ?_⟩
  unfold results
  rw [Array.mapM_eq_mapM_toList, ← bind_pure_comp, Sem.run_bind, Sem.run_bind]
  exact Eq.trans (congrArg (fun r => Result.andThen (Result.andThen r (fun (a : List Value) w' => Sem.run C.P (pure a.toArray) w')) (fun (a : Array Value) w' => Sem.run C.P (pure (if h : a.size = 1 then a[0] else Value.tuple a)) w')) h2) rfl

/-! entering a function -/
theorem mkEnv_get : ∀ (l : List DV) (i k : Nat), (mkEnv l i).get k = if i ≤ k then (l[k - i]?).getD (.tuple []) else .tuple []
  | [], i, k => by simp [mkEnv, E.get_lf]
  | v :: l, i, k => by
    unfold mkEnv
    rw [E.get_put, mkEnv_get l (i + 1) k]
    by_cases e : k = i
    · subst e; simp
    · rw [if_neg e]
      by_cases h : i ≤ k
      · rw [if_pos h, if_pos (by omega), show k - i = (k - (i + 1)) + 1 from by omega]
        simp
      · rw [if_neg h, if_neg (by omega)]

theorem enter_er {ρ : Ren} {args : List DV} {us : List Value} {n : Nat} (ha : VRs ρ args us) (hn : args.length ≤ n) : ER ρ n (mkEnv args 0) { tmps := us.toArray ++ Array.replicate (n - us.toArray.size) undef, defers := [] } := by
  have hl := ha.length
  refine ⟨by simp; omega, fun k => ?_⟩
  rw [mkEnv_get, if_pos (Nat.zero_le _), Nat.sub_zero]
  simp only [Array.getD_eq_getD_getElem?]
  by_cases h : k < us.length
  · have hd : args[k]? = some args[k] := List.getElem?_eq_getElem (by omega)
    obtain ⟨v, h1, h2⟩ := ha.get hd
    rw [hd, Array.getElem?_append_left (by simpa using h)]
    simp only [List.getElem?_toArray, h1, Option.getD_some]
    exact h2
  · rw [List.getElem?_eq_none (by omega), Array.getElem?_append_right (by simpa using h)]
    simp only [Option.getD_none, Array.getElem?_replicate]
    split <;> exact VR.undef

/-! runs -/
def Xdisp {R : Type} (k : E → Defs → Heap → Option R) (kx : X → E → Defs → Heap → Option R) (x : X) : E → Defs → Heap → Option R :=
  match x with
  | .normal => k
  | x => kx x

def SCode (C : Ctx) (N : Nat) (c : Code) (e : E) (ds : Defs) (h : Heap) (x : X) (e' : E) (ds' : Defs) (h' : Heap) : Prop :=
  ∀ (ρ : Ren) (a : Act) (w : World), Rel C ρ N e ds h a w → CodeSem C.P c a w fun x' a' w' => x' = x ∧ ∃ ρ', Rel C ρ' N e' ds' h' a' w' ∧ Stp ρ h w ρ' h' w'

def RunOk {R : Type} (C : Ctx) (ih : Run R) : Prop := ∀ N c e ds h k kx r, ih N c e ds h k kx = some r → ∃ x e' ds' h', SCode C N c e ds h x e' ds' h' ∧ Xdisp k kx x e' ds' h' = some r

/-- the functions that are known from outside -/
structure Ctx.Known (C : Ctx) : Prop where
  short : ∀ f g, C.S.short f = some g → ∀ args v h, g args = some v → SFn C f args h v h
  ext : ∀ f x, C.S.ext f = some x → ∀ args h v h', extD h x args = some (v, h') → SFn C f args h v h'

section
variable {R : Type} {ih : Run R}

theorem callsD_of_code {P : Program} {f : FuncId} {fn : Func} {c : Code} {args : Array Value} {w : World} {K : Value → World → Prop} (hf : P.funcs[f]? = some fn) (hb : fn.body = some c)
    (h : CodeSem P c { tmps := args ++ Array.replicate (fn.ntmps - args.size) undef, defers := [] } w fun x a' w' => (x = .normal ∨ x = .ret) ∧ a'.defers = [] ∧ ∃ v, (results fn a'.tmps).run P w' = .ok v w' ∧ K v w') :
    CallsD P f args .returning w fun e u' w' => u' = .returning ∧ ∃ v, e = .returned v ∧ K v w' := by
  intro c0 cs hu
  let b : Frame := { (default : Frame) with fn := f, kind := .deferred }
  have henter : Frame.enter P f args .deferred = b.at { tmps := args ++ Array.replicate (fn.ntmps - args.size) undef, defers := [] } [.code c] := by
    simp [Frame.enter, Frame.at, hf, hb, b]
  obtain ⟨x, a', w', ⟨hx, hd, v, hr, hK⟩, harr⟩ := h.items b [] (c0 :: cs) (RecNil.deferred cs hu)
  have hc0 : ({ c0 with mode := .returning } : Frame) = c0 := by rw [← hu]
  rcases hx with rfl | rfl
  · refine ⟨.returned v, .returning, w', { b.at a' [] with mode := .returning }, ⟨rfl, v, rfl, hK⟩, ?_, rfl, rfl, hd, fn, hf, hr⟩
    rw [henter, hc0]
    exact Steps.trans harr (.one step_end)
  · obtain ⟨todo, hs⟩ := harr
    refine ⟨.returned v, .returning, w', { b.at a' todo with mode := .returning }, ⟨rfl, v, rfl, hK⟩, ?_, rfl, rfl, hd, fn, hf, hr⟩
    rw [henter, hc0]
    exact hs

theorem calls_of_code {P : Program} {f : FuncId} {fn : Func} {c : Code} {args : Array Value} {w : World} {Rr : Ending → World → Prop} (hf : P.funcs[f]? = some fn) (hb : fn.body = some c)
    (h : CodeSem P c { tmps := args ++ Array.replicate (fn.ntmps - args.size) undef, defers := [] } w fun x a' w' => (x = .normal ∨ x = .ret) ∧ Leaves P fn a'.tmps Rr a'.defers .returning w') :
    Calls P f args w Rr := by
  intro cs
  let b : Frame := { (default : Frame) with fn := f, kind := .normal }
  have henter : Frame.enter P f args .normal = b.at { tmps := args ++ Array.replicate (fn.ntmps - args.size) undef, defers := [] } [.code c] := by
    simp [Frame.enter, Frame.at, hf, hb, b]
  obtain ⟨x, a', w', ⟨hx, hl⟩, harr⟩ := h.items b [] cs (RecNil.normal cs)
  have hst : ∃ todo, Steps P (lone (Frame.enter P f args .normal) cs w) (lone { b.at a' todo with mode := .returning } cs w') := by
    rw [henter]
    rcases hx with rfl | rfl
    · exact ⟨[], Steps.trans harr (.one step_end)⟩
    · exact harr
  obtain ⟨todo, hs⟩ := hst
  obtain ⟨e, w2, fr, h1, h2, h3, h4⟩ := leaves_steps a'.defers .returning w' { b.at a' todo with mode := .returning } cs rfl rfl rfl hf rfl hl
  exact ⟨e, w2, fr, h1, Comes.of_steps hs h2, h3, h4⟩

theorem bodyD_code (ok : C.Ok) (hi : RunOk C ih) {dfs : Defs → Heap → (Heap → Option R) → Option R} {f : FuncId} {args : List DV} {h : Heap} {k : DV → Heap → Option R} {r : R} (hr : bodyD ih C.S dfs f args h k = some r) :
    ∃ fn c x e' ds' h1, C.P.funcs[f]? = some fn ∧ (fn.name == "runtime.NumGoroutine") = false ∧ fn.body = some c ∧ args.length ≤ fn.ntmps ∧ (x = .normal ∨ x = .ret) ∧ SCode C fn.ntmps c (mkEnv args 0) [] h x e' ds' h1 ∧
      dfs ds' h1 (fun h => finishD C.S fn e' h k) = some r := by
  unfold bodyD at hr
  split at hr
  · rename_i fn hfn
    split at hr
    · rename_i c hc
      rw [bleD] at hr
      by_cases hn : args.length ≤ fn.ntmps
      · rw [decide_eq_true hn] at hr
        simp only [cond_true] at hr
        obtain ⟨x, e', ds', h1, s1, s2⟩ := hi _ _ _ _ _ _ _ _ hr
        obtain ⟨g1, g2⟩ := ok.fn f fn hfn
        refine ⟨fn, c, x, e', ds', h1, g1, g2, hc, hn, ?_, s1, ?_⟩
        · cases x with
          | normal => exact .inl rfl
          | ret => exact .inr rfl
          | exit id => simp [Xdisp, isExit] at s2
        · cases x with
          | normal => exact s2
          | ret => simpa [Xdisp, isExit] using s2
          | exit id => simp [Xdisp, isExit] at s2
      · rw [decide_eq_false hn] at hr; cases hr
    · cases hr
  · cases hr

theorem finishD_sound {fn : Func} {e : E} {h : Heap} {k : DV → Heap → Option R} {r : R} (hr : finishD C.S fn e h k = some r) : ∃ vs, resD C.S e h fn.results.toList = some vs ∧ k (oneRes vs) h = some r := by
  unfold finishD at hr
  split at hr
  · exact ⟨_, ‹_›, hr⟩
  · cases hr

/-- deferred calls -/
def SDefs (C : Ctx) (ds : Defs) (h h' : Heap) : Prop := ∀ (ρ : Ren) (rs : List Deferred) (w : World) (fn : Func) (tmps : Array Value) (Rr : Ending → World → Prop), DefRs ρ ds rs → HR C ρ h w →
  (∀ ρ' w', HR C ρ' h' w' → Stp ρ h w ρ' h' w' → Leaves C.P fn tmps Rr [] .returning w') → Leaves C.P fn tmps Rr rs .returning w

theorem run_enter {P : Program} {f : FuncId} {fn : Func} {c : Code} (hf : P.funcs[f]? = some fn) (hn : (fn.name == "runtime.NumGoroutine") = false) (hb : fn.body = some c) (us : Array Value) (w : World) :
    (callFunc f us).run P w = .ok (.enter f us) w := by
  unfold callFunc
  rw [Sem.run_bind]
  show Result.andThen (.ok P w) _ = _
  simp only [Result.andThen, hf, hn, hb]
  rfl

theorem runDefs_sound (ok : C.Ok) (hi : RunOk C ih) : ∀ (ds : Defs) (h : Heap) (k : Heap → Option R) (r : R), runDefs ih C.S ds h k = some r → ∃ h', SDefs C ds h h' ∧ k h' = some r
  | [], h, k, r, hr => ⟨h, fun ρ rs w fn tmps Rr hd H hk => by cases hd; exact hk ρ w H (Stp.refl _ _ _), hr⟩
  | (f, args) :: l, h, k, r, hr => by
    have hr2 : bodyD ih C.S noDefs f args h (fun _ h => runDefs ih C.S l h k) = some r := hr
    obtain ⟨fn, c, x, e', ds', h1, q1, q2, q3, q4, q5, q6, q7⟩ := bodyD_code ok hi hr2
    have hnil : ds' = [] := by
      cases ds' with
      | nil => rfl
      | cons y ys => cases q7
    subst hnil
    have q8 : finishD C.S fn e' h1 (fun _ h => runDefs ih C.S l h k) = some r := q7
    obtain ⟨vs, g1, g2⟩ := finishD_sound q8
    obtain ⟨h2, g3, g4⟩ := runDefs_sound ok hi l h1 k r g2
    refine ⟨h2, fun ρ rs w fn2 tmps Rr hd H hk => ?_, g4⟩
    cases hd with
    | cons _ d _ ds hd hs =>
      obtain ⟨cap, t1, t2⟩ := hd
      have hlen := t2.length
      refine ⟨by simp, .func f, cap, f, d.args ++ cap, t1, ?_, ?_⟩
      · rw [t1]
        exact run_enter q1 q2 q3 _ _
      · have ha : VRs ρ args (d.args ++ cap).toList := t2
        have hE := enter_er ha q4
        rw [Array.toArray_toList] at hE
        have hcode := q6 ρ _ w ⟨hE, .nil, H⟩
        have := callsD_of_code (K := fun v w' => ∃ ρ', HR C ρ' h1 w' ∧ Stp ρ h w ρ' h1 w') (args := d.args ++ cap) q1 q3 (by
          refine CodeSem.mono hcode ?_
          rintro x' a' w' ⟨rfl, ρ', R1, S1⟩
          obtain ⟨u, r1, r2⟩ := results_sim ok R1.er R1.hr.toHL g1
          refine ⟨q5, ?_, u, r2, ρ', R1.hr, S1⟩
          cases hdd : a'.defers with
          | nil => rfl
          | cons y ys => have := R1.dr; rw [hdd] at this; cases this)
        intro c0 cs hu
        obtain ⟨e, u', w', fr, ⟨e1, v, e2, ρ', H1, S1⟩, e3, e4, e5⟩ := this c0 cs hu
        subst e1 e2
        refine ⟨_, _, _, fr, ?_, e3, e4, e5⟩
        show Leaves C.P fn2 tmps Rr ds (settle .returning) w'
        exact g3 ρ' ds w' fn2 tmps Rr (hs.mono S1.le) H1 fun ρ2 w2 k1 k2 => hk ρ2 w2 k1 (S1.trans k2)

theorem calls_of_run (ok : C.Ok) (kn : C.Known) (hi : RunOk C ih) : CallsOk C ih := fun f args h k r hr => by
  unfold callD callC at hr
  cases hs : C.S.short f with
  | some g =>
    rw [hs] at hr
    simp only at hr
    split at hr
    · rename_i v hv
      exact ⟨v, h, kn.short f g hs args v h hv, hr⟩
    · cases hr
  | none =>
    rw [hs] at hr
    simp only at hr
    cases hx : C.S.ext f with
    | some x =>
      rw [hx] at hr
      simp only at hr
      split at hr
      · rename_i v h' hv
        exact ⟨v, h', kn.ext f x hx args h v h' hv, hr⟩
      · cases hr
    | none =>
      rw [hx] at hr
      simp only at hr
      obtain ⟨fn, c, x, e', ds', h1, q1, q2, q3, q4, q5, q6, q7⟩ := bodyD_code ok hi hr
      obtain ⟨h2, g1, g2⟩ := runDefs_sound ok hi _ _ _ _ q7
      obtain ⟨vs, g3, g4⟩ := finishD_sound g2
      refine ⟨oneRes vs, h2, fun ρ us w ha H => ?_, g4⟩
      unfold CallSem
      rw [run_enter q1 q2 q3]
      simp only
      have hE := enter_er ha q4
      refine calls_of_code (args := us.toArray) q1 q3 (CodeSem.mono (q6 ρ _ w ⟨hE, .nil, H⟩) ?_)
      rintro x' a' w' ⟨rfl, ρ', R1, S1⟩
      refine ⟨q5, g1 ρ' _ w' fn a'.tmps _ R1.dr R1.hr fun ρ2 w2 H2 S2 => ?_⟩
      have E2 : ER ρ2 fn.ntmps e' a' := R1.er.mono S2.le
      obtain ⟨u, r1, r2⟩ := results_sim ok E2 H2.toHL g3
      exact ⟨u, r2, u, rfl, ρ2, r1, H2, S1.trans S2⟩

theorem stepRun_sound (ok : C.Ok) (kn : C.Known) (hi : RunOk C ih) : RunOk C (stepRun C.S ih) := fun N c e ds h k kx r hr => by
  have hc := calls_of_run ok kn hi
  unfold stepRun at hr
  cases c with
  | skip => exact ⟨.normal, e, ds, h, fun ρ a w Rl => sem_skip ⟨rfl, ρ, Rl, Stp.refl _ _ _⟩, hr⟩
  | label l => exact ⟨.normal, e, ds, h, fun ρ a w Rl => sem_label ⟨rfl, ρ, Rl, Stp.refl _ _ _⟩, hr⟩
  | region id ops draw =>
    cases draw with
    | true =>
      have hr2 : regionD ih C.S N ops.toList e ds h k = some r := hr
      obtain ⟨e', ds', h', s1, s2⟩ := regionD_sound ok hc hr2
      refine ⟨.normal, e', ds', h', fun ρ a w Rl => ?_, s2⟩
      refine sem_draw fun t => ?_
      have hm : C.P.follows .mixedOrders = true := ok.mixed
      rw [hm]
      have R1 : Rel C ρ N e ds h a { w with drawn := w.drawn + 1 } := ⟨Rl.er, Rl.dr, Rl.hr.drew ok _⟩
      have := s1 ρ a _ R1 t
      have mono : ∀ (l : List Nat) (a : Act) (w : World) (K K' : Act → World → Prop), OpsSem C.P ops K l a w → (∀ a w, K a w → K' a w) → OpsSem C.P ops K' l a w := by
        intro l
        induction l with
        | nil => exact fun a w K K' h1 h2 => h2 a w h1
        | cons i l ih =>
          intro a w K K' h1 h2
          obtain ⟨o, ho, h3⟩ := h1
          refine ⟨o, ho, ?_⟩
          rcases h3 with ⟨g1, g2⟩ | ⟨g1, g2⟩
          · exact .inl ⟨g1, g2.mono fun a w h => ih a w K K' h h2⟩
          · exact .inr ⟨g1, ih _ _ K K' g2 h2⟩
      refine mono _ _ _ _ _ this fun a' w' h => ?_
      obtain ⟨ρ', h1, h2⟩ := h
      exact ⟨rfl, ρ', h1, (Stp.drew ρ h w _).trans h2⟩
    | false =>
      have hr2 : (opsC (R := R) C.S N ops.toList ops.toList).f ih e ds h k = some r := hr
      obtain ⟨e', ds', h', s1, s2⟩ := opsC_sound ok hc ops.toList [] e ds h rfl hr2
      refine ⟨.normal, e', ds', h', fun ρ a w Rl => sem_region ?_, s2⟩
      have := s1 ρ a w Rl (fun a' w' => X.normal = X.normal ∧ ∃ ρ', Rel C ρ' N e' ds' h' a' w' ∧ Stp ρ h w ρ' h' w') fun ρ' a' w' h1 h2 => ⟨rfl, ρ', h1, h2⟩
      rw [List.length_nil, Array.length_toList] at this
      rw [List.range_eq_range']
      exact this
  | seq x y =>
    have hr2 : ih N x e ds h (fun e ds h => ih N y e ds h k kx) kx = some r := hr
    obtain ⟨x1, e1, d1, h1, s1, s2⟩ := hi _ _ _ _ _ _ _ _ hr2
    cases x1 with
    | normal =>
      obtain ⟨x2, e2, d2, h2, s3, s4⟩ := hi _ _ _ _ _ _ _ _ s2
      refine ⟨x2, e2, d2, h2, fun ρ a w Rl => sem_seq ((s1 ρ a w Rl).mono ?_), s4⟩
      rintro _ a' w' ⟨rfl, ρ', R1, S1⟩
      refine (s3 ρ' a' w' R1).mono ?_
      rintro _ a2 w2 ⟨rfl, ρ2, R2, S2⟩
      exact ⟨rfl, ρ2, R2, S1.trans S2⟩
    | exit id =>
      refine ⟨.exit id, e1, d1, h1, fun ρ a w Rl => sem_seq ((s1 ρ a w Rl).mono ?_), s2⟩
      rintro _ a' w' ⟨rfl, hh⟩
      exact ⟨rfl, hh⟩
    | ret =>
      refine ⟨.ret, e1, d1, h1, fun ρ a w Rl => sem_seq ((s1 ρ a w Rl).mono ?_), s2⟩
      rintro _ a' w' ⟨rfl, hh⟩
      exact ⟨rfl, hh⟩
  | cond c x y =>
    simp only [codeC] at hr
    split at hr
    · rename_i f hf
      simp only at hr
      split at hr
      · rename_i t ht
        have hr2 : ih N (if t then x else y) e ds h k kx = some r := by cases t <;> exact hr
        obtain ⟨x1, e1, d1, h1, s1, s2⟩ := hi _ _ _ _ _ _ _ _ hr2
        refine ⟨x1, e1, d1, h1, fun ρ a w Rl => ?_, s2⟩
        have := Rl.er.ev hf
        rw [ht] at this
        generalize hx : a.eval c = b at this
        cases this
        exact sem_cond hx (s1 ρ a w Rl)
      · cases hr
    · cases hr
  | block id body =>
    have hr2 : ih N body e ds h k (fun x e ds h => match x with | .exit j => bif Nat.beq j id then k e ds h else kx (.exit j) e ds h | x => kx x e ds h) = some r := hr
    obtain ⟨x1, e1, d1, h1, s1, s2⟩ := hi _ _ _ _ _ _ _ _ hr2
    cases x1 with
    | normal =>
      refine ⟨.normal, e1, d1, h1, fun ρ a w Rl => sem_block ((s1 ρ a w Rl).mono ?_), s2⟩
      rintro _ a' w' ⟨rfl, hh⟩
      exact ⟨rfl, hh⟩
    | exit j =>
      simp only [Xdisp, beqD] at s2
      by_cases e : j = id
      · rw [decide_eq_true e] at s2
        refine ⟨.normal, e1, d1, h1, fun ρ a w Rl => sem_block ((s1 ρ a w Rl).mono ?_), s2⟩
        rintro _ a' w' ⟨rfl, hh⟩
        simp only
        rw [if_pos e]
        exact ⟨trivial, hh⟩
      · rw [decide_eq_false e] at s2
        refine ⟨.exit j, e1, d1, h1, fun ρ a w Rl => sem_block ((s1 ρ a w Rl).mono ?_), s2⟩
        rintro _ a' w' ⟨rfl, hh⟩
        simp only
        rw [if_neg e]
        exact ⟨trivial, hh⟩
    | ret =>
      refine ⟨.ret, e1, d1, h1, fun ρ a w Rl => sem_block ((s1 ρ a w Rl).mono ?_), s2⟩
      rintro _ a' w' ⟨rfl, hh⟩
      exact ⟨rfl, hh⟩
  | loop body =>
    have hr2 : ih N body e ds h (fun e ds h => ih N (.loop body) e ds h k kx) kx = some r := hr
    obtain ⟨x1, e1, d1, h1, s1, s2⟩ := hi _ _ _ _ _ _ _ _ hr2
    cases x1 with
    | normal =>
      obtain ⟨x2, e2, d2, h2, s3, s4⟩ := hi _ _ _ _ _ _ _ _ s2
      refine ⟨x2, e2, d2, h2, fun ρ a w Rl => sem_loop ((s1 ρ a w Rl).mono ?_), s4⟩
      rintro _ a' w' ⟨rfl, ρ', R1, S1⟩
      refine (s3 ρ' a' w' R1).mono ?_
      rintro _ a2 w2 ⟨rfl, ρ2, R2, S2⟩
      exact ⟨rfl, ρ2, R2, S1.trans S2⟩
    | exit id =>
      refine ⟨.exit id, e1, d1, h1, fun ρ a w Rl => sem_loop ((s1 ρ a w Rl).mono ?_), s2⟩
      rintro _ a' w' ⟨rfl, hh⟩
      exact ⟨rfl, hh⟩
    | ret =>
      refine ⟨.ret, e1, d1, h1, fun ρ a w Rl => sem_loop ((s1 ρ a w Rl).mono ?_), s2⟩
      rintro _ a' w' ⟨rfl, hh⟩
      exact ⟨rfl, hh⟩
  | scope body =>
    have hr2 : ih N body e ds h k kx = some r := hr
    obtain ⟨x1, e1, d1, h1, s1, s2⟩ := hi _ _ _ _ _ _ _ _ hr2
    exact ⟨x1, e1, d1, h1, fun ρ a w Rl => sem_scope (s1 ρ a w Rl), s2⟩
  | exit id => exact ⟨.exit id, e, ds, h, fun ρ a w Rl => sem_exit ⟨rfl, ρ, Rl, Stp.refl _ _ _⟩, hr⟩
  | ret => exact ⟨.ret, e, ds, h, fun ρ a w Rl => sem_ret ⟨rfl, ρ, Rl, Stp.refl _ _ _⟩, hr⟩
  | _ => cases hr

theorem run_sound (ok : C.Ok) (kn : C.Known) : ∀ n, RunOk (R := R) C (run C.S n)
  | 0 => fun N c e ds h k kx r hr => by cases hr
  | n + 1 => stepRun_sound (ih := run C.S n) ok kn (run_sound ok kn n)

/-- THE EVALUATOR IS SOUND: what it answers, the machine answers -/
theorem callD_sound (ok : C.Ok) (kn : C.Known) {n : Nat} {f : FuncId} {args : List DV} {h : Heap} {k : DV → Heap → Option R} {r : R} (hr : callD (run C.S n) C.S f args h k = some r) :
    ∃ v h', SFn C f args h v h' ∧ k v h' = some r := calls_of_run ok kn (run_sound ok kn n) f args h k r hr

end
end Go.Dm
end

section
namespace Go.Dm
variable {C : Ctx}

/-- the row of the table of functions without a body -/
def ExtRow : Ext → (Array Value → Sem Value) → Prop
  | .noEscape, e => e = Extern.AbiNoEscape.same
  | .count, e => e = Extern.BytealgCount.count
  | .indexByte, e => e = Extern.BytealgIndexByte.indexByte
  | .raceNone, e => ∃ m : Mark, e = fun _ => do mark m; pure Extern.Race.none_
  | .raceAt, e => ∃ m : Addr → Mark, e = Extern.Race.marked m
  | .atLoad k, e => e = Extern.Atomic.loadT (.int k)
  | .atStore, e => e = Extern.Atomic.storeT
  | .atCas k, e => e = Extern.Atomic.casT (.int k)
  | .atAdd k, e => e = Extern.Atomic.update (Op.intArith .add) k true

theorem countF_eq (c : Nat) (hc : c < 256) : ∀ (k n : Nat), countF c k n = Lib.countByte (bytesF k n) (UInt8.ofNat c)
  | 0, n => rfl
  | k + 1, n => by
    unfold countF Lib.countByte
    simp only [bytesF]
    rw [List.count_cons, countF_eq c hc k]
    unfold Lib.countByte
    rw [beqD]
    have : (UInt8.ofNat (n % 256) == UInt8.ofNat c) = decide (n % 256 = c) := by
      rw [Bool.eq_iff_iff]
      simp only [beq_iff_eq, decide_eq_true_eq]
      constructor
      · intro h
        have := congrArg UInt8.toNat h
        simp at this
        omega
      · intro h; rw [h]
    rw [this]
    by_cases h : n % 256 = c
    · simp [h]; omega
    · simp [h]

theorem indexF_eq (c : Nat) (hc : c < 256) : ∀ (k n i : Nat), (match indexF c k n i with | some j => (j : Int) - i | none => -1) = Lib.indexByte (bytesF k n) (UInt8.ofNat c) ∧ (∀ j, indexF c k n i = some j → i ≤ j)
  | 0, n, i => ⟨rfl, fun j h => by cases h⟩
  | k + 1, n, i => by
    have : (UInt8.ofNat (n % 256) == UInt8.ofNat c) = decide (n % 256 = c) := by
      rw [Bool.eq_iff_iff]
      simp only [beq_iff_eq, decide_eq_true_eq]
      constructor
      · intro h
        have := congrArg UInt8.toNat h
        simp at this
        omega
      · intro h; rw [h]
    obtain ⟨h1, h2⟩ := indexF_eq c hc k (n / 256) (i + 1)
    unfold indexF
    simp only [bytesF, Lib.indexByte, this, beqD]
    by_cases h : n % 256 = c
    · simp only [h, decide_true, cond_true, if_true]
      exact ⟨Int.sub_self _, fun j hj => by cases hj; exact Nat.le_refl _⟩
    · simp only [h, decide_false, cond_false, if_false, Bool.false_eq_true]
      refine ⟨?_, fun j hj => by have := h2 j hj; omega⟩
      rw [← h1]
      cases e : indexF c k (n / 256) (i + 1) with
      | none => rfl
      | some j =>
        have := h2 j e
        simp only
        rw [if_neg]
        · omega
        · simp; omega

theorem ext_run {ρ : Ren} {h h' : Heap} {w : World} {x : Ext} {er : Array Value → Sem Value} (ok : C.Ok) (hx : ExtRow x er) {args : List DV} {us : List Value} {v : DV} (hq : extD h x args = some (v, h')) (ha : VRs ρ args us)
    (H : HR C ρ h w) : ∃ u w', (er us.toArray).run C.P w = .ok u w' ∧ VR ρ v u ∧ HR C ρ h' w' ∧ Stp ρ h w ρ h' w' := by
  have two : ∀ (p q : DV), VRs ρ [p, q] us → ∃ a b, us = [a, b] ∧ VR ρ p a ∧ VR ρ q b := fun p q hh => by
    cases hh with
    | cons _ a _ _ h1 h2 => cases h2 with
      | cons _ b _ _ h3 h4 => cases h4; exact ⟨a, b, rfl, h1, h3⟩
  have store1 : ∀ {id off : Nat} {y : DV} {b : Value} {h2 : Heap} {bi : BI}, storeN h id off [y] = some h2 → ρ id = some bi → VR ρ y b →
      ∃ w', (store ⟨bi.b, off, none⟩ b .atomic).run C.P w = .ok () w' ∧ HR C ρ h2 w' ∧ Stp ρ h w ρ h2 w' := fun {id off y b h2 bi} hst hb hv => by
    obtain ⟨w', r1, r2, r3⟩ := storeN_sim ok H hst hb (.cons _ _ _ _ hv .nil)
    unfold storeN at hst
    split at hst
    · rename_i c0 m0 e0 gr0 hg
      cases hbb : (Nat.ble (off + [y].length) m0 && ones [y]) with
      | false => rw [hbb] at hst; cases hst
      | true =>
        rw [Bool.and_eq_true] at hbb
        have hle : off + 1 ≤ m0 := Nat.le_of_ble_eq_true hbb.1
        obtain ⟨c', fr, q1, q2, q3, q4, q5, q6, q7⟩ := H.toHL.cell hg hb
        have hq5 := q5 rfl
        have hcv : b.cellV = true := by
          rw [← hv.one]; exact ones_all hbb.2 y (by simp)
        have hp := run_store1 C.P (k := off) (v := b) q1 (by omega) (by omega) hcv
        have hat : (store ⟨bi.b, off, none⟩ b .atomic).run C.P w = .ok () (setW w bi.b (.cells (c'.setIfInBounds off b) e0 fr)) := by
          have hc : w.cell? ⟨bi.b, off, none⟩ = some c'[off] := by unfold World.cell?; simp only [q1]; simp
          have hz : w.frozen? ⟨bi.b, off, none⟩ = false := by
            unfold World.frozen?
            simp only [q1]
            rw [Bool.eq_false_iff]
            simp; omega
          rw [← setCell_eq q1]
          unfold store
          cases b <;> simp [Value.cellV] at hcv <;> simp [Sem.run, hc, hz]
        have e : w' = setW w bi.b (.cells (c'.setIfInBounds off b) e0 fr) := by
          unfold storeCells at r1
          rw [Sem.run_bind, add_none, Nat.add_zero, hp] at r1
          simp only [Result.andThen] at r1
          have : (storeCells ⟨bi.b, off, none⟩ [] (0 + 1)).run C.P (setW w bi.b (.cells (c'.setIfInBounds off b) e0 fr)) = .ok () (setW w bi.b (.cells (c'.setIfInBounds off b) e0 fr)) := rfl
          rw [this] at r1
          cases r1; rfl
        exact ⟨_, hat, e ▸ r2, e ▸ r3⟩
    · cases hst
  unfold extD at hq
  split at hq
  · -- noEscape
    cases hq; cases hx
    cases ha with
    | cons _ a _ _ h1 h2 => cases h2; exact ⟨a, w, rfl, h1, H, Stp.refl _ _ _⟩
  · -- count
    rename_i s c
    rw [bltD] at hq
    by_cases hc : c < 256
    · rw [decide_eq_true hc] at hq
      cases hq; cases hx
      obtain ⟨a, b, rfl, h1, h2⟩ := two _ _ ha
      cases h1; cases h2
      refine ⟨_, w, Lib.run_countString _ _ _, ?_, H, Stp.refl _ _ _⟩
      have e : s.ba.data.toList = bytesF s.len s.num := by simp [BS.ba, BS.bytes]
      have e2 : ((Int.ofNat c).toNat).toUInt8 = UInt8.ofNat c := rfl
      rw [e, e2, ← countF_eq c hc]
      exact .int _ _
    · rw [decide_eq_false hc] at hq; cases hq
  · -- indexByte
    rename_i s c
    rw [bltD] at hq
    by_cases hc : c < 256
    · rw [decide_eq_true hc] at hq
      cases hq; cases hx
      obtain ⟨a, b, rfl, h1, h2⟩ := two _ _ ha
      cases h1; cases h2
      refine ⟨_, w, Lib.run_indexByteString _ _ _, ?_, H, Stp.refl _ _ _⟩
      have e : s.ba.data.toList = bytesF s.len s.num := by simp [BS.ba, BS.bytes]
      have e2 : ((Int.ofNat c).toNat).toUInt8 = UInt8.ofNat c := rfl
      obtain ⟨k1, k2⟩ := indexF_eq c hc s.len s.num 0
      rw [e, e2, ← k1]
      cases indexF c s.len s.num 0 with
      | none => exact .int _ _
      | some j =>
        have e3 : ((j : Nat) : Int) - ((0 : Nat) : Int) = Int.ofNat j := by simp
        simp only [e3]
        exact .int _ _
    · rw [decide_eq_false hc] at hq; cases hq
  · -- raceNone
    cases hq
    obtain ⟨m, rfl⟩ := hx
    exact ⟨.tuple #[], w, rfl, VR.undef, H, Stp.refl _ _ _⟩
  · -- raceAt
    cases hq
    obtain ⟨m, rfl⟩ := hx
    cases ha with
    | cons _ a _ us h1 h2 =>
      cases h1 with
      | ptr _ _ bi hb => exact ⟨.tuple #[], w, rfl, VR.undef, H, Stp.refl _ _ _⟩
  · -- atLoad
    rename_i k id off
    split at hq
    · rename_i k' n hl
      cases hk : kEq k k' with
      | false => rw [hk] at hq; cases hq
      | true =>
        rw [hk] at hq
        cases hq; cases hx
        rw [kEq_iff] at hk; subst hk
        cases ha with
        | cons _ a _ _ h1 h2 =>
          cases h2
          cases h1 with
          | ptr _ _ bi hb =>
            obtain ⟨l', g1, g2, g3, g4⟩ := loadN_sim H.toHL hl hb
            cases g1 with
            | cons _ y _ _ hy hs =>
              cases hy
              have hcell := g3 0 _ rfl
              rw [Nat.add_zero] at hcell
              refine ⟨.int k n, w, ?_, .int _ _, H, Stp.refl _ _ _⟩
              show (Extern.Atomic.read (.int k) ⟨bi.b, off, none⟩).run C.P w = _
              unfold Extern.Atomic.read
              rw [Sem.run_bind]
              have : (load ⟨bi.b, off, none⟩ .atomic).run C.P w = .ok (.int k n) w := by
                rw [run_load, hcell]
              rw [this]
              simp [Result.andThen]
    · cases hq
  · -- atStore
    rename_i id off y
    split at hq
    · rename_i h2 hst
      cases hq; cases hx
      obtain ⟨a, b, rfl, h1, h3⟩ := two _ _ ha
      cases h1 with
      | ptr _ _ bi hb =>
        obtain ⟨w', r1, r2, r3⟩ := store1 hst hb h3
        refine ⟨.tuple #[], w', ?_, VR.undef, r2, r3⟩
        show (do store ⟨bi.b, off, none⟩ b .atomic; pure Extern.Atomic.none_ : Sem Value).run C.P w = _
        rw [Sem.run_bind, r1]
        rfl
    · cases hq
  · -- atCas
    rename_i k id off kk o y
    split at hq
    · rename_i k' n hl
      cases hk : kEq k k' with
      | false => rw [hk] at hq; cases hq
      | true =>
        rw [hk] at hq
        simp only [cond_true] at hq
        rw [kEq_iff] at hk; subst hk
        split at hq
        · rename_i h2 hst
          cases hx
          cases ha with
          | cons _ a _ _ h1 ha2 => cases ha2 with
            | cons _ b _ _ h3 ha3 => cases ha3 with
              | cons _ c _ _ h4 ha4 =>
                cases ha4
                cases h3
                cases h1 with
                | ptr _ _ bi hb =>
                  obtain ⟨l', g1, g2, g3, g4⟩ := loadN_sim H.toHL hl hb
                  cases g1 with
                  | cons _ yv _ _ hy hs =>
                    cases hy
                    have hcell := g3 0 _ rfl
                    rw [Nat.add_zero] at hcell
                    obtain ⟨w', r1, r2, r3⟩ := store1 hst hb h4
                    have hnf : (Extern.Atomic.touchesFrozen ⟨bi.b, off, none⟩).run C.P w = .ok false w := by
                      unfold storeN at hst
                      split at hst
                      · rename_i c0 m0 e0 gr0 hg
                        obtain ⟨c', fr, q1, q2, q3, q4, q5, q6, q7⟩ := H.toHL.cell hg hb
                        unfold Extern.Atomic.touchesFrozen
                        rw [Sem.run_bind, run_viewAt C.P q1]
                        simp only [Result.andThen]
                        show Result.ok (w.frozen? ⟨bi.b, off, none⟩) w = _
                        congr 1
                        unfold World.frozen?
                        rw [q1]
                        have hlt : off < c'.size := by
                          have := q1
                          unfold World.cell? at hcell
                          simp only [q1] at hcell
                          exact (Array.getElem?_eq_some_iff.1 (by simpa using hcell)).1
                        have := q5 rfl
                        rw [Bool.eq_false_iff]
                        simp
                        omega
                      · cases hst
                    have hread : (Extern.Atomic.read (.int k) ⟨bi.b, off, none⟩).run C.P w = .ok (.int k n) w := by
                      unfold Extern.Atomic.read
                      rw [Sem.run_bind]
                      have : (load ⟨bi.b, off, none⟩ .atomic).run C.P w = .ok (.int k n) w := by
                        rw [run_load, hcell]
                      rw [this]
                      simp [Result.andThen]
                    have hdef : (Extern.Atomic.casT (.int k) [Value.pointer (some ⟨bi.b, off, none⟩), .int kk o, c].toArray).run C.P w = (do
                        if n == o then store ⟨bi.b, off, none⟩ c .atomic
                        pure (.bool (n == o)) : Sem Value).run C.P w := by
                      show (do
                        let a ← asAddr (.pointer (some ⟨bi.b, off, none⟩))
                        if ← Extern.Atomic.touchesFrozen a then unsupported (.unsafePointer "a write to bytes that a string shares")
                        let eq ← match Extern.Atomic.T.int k, ← Extern.Atomic.read (.int k) a, Value.int kk o with
                          | _, .int _ x, .int _ y => pure (x == y)
                          | .ptr, .pointer x, .pointer y => samePointer x y
                          | .int _, .pointer (some _), .int _ 0 | .int _, .int _ 0, .pointer (some _) => pure false
                          | .int _, .pointer (some _), _ | .int _, _, .pointer (some _) => unsupported .addressObserved
                          | _, _, _ => stuck "atomic.CompareAndSwap: old is no T"
                        if eq then store a c .atomic
                        pure (.bool eq) : Sem Value).run C.P w = _
                      rw [Sem.run_bind]
                      show Result.andThen (.ok (⟨bi.b, off, none⟩ : Addr) w) _ = _
                      simp only [Result.andThen]
                      rw [Sem.run_bind, hnf]
                      simp only [Result.andThen, Bool.false_eq_true, if_false]
                      rw [Sem.run_bind, hread]
                      rfl
                    rw [hdef]
                    have heq : (n == o) = eqI n o := by
                      rw [eqI_iff, Bool.eq_iff_iff]; simp
                    rw [heq]
                    cases he : eqI n o with
                    | true =>
                      rw [he] at hq
                      cases hq
                      refine ⟨.bool true, w', ?_, .bool _, r2, r3⟩
                      simp only [if_true]
                      rw [Sem.run_bind, r1]
                      rfl
                    | false =>
                      rw [he] at hq
                      cases hq
                      exact ⟨.bool false, w, rfl, .bool _, H, Stp.refl _ _ _⟩
        · cases hq
    · cases hq
  · -- atAdd
    rename_i k id off kk y
    split at hq
    · rename_i k' n hl
      cases hk : kEq k k' with
      | false => rw [hk] at hq; cases hq
      | true =>
        rw [hk] at hq
        simp only [cond_true] at hq
        rw [kEq_iff] at hk; subst hk
        split at hq
        · rename_i h2 hst
          cases hq; cases hx
          obtain ⟨a, b, rfl, h1, h3⟩ := two _ _ ha
          cases h3
          cases h1 with
          | ptr _ _ bi hb =>
            obtain ⟨l', g1, g2, g3, g4⟩ := loadN_sim H.toHL hl hb
            cases g1 with
            | cons _ yv _ _ hy hs =>
              cases hy
              have hcell := g3 0 _ rfl
              rw [Nat.add_zero] at hcell
              obtain ⟨w', r1, r2, r3⟩ := store1 hst hb (.int k (wrapF k (n + y)))
              refine ⟨.int k (wrapF k (n + y)), w', ?_, .int _ _, r2, r3⟩
              have hread : (Extern.Atomic.read (.int k) ⟨bi.b, off, none⟩).run C.P w = .ok (.int k n) w := by
                unfold Extern.Atomic.read
                rw [Sem.run_bind]
                have : (load ⟨bi.b, off, none⟩ .atomic).run C.P w = .ok (.int k n) w := by
                  rw [run_load, hcell]
                rw [this]
                simp [Result.andThen]
              show (do
                let a ← asAddr (.pointer (some ⟨bi.b, off, none⟩))
                let old ← Extern.Atomic.read (.int k) a
                let new ← Op.intArith .add k (← asInt old) (← asInt (.int kk y))
                store a new .atomic
                pure (if true then new else old) : Sem Value).run C.P w = _
              rw [Sem.run_bind]
              show Result.andThen (.ok (⟨bi.b, off, none⟩ : Addr) w) _ = _
              simp only [Result.andThen]
              rw [Sem.run_bind, hread]
              simp only [Result.andThen]
              have hnew : (Op.intArith .add k n y).run C.P w = .ok (.int k (wrapF k (n + y))) w := by
                rw [wrapF_eq]; rfl
              rw [Sem.run_bind]
              show Result.andThen (.ok n w) _ = _
              simp only [Result.andThen]
              rw [Sem.run_bind]
              show Result.andThen (.ok y w) _ = _
              simp only [Result.andThen]
              rw [Sem.run_bind, hnew]
              simp only [Result.andThen]
              rw [Sem.run_bind, r1]
              rfl
        · cases hq
    · cases hq
  · cases hq

theorem ext_fn (ok : C.Ok) {x : Ext} {f : FuncId} {fn : Func} {er : Array Value → Sem Value} (hf : C.P.funcs[f]? = some fn) (hn : (fn.name == "runtime.NumGoroutine") = false) (hb : fn.body.isNone = true)
    (hnx : Extern.findNext fn = none) (he : Extern.find fn = some er) (hx : ExtRow x er) (args : List DV) (h : Heap) (v : DV) (h' : Heap) (hq : extD h x args = some (v, h')) : SFn C f args h v h' := fun ρ us w ha H => by
  obtain ⟨u, w', r1, r2, r3, r4⟩ := ext_run ok hx hq ha H
  unfold CallSem
  rw [run_callFunc_extern hf hn hb hnx he, r1]
  exact ⟨ρ, r2, r3, r4⟩

end Go.Dm
end

section
namespace Go.Dm

/-! tables -/
def T.All {α : Type} (p : Nat → α → Prop) : T α → Nat → Nat → Prop
  | .lf, _, _ => True
  | .nd o l r, a, s => (∀ x, o = some x → p a x) ∧ T.All p l (a + s) (2 * s) ∧ T.All p r (a + 2 * s) (2 * s)

theorem T.All.get {α : Type} {p : Nat → α → Prop} : ∀ {t : T α} {a s k : Nat} {x : α}, T.All p t a s → t.get k = some x → p (a + s * k) x
  | .lf, a, s, k, x, _, hg => by rw [T.get_lf] at hg; cases hg
  | .nd o l r, a, s, k, x, h, hg => by
    rw [T.get_nd, cond3] at hg
    by_cases h0 : k = 0
    · subst h0
      rw [if_pos rfl] at hg
      exact h.1 x hg
    · rw [if_neg h0] at hg
      by_cases h1 : k % 2 = 1
      · rw [if_pos h1, divD] at hg
        have := h.2.1.get hg
        have e : a + s + 2 * s * (k / 2) = a + s * k := by
          have : k = 2 * (k / 2) + 1 := by omega
          conv => rhs; rw [this]
          rw [Nat.mul_add, Nat.mul_one, ← Nat.mul_assoc, Nat.mul_comm s 2]; omega
        rwa [e] at this
      · rw [if_neg h1, divD, Nat.pred_eq_sub_one] at hg
        have := h.2.2.get hg
        have e : a + 2 * s + 2 * s * (k / 2 - 1) = a + s * k := by
          have : k = 2 * (k / 2 - 1) + 2 := by omega
          conv => rhs; rw [this]
          rw [Nat.mul_add, ← Nat.mul_assoc, Nat.mul_comm s 2]; omega
        rwa [e] at this

theorem T.All.node {α : Type} {p : Nat → α → Prop} {x : α} {l r : T α} {a s : Nat} (h : p a x) (hl : T.All p l (a + s) (2 * s)) (hr : T.All p r (a + 2 * s) (2 * s)) : T.All p (.nd (some x) l r) a s :=
  ⟨fun y hy => by cases hy; exact h, hl, hr⟩
theorem T.All.hole {α : Type} {p : Nat → α → Prop} {l r : T α} {a s : Nat} (hl : T.All p l (a + s) (2 * s)) (hr : T.All p r (a + 2 * s) (2 * s)) : T.All p (.nd none l r) a s :=
  ⟨(fun y hy => by cases hy), hl, hr⟩
theorem T.All.leaf {α : Type} {p : Nat → α → Prop} {a s : Nat} : T.All p (.lf : T α) a s := trivial

def T.allB {α : Type} (f : α → Bool) : T α → Bool
  | .lf => true
  | .nd o l r => (match o with | some x => f x | none => true) && T.allB f l && T.allB f r
theorem T.allB_get {α : Type} {f : α → Bool} : ∀ {t : T α} {k : Nat} {x : α}, T.allB f t = true → t.get k = some x → f x = true
  | .lf, k, x, _, hg => by rw [T.get_lf] at hg; cases hg
  | .nd o l r, k, x, h, hg => by
    unfold T.allB at h
    rw [Bool.and_eq_true, Bool.and_eq_true] at h
    rw [T.get_nd, cond3] at hg
    by_cases h0 : k = 0
    · rw [if_pos h0] at hg
      have := h.1.1
      rw [hg] at this
      exact this
    · rw [if_neg h0] at hg
      by_cases h1 : k % 2 = 1
      · rw [if_pos h1] at hg; exact T.allB_get h.1.2 hg
      · rw [if_neg h1] at hg; exact T.allB_get h.2 hg

/-! functions of which a contract is known: the last place of a byte, the first place of a text -/
def lastF (c : Nat) : Nat → Nat → Nat → Option Nat → Option Nat
  | 0, _, _, r => r
  | k + 1, n, i, r => lastF c k (n / 256) (i + 1) (bif Nat.beq (n % 256) c then some i else r)
def sLast : List DV → Option DV
  | [.str s, .int .u8 (.ofNat c)] => bif Nat.blt s.len 1073741824 && Nat.blt c 256 then some (match lastF c s.len s.num 0 none with | some i => goI i | none => .int .i64 (-1)) else none
  | _ => none
def firstF (pat : BS) : Nat → BS → Nat → Option Nat
  | 0, s, i => bif Nat.ble pat.len s.len && (s.sub 0 pat.len).eqb pat then some i else none
  | k + 1, s, i => bif Nat.ble pat.len s.len && (s.sub 0 pat.len).eqb pat then some i else firstF pat k (s.sub 1 s.len) (i + 1)
def sIdx : List DV → Option DV
  | [.str s, .str p] => bif Nat.blt s.len 1073741824 then some (match firstF p s.len s 0 with | some i => goI i | none => .int .i64 (-1)) else none
  | _ => none

def optI : Option Nat → Int
  | some i => (i : Int)
  | none => -1

theorem BS.ba_list (s : BS) : s.ba.data.toList = bytesF s.len s.num := by simp [BS.ba, BS.bytes]

theorem lastF_eq (s : ByteArray) (c : Nat) (hc : c < 256) : ∀ (k n i : Nat) (r : Option Nat), i + k = s.size → (∀ j, j < k → (s.data[i + j]!).toNat = n / 256 ^ j % 256) → optI r = Lib.lastIdx s c i →
    optI (lastF c k n i r) = Lib.lastIdx s c s.size
  | 0, n, i, r, h, _, hr => by
    unfold lastF
    rw [hr]
    congr 1
  | k + 1, n, i, r, h, hb, hr => by
    unfold lastF
    refine lastF_eq s c hc k (n / 256) (i + 1) _ (by omega) (fun j hj => ?_) ?_
    · have := hb (j + 1) (by omega)
      rw [show i + 1 + j = i + (j + 1) from by omega, this, Nat.pow_succ, Nat.mul_comm (256 ^ j), ← Nat.div_div_eq_div_mul]
    · have h0 := hb 0 (by omega)
      rw [Nat.add_zero, Nat.pow_zero, Nat.div_one] at h0
      unfold Lib.lastIdx
      rw [h0, beqD]
      by_cases e : n % 256 = c
      · rw [e, decide_eq_true rfl, if_pos rfl]; rfl
      · rw [decide_eq_false e, if_neg (by omega)]
        exact hr

theorem sLast_eq {s : BS} {c : Nat} {v : DV} (h : sLast [.str s, .int .u8 (.ofNat c)] = some v) : v = .int .i64 (Lib.lastIndexByte s.ba c) ∧ s.len < 1073741824 := by
  unfold sLast at h
  simp only [bltD] at h
  by_cases h1 : s.len < 1073741824
  · by_cases h2 : c < 256
    · rw [decide_eq_true h1, decide_eq_true h2] at h
      have key : optI (lastF c s.len s.num 0 none) = Lib.lastIndexByte s.ba c := by
        unfold Lib.lastIndexByte
        refine lastF_eq s.ba c h2 s.len s.num 0 none (by rw [Nat.zero_add, s.ba_size]) (fun j hj => ?_) rfl
        rw [Nat.zero_add]
        have hl : s.ba.data.size = s.len := s.ba_size
        have e1 : s.ba.data[j]! = s.ba.data.toList[j]'(by rw [Array.length_toList, hl]; exact hj) := by
          rw [getElem!_pos s.ba.data j (by rw [hl]; exact hj)]
          simp
        have e2 := bytesF_get s.len s.num j hj
        rw [e1]
        have e3 : s.ba.data.toList[j]? = some (UInt8.ofNat (s.num / 256 ^ j % 256)) := by rw [s.ba_list]; exact e2
        have e4 := (List.getElem?_eq_some_iff.1 e3).2
        rw [e4]
        simp
      refine ⟨?_, h1⟩
      rw [← key]
      cases e : lastF c s.len s.num 0 none with
      | none => rw [e] at h; cases h; rfl
      | some i => rw [e] at h; cases h; rfl
    · rw [decide_eq_true h1, decide_eq_false h2] at h; cases h
  · rw [decide_eq_false h1] at h; cases h

theorem firstF_eq {pat : BS} (hp : pat.ok) : ∀ (k : Nat) (s : BS) (i : Nat), s.ok → s.len = k →
    (match firstF pat k s i with | some j => (j : Int) - i | none => -1) = Lib.index s.bytes pat.bytes ∧ (∀ j, firstF pat k s i = some j → i ≤ j) := by
  have test : ∀ s : BS, s.ok → (Nat.ble pat.len s.len && (s.sub 0 pat.len).eqb pat) = pat.bytes.isPrefixOf s.bytes := fun s hs => by
    rw [Bool.eq_iff_iff, List.isPrefixOf_iff_prefix, Bool.and_eq_true]
    constructor
    · rintro ⟨h1, h2⟩
      have hle := Nat.le_of_ble_eq_true h1
      have := BS.eqb_eq h2
      have e := BS.sub_bytes s 0 pat.len (Nat.zero_le _) hle
      rw [this] at e
      rw [e, List.drop_zero]
      exact List.take_prefix _ _
    · intro h
      have hle : pat.len ≤ s.len := by
        have := h.length_le
        simpa [BS.bytes, bytesF_length] using this
      refine ⟨Nat.ble_eq_true_of_le hle, ?_⟩
      rw [BS.eqb_iff _ _ (BS.sub_ok _ _ _) hp]
      have e := BS.sub_bytes s 0 pat.len (Nat.zero_le _) hle
      rw [List.drop_zero] at e
      unfold BS.ba
      rw [e]
      have h2 := List.prefix_iff_eq_take.1 h
      have h3 : pat.bytes.length = pat.len := by simp [BS.bytes, bytesF_length]
      rw [h3] at h2
      rw [← h2]
  intro k
  induction k with
  | zero =>
    intro s i hs hk
    have hb : s.bytes = [] := by unfold BS.bytes; rw [hk]; rfl
    have ht := test s hs
    rw [hb] at ht
    unfold firstF
    rw [hb]
    unfold Lib.index
    have e2 : pat.bytes.isPrefixOf ([] : List UInt8) = pat.bytes.isEmpty := by cases pat.bytes <;> rfl
    rw [ht, e2]
    cases pat.bytes.isEmpty with
    | true => exact ⟨Int.sub_self _, fun j hj => by cases hj; exact Nat.le_refl _⟩
    | false => exact ⟨rfl, fun j hj => by cases hj⟩
  | succ k ih =>
    intro s i hs hk
    have hcons : ∃ b, s.bytes = b :: (s.sub 1 s.len).bytes := by
      have e := BS.sub_bytes s 1 s.len (by omega) (Nat.le_refl _)
      have hl : s.bytes.length = k + 1 := by simp [BS.bytes, bytesF_length, hk]
      rw [List.take_of_length_le (by omega)] at e
      cases hb : s.bytes with
      | nil => rw [hb] at hl; simp at hl
      | cons b l => exact ⟨b, by rw [e, hb]; rfl⟩
    obtain ⟨b, hb⟩ := hcons
    have ht := test s hs
    obtain ⟨i1, i2⟩ := ih (s.sub 1 s.len) (i + 1) (BS.sub_ok _ _ _) (by show s.len - 1 = k; omega)
    unfold firstF
    rw [ht, hb]
    unfold Lib.index
    cases pat.bytes.isPrefixOf (b :: (s.sub 1 s.len).bytes) with
    | true => exact ⟨Int.sub_self _, fun j hj => by cases hj; exact Nat.le_refl _⟩
    | false =>
      simp only [cond_false, Bool.false_eq_true, if_false]
      refine ⟨?_, fun j hj => by have := i2 j hj; omega⟩
      rw [← i1]
      cases e : firstF pat k (s.sub 1 s.len) (i + 1) with
      | none => rfl
      | some j =>
        have := i2 j e
        simp only
        rw [if_neg]
        · omega
        · simp; omega

theorem sIdx_eq {s p : BS} {v : DV} (hs : s.ok) (hp : p.ok) (h : sIdx [.str s, .str p] = some v) : v = .int .i64 (Lib.index s.ba.data.toList p.ba.data.toList) ∧ s.len < 1073741824 := by
  unfold sIdx at h
  simp only [bltD] at h
  by_cases h1 : s.len < 1073741824
  · rw [decide_eq_true h1] at h
    refine ⟨?_, h1⟩
    have key := (firstF_eq hp s.len s 0 hs rfl).1
    have e1 : s.ba.data.toList = s.bytes := by simp [BS.ba]
    have e2 : p.ba.data.toList = p.bytes := by simp [BS.ba]
    rw [e1, e2, ← key]
    cases e : firstF p s.len s 0 with
    | none => rw [e] at h; cases h; rfl
    | some j =>
      rw [e] at h; cases h
      have : ((j : Nat) : Int) - ((0 : Nat) : Int) = Int.ofNat j := by simp
      simp only [this]
      rfl
  · rw [decide_eq_false h1] at h; cases h

/-- a function with a body, out of a contract that leaves the world alone -/
theorem SFn.of_calls {C : Ctx} {f : FuncId} {fn : Func} {c : Code} {args : List DV} {h : Heap} {v : DV} (hf : C.P.funcs[f]? = some fn) (hn : (fn.name == "runtime.NumGoroutine") = false) (hb : fn.body = some c)
    (hc : ∀ (ρ : Ren) (us : List Value) (w : World), VRs ρ args us → C.G w → Calls C.P f us.toArray w fun e w' => (∃ u, e = .returned u ∧ ∀ ρ', VR ρ' v u) ∧ w' = w) : SFn C f args h v h := fun ρ us w ha H => by
  unfold CallSem
  rw [run_enter hf hn hb]
  refine (hc ρ us w ha H.old).mono ?_
  rintro e w' ⟨⟨u, rfl, hv⟩, rfl⟩
  exact ⟨u, rfl, ρ, hv ρ, H, Stp.refl _ _ _⟩

/-- A CLOSED RUN: what the evaluator answers true, the machine answers true, whatever lay in memory -/
theorem closed_run {C : Ctx} (ok : C.Ok) (kn : C.Known) {n : Nat} {f : FuncId} {fn : Func} {c : Code} (hf : C.P.funcs[f]? = some fn) (hn : (fn.name == "runtime.NumGoroutine") = false) (hb : fn.body = some c) {w : World} (hB : C.B = w.heap.size) (hG : C.G w)
    (hr : callD (R := Bool) (run C.S n) C.S f [] { next := 0, bl := .lf } (fun v _ => some (dvEq v (.bool true))) = some true) :
    Calls C.P f #[] w fun e w' => e = .returned (.bool true) ∧ RowKit.Below w.heap.size w w' := by
  obtain ⟨v, h', hs, hk⟩ := callD_sound ok kn hr
  have hv : v = .bool true := by
    cases hk2 : dvEq v (.bool true) with
    | true => exact dvEq_eq _ _ hk2
    | false => rw [hk2] at hk; cases hk
  subst hv
  have H0 : HR C (fun _ => none) { next := 0, bl := .lf } w := ⟨HL.empty _ _ _, fun _ _ => rfl, (fun _ _ h => by cases h), (by rw [hB]; exact Nat.le_refl _), hG⟩
  have := hs (fun _ => none) [] w .nil H0
  unfold CallSem at this
  rw [run_enter hf hn hb] at this
  refine Calls.mono this ?_
  rintro e w' ⟨u, rfl, ρ', hu, H1, S1⟩
  cases hu
  exact ⟨rfl, ⟨S1.os, S1.tape, S1.output, S1.size, fun k hk => S1.block k hk fun id o i hg _ => by cases hg⟩⟩

end Go.Dm
end
