/-
  A sound evaluator of the program's form, part 1 of 2: no program in sight. Conditions: none of its own; each theorem tells its own.
-/
import Derived.Control
import Derived.RowKit3
import Derived.Laws.OwnMore
import Derived.ChangeKeysEq
import Derived.Laws.Cells
import Derived.Laws.CopyRow
import Derived.Lib.FrozenHead
import Derived.Orders
import Derived.Defers
section
namespace Go.Dm

/-! tries -/
inductive T (α : Type) where
  | lf
  | nd (o : Option α) (l r : T α)
  deriving Inhabited

noncomputable def T.get {α : Type} (t : T α) (k : Nat) : Option α :=
  T.rec (motive := fun _ => Nat → Option α) (fun _ => none)
    (fun o _ _ ihl ihr k => Bool.rec (motive := fun _ => Option α) (Bool.rec (motive := fun _ => Option α) (ihr (Nat.pred (Nat.div k 2))) (ihl (Nat.div k 2)) (Nat.beq (Nat.land k 1) 1)) o (Nat.beq k 0)) t k
noncomputable def T.single {α : Type} (v : Option α) (f k : Nat) : T α :=
  Nat.rec (motive := fun _ => Nat → T α) (fun _ => .lf)
    (fun _ ih k => Bool.rec (motive := fun _ => T α) (Bool.rec (motive := fun _ => T α) (.nd none .lf (ih (Nat.pred (Nat.div k 2)))) (.nd none (ih (Nat.div k 2)) .lf) (Nat.beq (Nat.land k 1) 1)) (.nd v .lf .lf) (Nat.beq k 0)) f k
noncomputable def T.setO {α : Type} (v : Option α) (t : T α) (k : Nat) : T α :=
  T.rec (motive := fun _ => Nat → T α) (fun k => T.single v (Nat.succ k) k)
    (fun o l r ihl ihr k => Bool.rec (motive := fun _ => T α) (Bool.rec (motive := fun _ => T α) (.nd o l (ihr (Nat.pred (Nat.div k 2)))) (.nd o (ihl (Nat.div k 2)) r) (Nat.beq (Nat.land k 1) 1)) (.nd v l r) (Nat.beq k 0)) t k
noncomputable def T.put {α : Type} (t : T α) (k : Nat) (v : α) : T α := T.setO (some v) t k
noncomputable def T.del {α : Type} (t : T α) (k : Nat) : T α := T.setO none t k

theorem brec {α : Type} (c : Bool) (a b : α) : Bool.rec (motive := fun _ => α) b a c = cond c a b := by cases c <;> rfl

theorem T.get_lf {α : Type} (k : Nat) : (T.lf : T α).get k = none := rfl
theorem T.get_nd {α : Type} (o : Option α) (l r : T α) (k : Nat) :
    (T.nd o l r).get k = cond (Nat.beq k 0) o (cond (Nat.beq (Nat.land k 1) 1) (l.get (Nat.div k 2)) (r.get (Nat.pred (Nat.div k 2)))) := by
  show Bool.rec (motive := fun _ => Option α) (Bool.rec (motive := fun _ => Option α) (r.get (Nat.pred (Nat.div k 2))) (l.get (Nat.div k 2)) (Nat.beq (Nat.land k 1) 1)) o (Nat.beq k 0) = _
  rw [brec, brec]
theorem T.single_succ {α : Type} (v : Option α) (f k : Nat) :
    T.single v (f + 1) k = cond (Nat.beq k 0) (.nd v .lf .lf) (cond (Nat.beq (Nat.land k 1) 1) (.nd none (T.single v f (Nat.div k 2)) .lf) (.nd none .lf (T.single v f (Nat.pred (Nat.div k 2))))) := by
  show Bool.rec (motive := fun _ => T α) (Bool.rec (motive := fun _ => T α) (.nd none .lf (T.single v f (Nat.pred (Nat.div k 2)))) (.nd none (T.single v f (Nat.div k 2)) .lf) (Nat.beq (Nat.land k 1) 1)) (.nd v .lf .lf) (Nat.beq k 0) = _
  rw [brec, brec]
theorem T.setO_lf {α : Type} (v : Option α) (k : Nat) : T.setO v .lf k = T.single v (k + 1) k := rfl
theorem T.setO_nd {α : Type} (v o : Option α) (l r : T α) (k : Nat) :
    T.setO v (.nd o l r) k = cond (Nat.beq k 0) (.nd v l r) (cond (Nat.beq (Nat.land k 1) 1) (.nd o (T.setO v l (Nat.div k 2)) r) (.nd o l (T.setO v r (Nat.pred (Nat.div k 2))))) := by
  show Bool.rec (motive := fun _ => T α) (Bool.rec (motive := fun _ => T α) (.nd o l (T.setO v r (Nat.pred (Nat.div k 2)))) (.nd o (T.setO v l (Nat.div k 2)) r) (Nat.beq (Nat.land k 1) 1)) (.nd v l r) (Nat.beq k 0) = _
  rw [brec, brec]

theorem beqD (a b : Nat) : Nat.beq a b = decide (a = b) := by
  cases e : Nat.beq a b
  · have : a ≠ b := fun he => by simp [he] at e
    simp [this]
  · simp [Nat.eq_of_beq_eq_true e]
theorem landD (k : Nat) : Nat.land k 1 = k % 2 := Nat.and_one_is_mod k
theorem divD (k : Nat) : Nat.div k 2 = k / 2 := rfl

/-- the three places where a number may lie -/
theorem cond3 {α : Type} (k : Nat) (a b c : α) : cond (Nat.beq k 0) a (cond (Nat.beq (Nat.land k 1) 1) b c) = if k = 0 then a else if k % 2 = 1 then b else c := by
  rw [beqD, beqD, landD]
  simp [cond_eq_ite]

theorem T.get_single {α : Type} (v : Option α) : ∀ (f k j : Nat), k < f → (T.single v f k).get j = if j = k then v else none := by
  intro f
  induction f with
  | zero => intro k j h; omega
  | succ f ih =>
    intro k j h
    rw [T.single_succ, cond3]
    by_cases h0 : k = 0
    · subst h0
      rw [if_pos rfl, T.get_nd, cond3]
      split
      · rfl
      · split <;> rfl
    · rw [if_neg h0]
      by_cases h1 : k % 2 = 1
      · rw [if_pos h1, T.get_nd, cond3]
        by_cases j0 : j = 0
        · rw [if_pos j0, if_neg (by omega)]
        · rw [if_neg j0]
          by_cases j1 : j % 2 = 1
          · rw [if_pos j1, ih _ _ (by rw [divD]; omega), divD, divD]
            have : (j / 2 = k / 2) ↔ j = k := by omega
            simp [this]
          · rw [if_neg j1, if_neg (by omega)]; rfl
      · rw [if_neg h1, T.get_nd, cond3]
        by_cases j0 : j = 0
        · rw [if_pos j0, if_neg (by omega)]
        · rw [if_neg j0]
          by_cases j1 : j % 2 = 1
          · rw [if_pos j1, if_neg (by omega)]; rfl
          · rw [if_neg j1, ih _ _ (by rw [divD, Nat.pred_eq_sub_one]; omega), divD, divD, Nat.pred_eq_sub_one, Nat.pred_eq_sub_one]
            have : (j / 2 - 1 = k / 2 - 1) ↔ j = k := by omega
            simp [this]

theorem T.get_setO {α : Type} (v : Option α) : ∀ (t : T α) (k j : Nat), (T.setO v t k).get j = if j = k then v else t.get j := by
  intro t
  induction t with
  | lf => intro k j; rw [T.setO_lf, T.get_single _ _ _ _ (Nat.lt_succ_self k)]; rfl
  | nd o l r ihl ihr =>
    intro k j
    rw [T.setO_nd, cond3]
    by_cases h0 : k = 0
    · subst h0
      rw [if_pos rfl, T.get_nd, cond3, T.get_nd, cond3]
      by_cases j0 : j = 0
      · rw [if_pos j0, if_pos j0]
      · rw [if_neg j0, if_neg j0, if_neg j0]
    · rw [if_neg h0]
      by_cases h1 : k % 2 = 1
      · rw [if_pos h1, T.get_nd, cond3, T.get_nd, cond3]
        by_cases j0 : j = 0
        · rw [if_pos j0, if_neg (by omega), if_pos j0]
        · rw [if_neg j0, if_neg j0]
          by_cases j1 : j % 2 = 1
          · rw [if_pos j1, ihl, divD, divD]
            have : (j / 2 = k / 2) ↔ j = k := by omega
            simp [this, j1]
          · rw [if_neg j1, if_neg j1, if_neg (by omega)]
      · rw [if_neg h1, T.get_nd, cond3, T.get_nd, cond3]
        by_cases j0 : j = 0
        · rw [if_pos j0, if_neg (by omega), if_pos j0]
        · rw [if_neg j0, if_neg j0]
          by_cases j1 : j % 2 = 1
          · rw [if_pos j1, if_pos j1, if_neg (by omega)]
          · rw [if_neg j1, ihr, divD, divD, Nat.pred_eq_sub_one, Nat.pred_eq_sub_one]
            have : (j / 2 - 1 = k / 2 - 1) ↔ j = k := by omega
            simp [this, j1]

theorem T.get_put {α : Type} (t : T α) (k j : Nat) (v : α) : (t.put k v).get j = if j = k then some v else t.get j := T.get_setO _ _ _ _
theorem T.get_del {α : Type} (t : T α) (k j : Nat) : (t.del k).get j = if j = k then none else t.get j := T.get_setO _ _ _ _

/-! byte strings as numbers -/
structure BS where
  len : Nat
  num : Nat
  deriving Inhabited

def bytesF : Nat → Nat → List UInt8
  | 0, _ => []
  | k + 1, n => UInt8.ofNat (n % 256) :: bytesF k (n / 256)

def BS.bytes (s : BS) : List UInt8 := bytesF s.len s.num
def BS.ba (s : BS) : ByteArray := ⟨s.bytes.toArray⟩
def BS.ok (s : BS) : Prop := s.num < 256 ^ s.len

def numOf : List UInt8 → Nat
  | [] => 0
  | b :: l => b.toNat + 256 * numOf l
def BS.ofList (l : List UInt8) : BS := ⟨l.length, numOf l⟩
def BS.ofBA (b : ByteArray) : BS := BS.ofList b.data.toList

def BS.at (s : BS) (i : Nat) : Nat := s.num / 256 ^ i % 256
def BS.sub (s : BS) (l h : Nat) : BS := ⟨h - l, s.num / 256 ^ l % 256 ^ (h - l)⟩
def BS.app (s t : BS) : BS := ⟨s.len + t.len, s.num + t.num * 256 ^ s.len⟩
def BS.eqb (s t : BS) : Bool := Nat.beq s.len t.len && Nat.beq s.num t.num

theorem bytesF_length : ∀ k n, (bytesF k n).length = k
  | 0, _ => rfl
  | k + 1, n => by simp [bytesF, bytesF_length k]

theorem bytesF_get : ∀ (k n i : Nat), i < k → (bytesF k n)[i]? = some (UInt8.ofNat (n / 256 ^ i % 256))
  | 0, _, _, h => by omega
  | k + 1, n, 0, _ => by simp [bytesF]
  | k + 1, n, i + 1, h => by
    simp only [bytesF, List.getElem?_cons_succ]
    rw [bytesF_get k (n / 256) i (by omega), Nat.div_div_eq_div_mul, Nat.pow_succ, Nat.mul_comm 256]

theorem bytesF_take : ∀ (k n a : Nat), a ≤ k → (bytesF k n).take a = bytesF a n
  | _, _, 0, _ => by simp [bytesF]
  | k + 1, n, a + 1, h => by simp only [bytesF, List.take_succ_cons]; rw [bytesF_take k _ a (by omega)]

theorem bytesF_drop : ∀ (k n a : Nat), a ≤ k → (bytesF k n).drop a = bytesF (k - a) (n / 256 ^ a)
  | k, n, 0, _ => by simp
  | k + 1, n, a + 1, h => by
    simp only [bytesF, List.drop_succ_cons]
    rw [bytesF_drop k _ a (by omega), Nat.div_div_eq_div_mul, Nat.pow_succ, Nat.mul_comm 256, Nat.add_sub_add_right]

theorem bytesF_mod : ∀ (k n : Nat), bytesF k (n % 256 ^ k) = bytesF k n
  | 0, _ => rfl
  | k + 1, n => by
    simp only [bytesF]
    have h1 : n % 256 ^ (k + 1) % 256 = n % 256 := by
      rw [Nat.pow_succ, Nat.mul_comm]; exact Nat.mod_mul_right_mod _ _ _
    have h2 : n % 256 ^ (k + 1) / 256 = n / 256 % 256 ^ k := by
      rw [Nat.pow_succ, Nat.mul_comm, Nat.mod_mul_right_div_self]
    rw [h1, h2, bytesF_mod k]

theorem bytesF_app : ∀ (k m n j : Nat), n < 256 ^ k → bytesF (k + m) (n + j * 256 ^ k) = bytesF k n ++ bytesF m j
  | 0, m, n, j, h => by
    simp at h
    simp [bytesF, h]
  | k + 1, m, n, j, h => by
    have e : k + 1 + m = (k + m) + 1 := by omega
    rw [e]
    simp only [bytesF, List.cons_append]
    have hp : 256 ^ (k + 1) = 256 * 256 ^ k := by rw [Nat.pow_succ, Nat.mul_comm]
    have h1 : (n + j * 256 ^ (k + 1)) % 256 = n % 256 := by
      rw [hp, show j * (256 * 256 ^ k) = 256 * (j * 256 ^ k) from by rw [Nat.mul_left_comm], Nat.add_mul_mod_self_left]
    have h2 : (n + j * 256 ^ (k + 1)) / 256 = n / 256 + j * 256 ^ k := by
      rw [hp, show j * (256 * 256 ^ k) = 256 * (j * 256 ^ k) from by rw [Nat.mul_left_comm], Nat.add_mul_div_left _ _ (by omega)]
    rw [h1, h2, bytesF_app k m (n / 256) j (by rw [hp] at h; omega)]

theorem numOf_lt : ∀ l : List UInt8, numOf l < 256 ^ l.length
  | [] => by simp [numOf]
  | b :: l => by
    have := numOf_lt l
    have hb : b.toNat < 256 := b.toNat_lt
    simp only [numOf, List.length_cons, Nat.pow_succ]
    omega

theorem bytesF_numOf : ∀ l : List UInt8, bytesF l.length (numOf l) = l
  | [] => rfl
  | b :: l => by
    have hb : b.toNat < 256 := b.toNat_lt
    simp only [numOf, List.length_cons, bytesF]
    have h1 : (b.toNat + 256 * numOf l) % 256 = b.toNat := by omega
    have h2 : (b.toNat + 256 * numOf l) / 256 = numOf l := by omega
    rw [h1, h2, bytesF_numOf l]
    simp

theorem bytesF_inj : ∀ (k m n : Nat), m < 256 ^ k → n < 256 ^ k → bytesF k m = bytesF k n → m = n
  | 0, m, n, hm, hn, _ => by simp at hm hn; omega
  | k + 1, m, n, hm, hn, h => by
    simp only [bytesF, List.cons.injEq] at h
    have h1 : m % 256 = n % 256 := by
      have := congrArg UInt8.toNat h.1
      simpa using this
    have h2 := bytesF_inj k (m / 256) (n / 256) (by rw [Nat.pow_succ] at hm; omega) (by rw [Nat.pow_succ] at hn; omega) h.2
    omega

theorem BS.ba_size (s : BS) : s.ba.size = s.len := by
  show s.bytes.toArray.size = s.len
  simp [BS.bytes, bytesF_length]
theorem BS.ofList_ok (l : List UInt8) : (BS.ofList l).ok := numOf_lt l
theorem BS.ofList_bytes (l : List UInt8) : (BS.ofList l).bytes = l := bytesF_numOf l
theorem BS.ofBA_ok (b : ByteArray) : (BS.ofBA b).ok := BS.ofList_ok _
theorem BS.ofBA_ba (b : ByteArray) : (BS.ofBA b).ba = b := by
  unfold BS.ba BS.ofBA
  rw [BS.ofList_bytes]

theorem BS.sub_ok (s : BS) (l h : Nat) : (s.sub l h).ok := Nat.mod_lt _ (Nat.pow_pos (by omega))
theorem BS.sub_bytes (s : BS) (l h : Nat) (h1 : l ≤ h) (h2 : h ≤ s.len) : (s.sub l h).bytes = (s.bytes.take h).drop l := by
  unfold BS.bytes BS.sub
  simp only
  rw [bytesF_mod, bytesF_take _ _ _ h2, bytesF_drop _ _ _ h1]
theorem BS.app_ok (s t : BS) (hs : s.ok) (ht : t.ok) : (s.app t).ok := by
  unfold BS.ok BS.app at *
  simp only
  rw [Nat.pow_add]
  calc s.num + t.num * 256 ^ s.len < 256 ^ s.len + t.num * 256 ^ s.len := by omega
    _ = (t.num + 1) * 256 ^ s.len := by rw [Nat.add_mul, Nat.one_mul, Nat.add_comm]
    _ ≤ 256 ^ t.len * 256 ^ s.len := Nat.mul_le_mul_right _ (by omega)
    _ = 256 ^ s.len * 256 ^ t.len := Nat.mul_comm _ _
theorem BS.app_bytes (s t : BS) (hs : s.ok) : (s.app t).bytes = s.bytes ++ t.bytes := by
  unfold BS.bytes BS.app
  simp only
  exact bytesF_app _ _ _ _ hs
theorem BS.eqb_iff (s t : BS) (hs : s.ok) (ht : t.ok) : s.eqb t = true ↔ s.ba = t.ba := by
  unfold BS.eqb
  rw [Bool.and_eq_true]
  constructor
  · rintro ⟨h1, h2⟩
    have e1 := Nat.eq_of_beq_eq_true h1
    have e2 := Nat.eq_of_beq_eq_true h2
    unfold BS.ba BS.bytes
    rw [e1, e2]
  · intro h
    have hb : s.bytes = t.bytes := by
      have := congrArg (fun b : ByteArray => b.data.toList) h
      simpa [BS.ba] using this
    have hl : s.len = t.len := by
      have := congrArg List.length hb
      simpa [BS.bytes, bytesF_length] using this
    have hn : s.num = t.num := by
      refine bytesF_inj s.len _ _ hs (by rw [hl]; exact ht) ?_
      have := hb
      unfold BS.bytes at this
      rw [← hl] at this
      exact this
    simp [hl, hn]

end Go.Dm
end

section
namespace Go.Dm
noncomputable section

/-! values of the abstract machine -/
inductive DV where
  | bool (b : Bool)
  | int (k : IntKind) (n : Int)
  | str (s : BS)
  | nilptr
  | ptr (id off : Nat)
  | nilslice
  | slice (id off len cap g : Nat)
  | nilmap
  | map (id : Nat)
  | nilfunc
  | func (f : FuncId) (first captured : List DV)
  | nilIface
  | iface (t : TypeId) (v : DV)
  | agg (cs : List DV)
  | tuple (vs : List DV)
  deriving Inhabited

structure DEntry where
  key : DV
  val : DV
  born : Nat
  deriving Inhabited

/-- a block: a row of cells (how many; of which type; may it be longer in truth; may it be written), or a map -/
inductive DObj where
  | cells (c : T DV) (n : Nat) (elem : TypeId) (grown : Bool) (frz : Bool)
  | map (es : List DEntry) (clock : Nat)
  deriving Inhabited

structure Heap where
  next : Nat
  bl : T DObj
  deriving Inhabited

def Heap.get (h : Heap) (id : Nat) : Option DObj := match h with | ⟨_, b⟩ => b.get id
def Heap.put (h : Heap) (id : Nat) (o : DObj) : Heap := match h with | ⟨n, b⟩ => ⟨n, b.put id o⟩
def Heap.del (h : Heap) (id : Nat) : Heap := match h with | ⟨n, b⟩ => ⟨n, b.del id⟩
def Heap.new (h : Heap) (o : DObj) : Heap := match h with | ⟨n, b⟩ => ⟨Nat.succ n, b.put n o⟩

/-! functions without a body -/
inductive Ext where
  | noEscape | count | indexByte | raceNone | raceAt | atLoad (k : IntKind) | atStore | atCas (k : IntKind) | atAdd (k : IntKind)

/-! the static tables: functions, types; types whose structs compare plainly; functions of which a contract is known -/
structure St where
  fn : FuncId → Option Func
  ty : TypeId → Option TypeInfo
  plain : TypeId → Bool
  short : FuncId → Option (List DV → Option DV)
  ext : FuncId → Option Ext

def und (S : St) (t : TypeId) : Option TypeDesc :=
  match S.ty t with
  | some { desc := .named _ u, .. } => (S.ty u).map (·.desc)
  | some i => some i.desc
  | none => none

def DV.cellsL : DV → List DV
  | .agg cs => cs
  | v => [v]

def DV.one : DV → Bool
  | .agg _ => false
  | .tuple _ => false
  | _ => true

/-- constants and zero values -/
def ofCell : Value → Option DV
  | .bool b => some (.bool b)
  | .int k n => some (.int k n)
  | .string s => some (.str (BS.ofBA s))
  | .pointer none => some .nilptr
  | .slice none 0 0 => some .nilslice
  | .map none => some .nilmap
  | .nilFunc => some .nilfunc
  | .nilIface => some .nilIface
  | _ => none

def ofCells : List Value → Option (List DV)
  | [] => some []
  | v :: l => match ofCell v with
    | some d => match ofCells l with
      | some ds => some (d :: ds)
      | none => none
    | none => none

def ofVal : Value → Option DV
  | .agg cs => (ofCells cs.toList).map .agg
  | v => ofCell v

/-! the slots of a frame -/
inductive E where
  | lf
  | nd (v : DV) (l r : E)
  deriving Inhabited

def E.get (t : E) (k : Nat) : DV :=
  E.rec (motive := fun _ => Nat → DV) (fun _ => .tuple [])
    (fun v _ _ ihl ihr k => Bool.rec (motive := fun _ => DV) (Bool.rec (motive := fun _ => DV) (ihr (Nat.pred (Nat.div k 2))) (ihl (Nat.div k 2)) (Nat.beq (Nat.land k 1) 1)) v (Nat.beq k 0)) t k
def E.single (v : DV) (f k : Nat) : E :=
  Nat.rec (motive := fun _ => Nat → E) (fun _ => .lf)
    (fun _ ih k => Bool.rec (motive := fun _ => E) (Bool.rec (motive := fun _ => E) (.nd (.tuple []) .lf (ih (Nat.pred (Nat.div k 2)))) (.nd (.tuple []) (ih (Nat.div k 2)) .lf) (Nat.beq (Nat.land k 1) 1)) (.nd v .lf .lf) (Nat.beq k 0)) f k
def E.put (t : E) (k : Nat) (v : DV) : E :=
  E.rec (motive := fun _ => Nat → E) (fun k => E.single v (Nat.succ k) k)
    (fun o l r ihl ihr k => Bool.rec (motive := fun _ => E) (Bool.rec (motive := fun _ => E) (.nd o l (ihr (Nat.pred (Nat.div k 2)))) (.nd o (ihl (Nat.div k 2)) r) (Nat.beq (Nat.land k 1) 1)) (.nd v l r) (Nat.beq k 0)) t k
--E
theorem E.get_lf (k : Nat) : E.lf.get k = .tuple [] := rfl
theorem E.get_nd (o : DV) (l r : E) (k : Nat) :
    (E.nd o l r).get k = cond (Nat.beq k 0) o (cond (Nat.beq (Nat.land k 1) 1) (l.get (Nat.div k 2)) (r.get (Nat.pred (Nat.div k 2)))) := by
  show Bool.rec (motive := fun _ => DV) (Bool.rec (motive := fun _ => DV) (r.get (Nat.pred (Nat.div k 2))) (l.get (Nat.div k 2)) (Nat.beq (Nat.land k 1) 1)) o (Nat.beq k 0) = _
  rw [brec, brec]
theorem E.single_succ (v : DV) (f k : Nat) :
    E.single v (f + 1) k = cond (Nat.beq k 0) (.nd v .lf .lf) (cond (Nat.beq (Nat.land k 1) 1) (.nd (.tuple []) (E.single v f (Nat.div k 2)) .lf) (.nd (.tuple []) .lf (E.single v f (Nat.pred (Nat.div k 2))))) := by
  show Bool.rec (motive := fun _ => E) (Bool.rec (motive := fun _ => E) (.nd (.tuple []) .lf (E.single v f (Nat.pred (Nat.div k 2)))) (.nd (.tuple []) (E.single v f (Nat.div k 2)) .lf) (Nat.beq (Nat.land k 1) 1)) (.nd v .lf .lf) (Nat.beq k 0) = _
  rw [brec, brec]
theorem E.put_lf (v : DV) (k : Nat) : E.put .lf k v = E.single v (k + 1) k := rfl
theorem E.put_nd (v o : DV) (l r : E) (k : Nat) :
    E.put (.nd o l r) k v = cond (Nat.beq k 0) (.nd v l r) (cond (Nat.beq (Nat.land k 1) 1) (.nd o (E.put l (Nat.div k 2) v) r) (.nd o l (E.put r (Nat.pred (Nat.div k 2)) v))) := by
  show Bool.rec (motive := fun _ => E) (Bool.rec (motive := fun _ => E) (.nd o l (E.put r (Nat.pred (Nat.div k 2)) v)) (.nd o (E.put l (Nat.div k 2) v) r) (Nat.beq (Nat.land k 1) 1)) (.nd v l r) (Nat.beq k 0) = _
  rw [brec, brec]

theorem E.get_single (v : DV) : ∀ (f k j : Nat), k < f → (E.single v f k).get j = if j = k then v else .tuple [] := by
  intro f
  induction f with
  | zero => intro k j h; omega
  | succ f ih =>
    intro k j h
    rw [E.single_succ, cond3]
    by_cases h0 : k = 0
    · subst h0
      rw [if_pos rfl, E.get_nd, cond3]
      split
      · rfl
      · split <;> rfl
    · rw [if_neg h0]
      by_cases h1 : k % 2 = 1
      · rw [if_pos h1, E.get_nd, cond3]
        by_cases j0 : j = 0
        · rw [if_pos j0, if_neg (by omega)]
        · rw [if_neg j0]
          by_cases j1 : j % 2 = 1
          · rw [if_pos j1, ih _ _ (by rw [divD]; omega), divD, divD]
            have : (j / 2 = k / 2) ↔ j = k := by omega
            simp [this]
          · rw [if_neg j1, if_neg (by omega)]; rfl
      · rw [if_neg h1, E.get_nd, cond3]
        by_cases j0 : j = 0
        · rw [if_pos j0, if_neg (by omega)]
        · rw [if_neg j0]
          by_cases j1 : j % 2 = 1
          · rw [if_pos j1, if_neg (by omega)]; rfl
          · rw [if_neg j1, ih _ _ (by rw [divD, Nat.pred_eq_sub_one]; omega), divD, divD, Nat.pred_eq_sub_one, Nat.pred_eq_sub_one]
            have : (j / 2 - 1 = k / 2 - 1) ↔ j = k := by omega
            simp [this]

theorem E.get_put : ∀ (t : E) (k j : Nat) (v : DV), (t.put k v).get j = if j = k then v else t.get j := by
  intro t
  induction t with
  | lf => intro k j v; rw [E.put_lf, E.get_single _ _ _ _ (Nat.lt_succ_self k)]; rfl
  | nd o l r ihl ihr =>
    intro k j v
    rw [E.put_nd, cond3]
    by_cases h0 : k = 0
    · subst h0
      rw [if_pos rfl, E.get_nd, cond3, E.get_nd, cond3]
      by_cases j0 : j = 0
      · rw [if_pos j0, if_pos j0]
      · rw [if_neg j0, if_neg j0, if_neg j0]
    · rw [if_neg h0]
      by_cases h1 : k % 2 = 1
      · rw [if_pos h1, E.get_nd, cond3, E.get_nd, cond3]
        by_cases j0 : j = 0
        · rw [if_pos j0, if_neg (by omega), if_pos j0]
        · rw [if_neg j0, if_neg j0]
          by_cases j1 : j % 2 = 1
          · rw [if_pos j1, ihl, divD, divD]
            have : (j / 2 = k / 2) ↔ j = k := by omega
            simp [this, j1]
          · rw [if_neg j1, if_neg j1, if_neg (by omega)]
      · rw [if_neg h1, E.get_nd, cond3, E.get_nd, cond3]
        by_cases j0 : j = 0
        · rw [if_pos j0, if_neg (by omega), if_pos j0]
        · rw [if_neg j0, if_neg j0]
          by_cases j1 : j % 2 = 1
          · rw [if_pos j1, if_pos j1, if_neg (by omega)]
          · rw [if_neg j1, ihr, divD, divD, Nat.pred_eq_sub_one, Nat.pred_eq_sub_one]
            have : (j / 2 - 1 = k / 2 - 1) ↔ j = k := by omega
            simp [this, j1]

abbrev Defs := List (FuncId × List DV)

/-- a slot, made ready: how it is read, how it is written -/
structure EG where
  f : E → DV
structure EP where
  f : E → DV → E
def E.left (e : E) : E := E.rec (motive := fun _ => E) .lf (fun _ l _ _ _ => l) e
def E.right (e : E) : E := E.rec (motive := fun _ => E) .lf (fun _ _ r _ _ => r) e
def E.root (e : E) : DV := E.rec (motive := fun _ => DV) (.tuple []) (fun v _ _ _ _ => v) e
/-- f: at least the number of rounds -/
def getC : Nat → Nat → EG
  | 0, _ => ⟨fun e => E.rec (motive := fun _ => DV) (.tuple []) (fun v _ _ _ _ => v) e⟩
  | f + 1, k => bif Nat.beq k 0 then ⟨fun e => E.rec (motive := fun _ => DV) (.tuple []) (fun v _ _ _ _ => v) e⟩ else bif Nat.beq (Nat.land k 1) 1 then (match getC f (Nat.div k 2) with | ⟨g⟩ => ⟨fun e => g (E.rec (motive := fun _ => E) .lf (fun _ l _ _ _ => l) e)⟩) else (match getC f (Nat.pred (Nat.div k 2)) with | ⟨g⟩ => ⟨fun e => g (E.rec (motive := fun _ => E) .lf (fun _ _ r _ _ => r) e)⟩)
def putC : Nat → Nat → EP
  | 0, _ => ⟨fun e _ => e⟩
  | f + 1, k => bif Nat.beq k 0 then ⟨fun e v => E.rec (motive := fun _ => E) (.nd v .lf .lf) (fun _ l r _ _ => .nd v l r) e⟩
    else bif Nat.beq (Nat.land k 1) 1 then (match putC f (Nat.div k 2) with | ⟨g⟩ => ⟨fun e v => E.rec (motive := fun _ => E) (.nd (.tuple []) (g .lf v) .lf) (fun o l r _ _ => .nd o (g l v) r) e⟩)
    else (match putC f (Nat.pred (Nat.div k 2)) with | ⟨g⟩ => ⟨fun e v => E.rec (motive := fun _ => E) (.nd (.tuple []) .lf (g .lf v)) (fun o l r _ _ => .nd o l (g r v)) e⟩)
def slotG (k : Nat) : EG := getC (Nat.succ k) k
/-- n: how many slots there are -/
def slotP (n : Nat) (d : Option Tmp) : EP :=
  match d with
  | some k => bif Nat.blt k n then putC (Nat.succ k) k else ⟨fun e _ => e⟩
  | none => ⟨fun e _ => e⟩

/-! integers -/
def hiOf : IntKind → Nat
  | .i8 => 128 | .i16 => 32768 | .i32 => 2147483648 | .i64 => 9223372036854775808
  | .u8 => 256 | .u16 => 65536 | .u32 => 4294967296 | .u64 => 18446744073709551616
def wrapF (k : IntKind) : Int → Int
  | .ofNat a => bif Nat.blt a (hiOf k) then .ofNat a else k.wrap (.ofNat a)
  | .negSucc a => bif k.signed && Nat.blt a (hiOf k) then .negSucc a else k.wrap (.negSucc a)

def kCode : IntKind → Nat
  | .i8 => 0 | .i16 => 1 | .i32 => 2 | .i64 => 3 | .u8 => 4 | .u16 => 5 | .u32 => 6 | .u64 => 7
def kEq (a b : IntKind) : Bool := Nat.beq (kCode a) (kCode b)
theorem kEq_iff {a b : IntKind} : kEq a b = true ↔ a = b := by
  constructor
  · intro h; cases a <;> cases b <;> first | rfl | exact absurd h (by decide)
  · rintro rfl; cases a <;> rfl
/-- a sum, wrapped -/
def addW (k : IntKind) : Int → Int → Int
  | .ofNat a, .ofNat b => bif Nat.blt (Nat.add a b) (hiOf k) then .ofNat (Nat.add a b) else k.wrap (.ofNat (Nat.add a b))
  | a, b => wrapF k (Int.add a b)
def subW (k : IntKind) : Int → Int → Int
  | .ofNat a, .ofNat b => bif Nat.ble b a && Nat.blt a (hiOf k) then .ofNat (Nat.sub a b) else wrapF k (Int.sub (.ofNat a) (.ofNat b))
  | a, b => wrapF k (Int.sub a b)
def ltI : Int → Int → Bool
  | .ofNat a, .ofNat b => Nat.blt a b
  | .negSucc _, .ofNat _ => true
  | .ofNat _, .negSucc _ => false
  | .negSucc a, .negSucc b => Nat.blt b a
def eqI : Int → Int → Bool
  | .ofNat a, .ofNat b => Nat.beq a b
  | .negSucc a, .negSucc b => Nat.beq a b
  | _, _ => false
def natOf : DV → Option Nat
  | .int _ (.ofNat n) => some n
  | _ => none

def goI (n : Nat) : DV := .int .i64 (.ofNat n)

/-! cells of a block -/
def getN (c : T DV) : Nat → Nat → Option (List DV)
  | _, 0 => some []
  | off, n + 1 => match c.get off with
    | some v => match getN c (off + 1) n with
      | some l => some (v :: l)
      | none => none
    | none => none
def putN (c : T DV) : Nat → List DV → T DV
  | _, [] => c
  | off, v :: l => putN (c.put off v) (off + 1) l
def ones : List DV → Bool
  | [] => true
  | v :: l => v.one && ones l

def isAggD : TypeDesc → Bool
  | .struct _ => true
  | .array _ _ => true
  | _ => false

/-- reading n cells at a place -/
def loadN (h : Heap) (id off n : Nat) : Option (List DV) :=
  match h.get id with
  | some (.cells c m _ _ _) => bif Nat.ble (off + n) m then getN c off n else none
  | _ => none

def loadVarD (S : St) (h : Heap) (t : TypeId) : DV → Option DV
  | .ptr id off => match S.ty t, und S t with
    | some i, some d => bif isAggD d then (loadN h id off i.size).map .agg else
      match loadN h id off 1 with
      | some [v] => some v
      | _ => none
    | _, _ => none
  | _ => none

def storeN (h : Heap) (id off : Nat) (vs : List DV) : Option Heap :=
  match h.get id with
  | some (.cells c m e g false) => bif Nat.ble (off + vs.length) m && ones vs then some (h.put id (.cells (putN c off vs) m e g false)) else none
  | _ => none

def storeVarD (S : St) (h : Heap) (t : TypeId) (a v : DV) : Option Heap :=
  match a, S.ty t with
  | .ptr id off, some i => bif Nat.beq v.cellsL.length i.size then storeN h id off v.cellsL else none
  | _, _ => none

def rowD (e : TypeId) (cs : List DV) (g : Bool) : Option DObj :=
  bif ones cs then some (.cells (putN .lf 0 cs) cs.length e g false) else none

def partD (S : St) (t : TypeId) (cs : List DV) (off : Nat) : Option DV :=
  match S.ty t, und S t with
  | some i, some d => bif isAggD d then (bif Nat.ble (off + i.size) cs.length then some (.agg ((cs.take (off + i.size)).drop off)) else none) else cs[off]?
  | _, _ => none

/-! equality -/
def ptrEq (h : Heap) (i o j p : Nat) : Option Bool :=
  match h.get i, h.get j with
  | some (.cells _ _ _ false false), some (.cells _ _ _ false false) => some (Nat.beq i j && Nat.beq o p)
  | _, _ => none

def eqFields (eq : TypeId → DV → DV → Option Bool) (S : St) (xs ys : List DV) : List Field → Option Bool
  | [] => some true
  | f :: fs => match partD S f.type xs f.offset, partD S f.type ys f.offset with
    | some x, some y => match eq f.type x y with
      | some true => eqFields eq S xs ys fs
      | r => r
    | _, _ => none

def eqD (S : St) (h : Heap) : Nat → TypeId → DV → DV → Option Bool
  | 0, _, _, _ => none
  | d + 1, t, x, y => match und S t with
    | none => none
    | some u => match u, x, y with
      | .bool, .bool a, .bool b => some (a == b)
      | .int _, .int k a, .int k' b => bif kEq k k' then some (eqI a b) else none
      | .string, .str a, .str b => some (a.eqb b)
      | .pointer _, .nilptr, .nilptr => some true
      | .pointer _, .nilptr, .ptr _ _ => some false
      | .pointer _, .ptr _ _, .nilptr => some false
      | .slice _, .nilslice, .nilslice => some true
      | .slice _, .nilslice, .slice _ _ _ _ _ => some false
      | .slice _, .slice _ _ _ _ _, .nilslice => some false
      | .map _ _, .nilmap, .nilmap => some true
      | .map _ _, .nilmap, .map _ => some false
      | .map _ _, .map _, .nilmap => some false
      | .func _ _ _, .nilfunc, .nilfunc => some true
      | .func _ _ _, .nilfunc, .func _ _ _ => some false
      | .func _ _ _, .func _ _ _, .nilfunc => some false
      | .interface _, .nilIface, .iface _ _ => some false
      | .interface _, .iface _ _, .nilIface => some false
      | .pointer e, .ptr i o, .ptr j p => match S.ty e with
        | some ei => bif Nat.beq ei.size 0 then none else ptrEq h i o j p
        | none => none
      | .struct fs, .agg xs, .agg ys => bif S.plain t then eqFields (eqD S h d) S xs ys fs.toList else none
      | _, _, _ => none

def eqTop (S : St) (h : Heap) (t : TypeId) (xc : Bool) (x y : DV) : Option Bool :=
  match x, y with
  | .nilIface, .nilIface => bif xc then (match und S t with | some (.interface _) => some true | _ => none) else none
  | _, _ => eqD S h 64 t x y

/-! operators -/
def binI (op : BinOp) (k : IntKind) (a b : Int) : Option DV :=
  match op with
  | .add => some (.int k (wrapF k (a + b)))
  | .sub => some (.int k (wrapF k (a - b)))
  | .mul => some (.int k (wrapF k (a * b)))
  | .quo => bif eqI b 0 then none else some (.int k (wrapF k (a.tdiv b)))
  | .rem => bif eqI b 0 then none else some (.int k (a.tmod b))
  | .eql => some (.bool (eqI a b))
  | .neq => some (.bool (!eqI a b))
  | .lss => some (.bool (ltI a b))
  | .leq => some (.bool (!ltI b a))
  | .gtr => some (.bool (ltI b a))
  | .geq => some (.bool (!ltI a b))
  | _ => none

def binS (op : BinOp) (a b : BS) : Option DV :=
  match op with
  | .add => bif Nat.blt (a.len + b.len) 1073741824 then some (.str (a.app b)) else none
  | .eql => some (.bool (a.eqb b))
  | .neq => some (.bool (!a.eqb b))
  | _ => none

def isConstO : Operand → Bool
  | .const _ => true
  | _ => false

def binD (S : St) (h : Heap) (op : BinOp) (t : TypeId) (xo yo : Operand) (x y : DV) : Option DV :=
  match x, y with
  | .int k a, .int k' b => bif kEq k k' then binI op k a b else none
  | .str a, .str b => binS op a b
  | x, y => match op with
    | .eql => (eqTop S h t (isConstO xo || isConstO yo) x y).map .bool
    | .neq => (eqTop S h t (isConstO xo || isConstO yo) x y).map fun b => .bool !b
    | _ => none

def unD (op : UnOp) (x : DV) : Option DV :=
  match op, x with
  | .not, .bool b => some (.bool !b)
  | .neg, .int k n => some (.int k (wrapF k (0 - n)))
  | _, _ => none

/-! struct and array literals -/
def spliceL (cs : List DV) (off : Nat) (vs : List DV) : List DV := cs.take off ++ vs ++ cs.drop (off + vs.length)

def fillD (place : Nat → Option (Nat × Nat)) : List DV → List (Nat × DV) → Option (List DV)
  | cells, [] => some cells
  | cells, (i, v) :: rest => match place i with
    | none => none
    | some (off, size) => bif Nat.beq v.cellsL.length size && Nat.ble (off + v.cellsL.length) cells.length then fillD place (spliceL cells off v.cellsL) rest else none

def sizesD (S : St) : List Field → Option (List (Nat × Nat))
  | [] => some []
  | f :: fs => match S.ty f.type, sizesD S fs with
    | some i, some l => some ((f.offset, i.size) :: l)
    | _, _ => none

def zeroD (S : St) (t : TypeId) : Option DV :=
  match S.ty t with
  | some i => match i.zero with
    | some z => ofVal z
    | none => none
  | none => none

def repL (z : List DV) : Nat → List DV
  | 0 => []
  | n + 1 => z ++ repL z n

def buildD (S : St) (t : TypeId) (parts : List (Nat × DV)) : Option DV :=
  match zeroD S t, und S t with
  | some z, some (.struct fs) => match sizesD S fs.toList with
    | some pl => (fillD (fun i => pl[i]?) z.cellsL parts).map .agg
    | none => none
  | some z, some (.array _ e) => match S.ty e with
    | some i => (fillD (fun k => some (k * i.size, i.size)) z.cellsL parts).map .agg
    | none => none
  | _, _ => none

def buildSliceD (S : St) (id : Nat) (t : TypeId) (len : Nat) (parts : List (Nat × DV)) : Option (DV × DObj) :=
  match und S t with
  | some (.slice e) => match S.ty e, zeroD S e with
    | some i, some z => bif Nat.ble (len * i.size) 16777216 && Nat.ble 1 i.size && Nat.beq z.cellsL.length i.size then
        match fillD (fun k => some (k * i.size, i.size)) (repL z.cellsL len) parts with
        | some cs => match rowD e cs false with
          | some o => some (.slice id 0 len len 0, o)
          | none => none
        | none => none
      else none
    | _, _ => none
  | _ => none

def makeSliceD (S : St) (id : Nat) (t : TypeId) (l c : DV) : Option (DV × DObj) :=
  match und S t, natOf l, natOf c with
  | some (.slice e), some l, some c => match S.ty e, zeroD S e with
    | some i, some z => bif Nat.ble l c && Nat.ble c 16777216 && Nat.ble i.bytes 65536 && Nat.ble 1 i.size && Nat.beq z.cellsL.length i.size then
        match rowD e (repL z.cellsL c) false with
        | some o => some (.slice id 0 l c 0, o)
        | none => none
      else none
    | _, _ => none
  | _, _, _ => none

/-! slicing -/
def optNat : Option DV → Option (Option Nat)
  | none => some none
  | some v => match natOf v with
    | some n => some (some n)
    | none => none

def sliceD (S : St) (t : TypeId) (x : DV) (lo hi mx : Option DV) : Option DV :=
  match und S t, optNat lo, optNat hi, optNat mx with
  | some u, some lo, some hi, some mx => match u, x with
    | .string, .str s => match mx with
      | some _ => none
      | none => bif Nat.ble (hi.getD s.len) s.len && Nat.ble (lo.getD 0) (hi.getD s.len) then some (.str (s.sub (lo.getD 0) (hi.getD s.len))) else none
    | .slice e, .slice id off len cap g => match S.ty e with
      | some i => match hi, mx with
        | none, some _ => none
        | _, _ =>
          bif Nat.ble (mx.getD cap) cap && Nat.ble (hi.getD len) (mx.getD cap) && Nat.ble (lo.getD 0) (hi.getD len) then
            bif Nat.blt (lo.getD 0) (mx.getD cap) then
              bif mx.isSome || Nat.beq g 0 || Nat.beq g i.size then some (.slice id (off + lo.getD 0 * i.size) (hi.getD len - lo.getD 0) (mx.getD cap - lo.getD 0) (bif mx.isSome then 0 else g)) else none
            else bif mx.isSome || Nat.beq g 0 then some (.slice id off (hi.getD len - lo.getD 0) 0 0) else none
          else none
      | none => none
    | .slice e, .nilslice => match mx, S.ty e with
      | some _, _ => none
      | none, none => none
      | none, some _ => bif Nat.beq (hi.getD 0) 0 && Nat.beq (lo.getD 0) 0 then some .nilslice else none
    | _, _ => none
  | _, _, _, _ => none

/-! maps -/
def sameNowD : TypeDesc → DV → DV → Option Bool
  | .int _, .int k a, .int k' b => bif kEq k k' then some (eqI a b) else none
  | .string, .str a, .str b => some (a.eqb b)
  | _, _, _ => none

def keyEq (S : St) (kt : TypeId) (u : TypeDesc) (x y : DV) : Option Bool :=
  match u with
  | .struct _ => match x, y with
    | .agg _, .agg _ => eqD S { next := 0, bl := .lf } 64 kt x y
    | _, _ => none
  | _ => sameNowD u x y

def findD (S : St) (kt : TypeId) (u : TypeDesc) (k : DV) : List DEntry → Nat → Option (Option (Nat × DV))
  | [], _ => some none
  | e :: es, i => match keyEq S kt u k e.key with
    | some true => some (some (i, e.val))
    | some false => findD S kt u k es (i + 1)
    | none => none

def allKeys (S : St) (kt : TypeId) (u : TypeDesc) (k : DV) : List DEntry → Bool
  | [] => true
  | e :: es => (keyEq S kt u k e.key).isSome && allKeys S kt u k es

def keyFields (S : St) (xs : List DV) : List Field → Bool
  | [] => true
  | f :: fs => (match partD S f.type xs f.offset, und S f.type with
    | some (.str _), some .string => true
    | some (.int _ _), some (.int _) => true
    | _, _ => false) && keyFields S xs fs

def keyOk (S : St) (kt : TypeId) (u : TypeDesc) (k : DV) : Bool :=
  match u, k with
  | .int _, .int _ _ => true
  | .string, .str _ => true
  | .struct fs, .agg xs => S.plain kt && keyFields S xs fs.toList
  | _, _ => false

def bitsCell : DV → DV → Bool
  | .int j a, .int k b => kEq j k && eqI a b
  | .str a, .str b => a.eqb b
  | .bool a, .bool b => a == b
  | _, _ => false
def bitsCells : List DV → List DV → Bool
  | [], [] => true
  | a :: x, b :: y => bitsCell a b && bitsCells x y
  | _, _ => false
def sameBitsD : DV → DV → Bool
  | .agg a, .agg b => bitsCells a b
  | a, b => bitsCell a b

def setNth (es : List DEntry) : Nat → DEntry → List DEntry
  | i, e => match es, i with
    | [], _ => []
    | _ :: l, 0 => e :: l
    | x :: l, i + 1 => x :: setNth l i e

def lookupD (S : St) (h : Heap) (t : TypeId) (x k : DV) (ok : Bool) : Option DV :=
  match und S t with
  | some (.map kt e) => match und S kt, zeroD S e with
    | some u, some z =>
      bif keyOk S kt u k then
        match (match x with
          | .nilmap => some none
          | .map r => match h.get r with
            | some (.map es _) => findD S kt u k es 0
            | _ => none
          | _ => none) with
        | some (some (_, v)) => some (bif ok then .tuple [v, .bool true] else v)
        | some none => some (bif ok then .tuple [z, .bool false] else z)
        | none => none
      else none
    | _, _ => none
  | _ => none

def mapUpdateD (S : St) (h : Heap) (t : TypeId) (x k v : DV) : Option Heap :=
  match und S t, x with
  | some (.map kt _), .map r => match und S kt, h.get r with
    | some u, some (.map es clock) =>
      bif keyOk S kt u k then
        match findD S kt u k es 0 with
        | some (some (i, _)) => match es[i]? with
          | some e => bif sameBitsD e.key k then some (h.put r (.map (setNth es i { e with key := k, val := v }) clock)) else none
          | none => none
        | some none => some (h.put r (.map (es ++ [{ key := k, val := v, born := clock }]) (clock + 1)))
        | none => none
      else none
    | _, _ => none
  | _, _ => none

def mapEntryD (S : St) (h : Heap) (t : TypeId) (x k : DV) : Option (DV × Heap) :=
  match und S t, x with
  | some (.map kt e), .map r => match und S kt, h.get r, zeroD S e with
    | some u, some (.map es clock), some z =>
      bif keyOk S kt u k then
        match findD S kt u k es 0 with
        | some (some (i, v)) => match es[i]? with
          | some e => bif sameBitsD e.key k then some (.tuple [v, goI e.born], h.put r (.map (setNth es i { e with key := k }) clock)) else none
          | none => none
        | some none => some (.tuple [z, goI clock], h.put r (.map (es ++ [{ key := k, val := z, born := clock }]) (clock + 1)))
        | none => none
      else none
    | _, _, _ => none
  | _, _ => none

def findBorn (b : Nat) : List DEntry → Nat → Option (Nat × DEntry)
  | [], _ => none
  | e :: es, i => bif Nat.beq e.born b then some (i, e) else findBorn b es (i + 1)

def entryStoreD (h : Heap) (x s v : DV) : Option Heap :=
  match x, natOf s with
  | .map r, some b => match h.get r with
    | some (.map es clock) => match findBorn b es 0 with
      | some (i, e) => some (h.put r (.map (setNth es i { e with val := v }) clock))
      | none => none
    | _ => none
  | _, _ => none

/-! append -/
def bytesD : Nat → Nat → List DV
  | 0, _ => []
  | k + 1, n => .int .u8 (.ofNat (n % 256)) :: bytesD k (n / 256)

def newsD (h : Heap) (sz : Nat) : DV → Option (Nat × List DV)
  | .nilslice => some (0, [])
  | .slice id off len _ _ => match loadN h id off (len * sz) with
    | some l => some (len, l)
    | none => none
  | .str s => bif Nat.beq sz 1 then some (s.len, bytesD s.len s.num) else none
  | _ => none

def appendD (S : St) (h : Heap) (t : TypeId) (t2 : TypeId) (s x : DV) : Option (DV × Heap) :=
  match und S t, und S t2 with
  | some (.slice e), some u2 => match S.ty e, zeroD S e with
    | some i, some z => match (match u2 with | .int _ => none | _ => newsD h i.size x) with
      | some (n, news) =>
        bif Nat.ble 1 i.size && Nat.ble i.bytes 65536 && Nat.ble 1 i.bytes && Nat.ble n 16777216 && ones news && Nat.beq news.length (n * i.size) && Nat.beq z.cellsL.length i.size then
          match s with
          | .nilslice => bif Nat.beq n 0 then some (.nilslice, h) else match rowD e news true with
            | some o => some (.slice h.next 0 n n i.size, h.new o)
            | none => none
          | .slice id off len cap g =>
            bif Nat.ble (len + n) cap then
              match storeN h id (off + len * i.size) news with
              | some h' => some (.slice id off (len + n) cap g, h')
              | none => none
            else bif Nat.ble (len + n) 16777216 && Nat.ble len cap then
              match h.get id with
              | some (.cells c m e' gr frz) =>
                bif Nat.beq g 0 then
                  bif Nat.ble (off + len * i.size) m then
                    match getN c off (len * i.size) with
                    | some old => bif ones old then match rowD e (old ++ news) true with
                      | some o => some (.slice h.next 0 (len + n) (len + n) i.size, h.new o)
                      | none => none else none
                    | none => none
                  else none
                else bif Nat.beq off 0 && Nat.beq e e' && gr && !frz && Nat.beq (len * i.size) m && Nat.beq g i.size then
                  some (.slice h.next 0 (len + n) (len + n) i.size, (h.del id).new (.cells (putN c m news) ((len + n) * i.size) e true false))
                else none
              | _ => none
            else none
          | _ => none
        else none
      | none => none
    | _, _ => none
  | _, _ => none

def copyD (S : St) (h : Heap) (t : TypeId) (d s : DV) : Option (DV × Heap) :=
  match und S t with
  | some (.slice e) => match S.ty e with
    | some i => match d, s with
      | .slice id off len _ _, .slice id' off' len' _ _ =>
        let n := Nat.min len' len
        match loadN h id' off' (n * i.size) with
        | some l => match storeN h id off l with
          | some h' => some (goI n, h')
          | none => none
        | none => none
      | _, _ => none
    | none => none
  | _ => none

def lenD (S : St) (h : Heap) (t : TypeId) (x : DV) : Option DV :=
  match und S t, x with
  | some .string, .str s => some (goI s.len)
  | some (.slice _), .slice _ _ n _ _ => some (goI n)
  | some (.slice _), .nilslice => some (goI 0)
  | some (.map _ _), .nilmap => some (goI 0)
  | some (.map _ _), .map r => match h.get r with
    | some (.map es _) => some (goI es.length)
    | _ => none
  | _, _ => none

def foldM2 (f : Int → Int → Int) (k : IntKind) : Int → List DV → Option DV
  | a, [] => some (.int k a)
  | a, .int k' b :: l => bif kEq k k' then foldM2 f k (f a b) l else none
  | _, _ => none
def maxMinD (mx : Bool) : List DV → Option DV
  | .int k a :: l => foldM2 (fun x y => bif mx then (bif ltI x y then y else x) else (bif ltI y x then y else x)) k a l
  | _ => none

/-! conversions -/
def convD (S : St) (h : Heap) (src dst : TypeId) (x : DV) : Option DV :=
  match und S src, und S dst, x with
  | some (.int _), some (.int k), .int _ n => some (.int k (wrapF k n))
  | some .string, some .string, .str s => some (.str s)
  | some (.pointer t), some .unsafePointer, .ptr id off =>
    match S.ty t, h.get id with
    | some i, some (.cells _ n _ _ _) => bif Nat.ble 1 i.size && Nat.blt off n then some (.ptr id off) else none
    | _, _ => none
  | some .unsafePointer, some (.pointer u), .ptr id off =>
    match S.ty u, h.get id with
    | some i, some (.cells _ n e false _) => bif Nat.ble 1 i.size && Nat.beq off 0 && Nat.beq e u && Nat.beq n i.size then some (.ptr id off) else none
    | _, _ => none
  | _, _, _ => none

/-- the bytes of a row of byte cells -/
def bytesOf : List DV → Option (List Nat)
  | [] => some []
  | .int .u8 (.ofNat n) :: l => bif Nat.blt n 256 then (match bytesOf l with | some r => some (n :: r) | none => none) else none
  | _ => none
def numOfN : List Nat → Nat
  | [] => 0
  | b :: l => b + 256 * numOfN l

/-! functions without a body -/
def countF (c : Nat) : Nat → Nat → Nat
  | 0, _ => 0
  | k + 1, n => (bif Nat.beq (n % 256) c then 1 else 0) + countF c k (n / 256)
def indexF (c : Nat) : Nat → Nat → Nat → Option Nat
  | 0, _, _ => none
  | k + 1, n, i => bif Nat.beq (n % 256) c then some i else indexF c k (n / 256) (i + 1)

def extD (h : Heap) (x : Ext) (args : List DV) : Option (DV × Heap) :=
  match x, args with
  | .noEscape, [v] => some (v, h)
  | .count, [.str s, .int .u8 (.ofNat c)] => bif Nat.blt c 256 then some (goI (countF c s.len s.num), h) else none
  | .indexByte, [.str s, .int .u8 (.ofNat c)] => bif Nat.blt c 256 then some ((match indexF c s.len s.num 0 with | some i => goI i | none => .int .i64 (-1)), h) else none
  | .raceNone, _ => some (.tuple [], h)
  | .raceAt, .ptr _ _ :: _ => some (.tuple [], h)
  | .atLoad k, [.ptr id off] => match loadN h id off 1 with
    | some [.int k' n] => bif kEq k k' then some (.int k n, h) else none
    | _ => none
  | .atStore, [.ptr id off, v] => match storeN h id off [v] with
    | some h' => some (.tuple [], h')
    | none => none
  | .atCas k, [.ptr id off, .int _ o, v] => match loadN h id off 1 with
    | some [.int k' n] => bif kEq k k' then (match storeN h id off [v] with
      | some h' => bif eqI n o then some (.bool true, h') else some (.bool false, h)
      | none => none) else none
    | _ => none
  | .atAdd k, [.ptr id off, .int _ y] => match loadN h id off 1 with
    | some [.int k' n] => bif kEq k k' then (let v := DV.int k (wrapF k (n + y)); match storeN h id off [v] with
      | some h' => some (v, h')
      | none => none) else none
    | _ => none
  | _, _ => none

end
end Go.Dm
end

section
namespace Go.Dm
noncomputable section

/-! operations, made ready once: quiet ones (a value out of the frame and what lies in memory), those that make one new block, the others -/
structure FV where
  f : E → DV
structure FQ where
  f : E → Heap → Option DV
structure FA where
  f : E → Nat → Option (DV × DObj)
inductive ERes where
  | val (v : DV) (h : Heap)
  | skip (h : Heap)
  | call (f : FuncId) (args : List DV)
  | defer (f : FuncId) (args : List DV)
structure FE where
  f : E → Heap → Option ERes
inductive FO where
  | q (x : FQ)
  | a (x : FA)
  | e (x : FE)
  | bad

def evC : Operand → Option FV
  | .tmp t => match slotG t with
    | ⟨g⟩ => some ⟨g⟩
  | .const v => match ofVal v with
    | some d => some ⟨fun _ => d⟩
    | none => none
  | .global _ => none
  | .func f => some ⟨fun _ => .func f [] []⟩

def evCs : List Operand → Option (List FV)
  | [] => some []
  | o :: l => match evC o, evCs l with
    | some v, some vs => some (v :: vs)
    | _, _ => none
def evCp : List (Nat × Operand) → Option (List (Nat × FV))
  | [] => some []
  | (i, o) :: l => match evC o, evCp l with
    | some v, some vs => some ((i, v) :: vs)
    | _, _ => none
def evO : Option Operand → Option (Option FV)
  | none => some none
  | some x => match evC x with
    | some v => some (some v)
    | none => none
def FV.all (fr : E) : List FV → List DV
  | [] => []
  | v :: l => v.f fr :: FV.all fr l
def FV.parts (fr : E) : List (Nat × FV) → List (Nat × DV)
  | [] => []
  | (i, v) :: l => (i, v.f fr) :: FV.parts fr l
def FV.opt (fr : E) : Option FV → Option DV
  | none => none
  | some v => some (v.f fr)

def loadAgg (h : Heap) (n : Nat) : DV → Option DV
  | .ptr id off => match loadN h id off n with
    | some l => some (.agg l)
    | none => none
  | _ => none
def loadOne (h : Heap) : DV → Option DV
  | .ptr id off => match h.get id with
    | some (.cells c m _ _ _) => bif Nat.blt off m then c.get off else none
    | _ => none
  | _ => none

def nilOk : DV → Option DV
  | .ptr id off => some (.ptr id off)
  | .func f a b => some (.func f a b)
  | _ => none

/-- neither a number nor a string -/
def plainD : DV → Bool
  | .int _ _ => false
  | .str _ => false
  | _ => true

structure F2 where
  f : Heap → DV → DV → Option DV
def binC (S : St) (op : BinOp) (t : TypeId) (c : Bool) : F2 :=
  match op with
  | .add => ⟨fun _ x y => match x, y with
    | .int k a, .int k' b => bif kEq k k' then some (.int k (addW k a b)) else none
    | .str a, .str b => bif Nat.blt (a.len + b.len) 1073741824 then some (.str (a.app b)) else none
    | _, _ => none⟩
  | .sub => ⟨fun _ x y => match x, y with
    | .int k a, .int k' b => bif kEq k k' then some (.int k (subW k a b)) else none
    | _, _ => none⟩
  | .lss => ⟨fun _ x y => match x, y with
    | .int k a, .int k' b => bif kEq k k' then some (.bool (ltI a b)) else none
    | _, _ => none⟩
  | .leq => ⟨fun _ x y => match x, y with
    | .int k a, .int k' b => bif kEq k k' then some (.bool (!ltI b a)) else none
    | _, _ => none⟩
  | .gtr => ⟨fun _ x y => match x, y with
    | .int k a, .int k' b => bif kEq k k' then some (.bool (ltI b a)) else none
    | _, _ => none⟩
  | .geq => ⟨fun _ x y => match x, y with
    | .int k a, .int k' b => bif kEq k k' then some (.bool (!ltI a b)) else none
    | _, _ => none⟩
  | .eql => ⟨fun h x y => match x, y with
    | .int k a, .int k' b => bif kEq k k' then some (.bool (eqI a b)) else none
    | .str a, .str b => some (.bool (a.eqb b))
    | x, y => bif plainD x then (match eqTop S h t c x y with
      | some b => some (.bool b)
      | none => none) else none⟩
  | .neq => ⟨fun h x y => match x, y with
    | .int k a, .int k' b => bif kEq k k' then some (.bool (!eqI a b)) else none
    | .str a, .str b => some (.bool !(a.eqb b))
    | x, y => bif plainD x then (match eqTop S h t c x y with
      | some b => some (.bool !b)
      | none => none) else none⟩
  | op => ⟨fun _ x y => match x, y with
    | .int k a, .int k' b => bif kEq k k' then binI op k a b else none
    | _, _ => none⟩

def fieldA (off : Nat) : DV → Option DV
  | .ptr id o => some (.ptr id (o + off))
  | _ => none
def idxA (sz : Nat) : DV → DV → Option DV
  | .slice id off len _ _, .int _ (.ofNat n) => bif Nat.blt n len then some (.ptr id (off + n * sz)) else none
  | _, _ => none
def idxS : DV → DV → Option DV
  | .str s, .int _ (.ofNat n) => bif Nat.blt n s.len then some (.int .u8 (.ofNat (s.at n))) else none
  | _, _ => none
def idxArr (S : St) (len : Nat) (e : TypeId) (sz : Nat) : DV → DV → Option DV
  | .agg cs, .int _ (.ofNat n) => bif Nat.blt n len then partD S e cs (n * sz) else none
  | _, _ => none
def fieldD (S : St) (t : TypeId) (off : Nat) : DV → Option DV
  | .agg cs => partD S t cs off
  | _ => none
def extractD (i : Nat) : DV → Option DV
  | .tuple vs => vs[i]?
  | _ => none
def pickD (c a b : DV) : Option DV :=
  match c with
  | .bool t => some (bif t then a else b)
  | _ => none
def sliceDataD : List DV → Option DV
  | [.slice id off _ cap _] => bif Nat.beq cap 0 then none else some (.ptr id off)
  | [.nilslice] => some .nilptr
  | _ => none
def boxD (t : TypeId) (id : Nat) (v : DV) : Option (DV × DObj) :=
  match v with
  | .tuple _ => none
  | v => match rowD t v.cellsL false with
    | some b => some (.ptr id 0, b)
    | none => none
def mapD (id : Nat) : DV → Option (DV × DObj)
  | .int _ _ => some (.map id, .map [] 0)
  | _ => none
def convBytesD (e : TypeId) (h : Heap) : DV → Option ERes
  | .str b => some (.val (.slice h.next 0 b.len b.len 1) (h.new (.cells (putN .lf 0 (bytesD b.len b.num)) b.len e true false)))
  | _ => none
def unsafeStringD (e : TypeId) (h : Heap) : List DV → Option ERes
  | [.ptr id off, .int _ (.ofNat n)] => bif Nat.beq n 0 then some (.val (.str ⟨0, 0⟩) h) else
    match h.get id with
    | some (.cells c m e' g _) => bif Nat.ble (off + n) m && Nat.beq e e' && Nat.ble n 1073741824 then
      (match getN c off n with
      | some l => match bytesOf l with
        | some bs => some (.val (.str ⟨n, numOfN bs⟩) (h.put id (.cells c m e' g true)))
        | none => none
      | none => none) else none
    | _ => none
  | [.nilptr, .int _ (.ofNat n)] => bif Nat.beq n 0 then some (.val (.str ⟨0, 0⟩) h) else none
  | _ => none
def skipE : Option Heap → Option ERes
  | some h => some (.skip h)
  | none => none
def valE : Option (DV × Heap) → Option ERes
  | some (v, h) => some (.val v h)
  | none => none
def joinA (first args captured : List DV) : List DV :=
  match first, captured with
  | [], [] => args
  | _, _ => first ++ args ++ captured
theorem joinA_eq (a b c : List DV) : joinA a b c = a ++ b ++ c := by
  unfold joinA
  split
  · simp
  · rfl
def callE (defer : Bool) (args : List DV) : DV → Option ERes
  | .func f first captured => bif defer then some (.defer f (joinA first args captured)) else some (.call f (joinA first args captured))
  | _ => none

/-- calls of builtins -/
def builtF (S : St) (b : Builtin) (ts : List TypeId) (args : List FV) : FO :=
  match b with
  | .len => match ts, args with
    | t :: _, x :: _ => .q ⟨fun fr h => lenD S h t (x.f fr)⟩
    | _, _ => .bad
  | .max => .q ⟨fun fr _ => maxMinD true (FV.all fr args)⟩
  | .min => .q ⟨fun fr _ => maxMinD false (FV.all fr args)⟩
  | .unsafeSliceData => .q ⟨fun fr _ => sliceDataD (FV.all fr args)⟩
  | .append => match ts, args with
    | [t, t2], [s, x] => .e ⟨fun fr h => valE (appendD S h t t2 (s.f fr) (x.f fr))⟩
    | _, _ => .bad
  | .copy => match ts, args with
    | t :: _, [d, s] => .e ⟨fun fr h => valE (copyD S h t (d.f fr) (s.f fr))⟩
    | _, _ => .bad
  | .recover => .e ⟨fun _ h => some (.val .nilIface h)⟩
  | .unsafeString => match ts with
    | pt :: _ => match und S pt with
      | some (.pointer e) => match und S e, S.ty e with
        | some (.int .u8), some i => bif Nat.beq i.size 1 then .e ⟨fun fr h => unsafeStringD e h (FV.all fr args)⟩ else .bad
        | _, _ => .bad
      | _ => .bad
    | _ => .bad
  | _ => .bad

def convF (S : St) (s d : TypeId) (x : FV) : FO :=
  match und S s, und S d with
  | some .string, some (.slice e) => match und S e, S.ty e with
    | some (.int .u8), some i => bif Nat.beq i.size 1 then .e ⟨fun fr h => convBytesD e h (x.f fr)⟩ else .bad
    | _, _ => .bad
  | _, _ => .q ⟨fun fr h => convD S h s d (x.f fr)⟩

def opF (S : St) (o : Op) : FO :=
  match o with
  | .move x => match evC x with
    | some x => .q ⟨fun fr _ => some (x.f fr)⟩
    | none => .bad
  | .assign x => match evC x with
    | some x => .q ⟨fun fr _ => some (x.f fr)⟩
    | none => .bad
  | .pick c a b => match evC c, evC a, evC b with
    | some c, some a, some b => .q ⟨fun fr _ => pickD (c.f fr) (a.f fr) (b.f fr)⟩
    | _, _, _ => .bad
  | .build t parts => match evCp parts.toList with
    | some ps => .q ⟨fun fr _ => buildD S t (FV.parts fr ps)⟩
    | none => .bad
  | .load t a => match evC a, S.ty t, und S t with
    | some a, some i, some d => .q (bif isAggD d then ⟨fun fr h => loadAgg h i.size (a.f fr)⟩ else ⟨fun fr h => loadOne h (a.f fr)⟩)
    | _, _, _ => .bad
  | .nilCheck x => match evC x with
    | some x => .q ⟨fun fr _ => nilOk (x.f fr)⟩
    | none => .bad
  | .binOp op t x y _ => match evC x, evC y with
    | some a, some b => match binC S op t (isConstO x || isConstO y) with
      | ⟨g⟩ => .q ⟨fun fr h => g h (a.f fr) (b.f fr)⟩
    | _, _ => .bad
  | .unOp op _ x => match evC x with
    | some a => .q ⟨fun fr _ => unD op (a.f fr)⟩
    | none => .bad
  | .convert s d x => match evC x with
    | some a => convF S s d a
    | none => .bad
  | .makeInterface t x => match evC x, und S t with
    | some _, some (.interface _) => .bad
    | some x, some _ => .q ⟨fun fr _ => some (.iface t (x.f fr))⟩
    | _, _ => .bad
  | .makeFunc (.func f) first captured => match evCs first.toList, evCs captured.toList with
    | some a, some b => .q ⟨fun fr _ => some (.func f (FV.all fr a) (FV.all fr b))⟩
    | _, _ => .bad
  | .slice t x lo hi mx => match evC x, evO lo, evO hi, evO mx with
    | some x, some lo, some hi, some mx => .q ⟨fun fr _ => sliceD S t (x.f fr) (FV.opt fr lo) (FV.opt fr hi) (FV.opt fr mx)⟩
    | _, _, _, _ => .bad
  | .fieldAddr t x f => match evC x, und S t with
    | some x, some (.struct fs) => match fs[f]? with
      | some fd => match S.ty fd.type with
        | some i => bif Nat.beq i.size 0 then .bad else .q ⟨fun fr _ => fieldA fd.offset (x.f fr)⟩
        | none => .bad
      | none => .bad
    | _, _ => .bad
  | .field t x f => match evC x, und S t with
    | some x, some (.struct fs) => match fs[f]? with
      | some fd => .q ⟨fun fr _ => fieldD S fd.type fd.offset (x.f fr)⟩
      | none => .bad
    | _, _ => .bad
  | .indexAddr t x i => match evC x, evC i, und S t with
    | some x, some i, some (.slice e) => match S.ty e with
      | some ei => .q ⟨fun fr _ => idxA ei.size (x.f fr) (i.f fr)⟩
      | none => .bad
    | _, _, _ => .bad
  | .index t x i => match evC x, evC i, und S t with
    | some x, some i, some .string => .q ⟨fun fr _ => idxS (x.f fr) (i.f fr)⟩
    | some x, some i, some (.array len e) => match S.ty e with
      | some ei => .q ⟨fun fr _ => idxArr S len e ei.size (x.f fr) (i.f fr)⟩
      | none => .bad
    | _, _, _ => .bad
  | .lookup t x i ok => match evC x, evC i with
    | some x, some i => .q ⟨fun fr h => lookupD S h t (x.f fr) (i.f fr) ok⟩
    | _, _ => .bad
  | .extract x i => match evC x with
    | some x => .q ⟨fun fr _ => extractD i (x.f fr)⟩
    | none => .bad
  | .alloc t => match zeroD S t with
    | some z => match rowD t z.cellsL false with
      | some b => .a ⟨fun _ id => some (.ptr id 0, b)⟩
      | none => .bad
    | none => .bad
  | .box t x => match evC x with
    | some x => .a ⟨fun fr id => boxD t id (x.f fr)⟩
    | none => .bad
  | .buildSlice t len parts => match evCp parts.toList with
    | some ps => .a ⟨fun fr id => buildSliceD S id t len (FV.parts fr ps)⟩
    | none => .bad
  | .makeMap t r => match r with
    | none => .a ⟨fun _ id => some (.map id, .map [] 0)⟩
    | some x => match evC x, und S t with
      | some x, some (.map _ _) => .a ⟨fun fr id => mapD id (x.f fr)⟩
      | _, _ => .bad
  | .makeSlice t l c => match evC l, evC c with
    | some l, some c => .a ⟨fun fr id => makeSliceD S id t (l.f fr) (c.f fr)⟩
    | _, _ => .bad
  | .store t a x => match evC a, evC x with
    | some a, some x => .e ⟨fun fr h => skipE (storeVarD S h t (a.f fr) (x.f fr))⟩
    | _, _ => .bad
  | .mapUpdate t m k x => match evC m, evC k, evC x with
    | some m, some k, some x => .e ⟨fun fr h => skipE (mapUpdateD S h t (m.f fr) (k.f fr) (x.f fr))⟩
    | _, _, _ => .bad
  | .insert t m k x => match evC m, evC k, evC x with
    | some m, some k, some x => .e ⟨fun fr h => skipE (mapUpdateD S h t (m.f fr) (k.f fr) (x.f fr))⟩
    | _, _, _ => .bad
  | .mapEntry t m k => match evC m, evC k with
    | some m, some k => .e ⟨fun fr h => valE (mapEntryD S h t (m.f fr) (k.f fr))⟩
    | _, _ => .bad
  | .entryStore _ m s x => match evC m, evC s, evC x with
    | some m, some s, some x => .e ⟨fun fr h => skipE (entryStoreD h (m.f fr) (s.f fr) (x.f fr))⟩
    | _, _, _ => .bad
  | .call c => match c.callee, evCs c.args.toList with
    | .builtin b, some args => builtF S b c.argTypes.toList args
    | .value f, some args => match evC f with
      | some f => .e ⟨fun fr _ => callE false (FV.all fr args) (f.f fr)⟩
      | none => .bad
    | _, _ => .bad
  | .defer c => match c.callee, evCs c.args.toList with
    | .value f, some args => match evC f with
      | some f => .e ⟨fun fr _ => callE true (FV.all fr args) (f.f fr)⟩
      | none => .bad
    | _, _ => .bad
  | _ => .bad

end
end Go.Dm
end

section
namespace Go.Dm
noncomputable section

inductive X where
  | normal
  | exit (id : Nat)
  | ret
  deriving DecidableEq

/-- what runs code: of a frame of so many slots, with its slots, the calls that are deferred, memory; what goes on behind it: at its end, at another way out -/
abbrev Run (R : Type) := Nat → Code → E → Defs → Heap → (E → Defs → Heap → Option R) → (X → E → Defs → Heap → Option R) → Option R

variable {R : Type}

def mkEnv : List DV → Nat → E
  | [], _ => .lf
  | v :: l, i => (mkEnv l (i + 1)).put i v

def resD (S : St) (e : E) (h : Heap) : List ResultVar → Option (List DV)
  | [] => some []
  | .tmp t :: l => match resD S e h l with
    | some vs => some (e.get t :: vs)
    | none => none
  | .cell a t :: l => match loadVarD S h t (e.get a), resD S e h l with
    | some v, some vs => some (v :: vs)
    | _, _ => none

def oneRes : List DV → DV
  | [v] => v
  | vs => .tuple vs

def finishD (S : St) (fn : Func) (e : E) (h : Heap) (k : DV → Heap → Option R) : Option R :=
  match resD S e h fn.results.toList with
  | some vs => k (oneRes vs) h
  | none => none

def isExit : X → Bool
  | .exit _ => true
  | _ => false

def bodyD (ih : Run R) (S : St) (defs : Defs → Heap → (Heap → Option R) → Option R) (f : FuncId) (args : List DV) (h : Heap) (k : DV → Heap → Option R) : Option R :=
  match S.fn f with
  | some fn => match fn.body with
    | some c => bif Nat.ble args.length fn.ntmps then
      ih fn.ntmps c (mkEnv args 0) [] h
        (fun e ds h => defs ds h fun h => finishD S fn e h k)
        (fun x e ds h => bif isExit x then none else defs ds h fun h => finishD S fn e h k)
      else none
    | none => none
  | none => none

/-- deferred calls (which defer nothing themselves) -/
def noDefs (ds : Defs) (h : Heap) (k : Heap → Option R) : Option R :=
  match ds with
  | [] => k h
  | _ => none
def runDefs (ih : Run R) (S : St) : Defs → Heap → (Heap → Option R) → Option R
  | [], h, k => k h
  | (f, args) :: l, h, k => bodyD ih S noDefs f args h fun _ h => runDefs ih S l h k

/-- a function, made ready -/
structure FC (R : Type) where
  f : Run R → List DV → Heap → (DV → Heap → Option R) → Option R
def callC (S : St) (f : FuncId) : FC R :=
  match S.short f with
  | some g => ⟨fun _ args h k => match g args with
    | some v => k v h
    | none => none⟩
  | none => match S.ext f with
    | some x => ⟨fun _ args h k => match extD h x args with
      | some (v, h) => k v h
      | none => none⟩
    | none => ⟨fun ih args h k => bodyD ih S (runDefs ih S) f args h k⟩
def callD (ih : Run R) (S : St) (f : FuncId) (args : List DV) (h : Heap) (k : DV → Heap → Option R) : Option R := (callC S f).f ih args h k

def yieldedD (ops : List Oper) (e : E) (j : Nat) : Option Bool :=
  match ops[j]? with
  | some o => match o.dst with
    | some d => match (slotG d).f e with
      | .bool b => some b
      | _ => none
    | none => none
  | none => none

def wantedD (ops : List Oper) (e : E) (o : Oper) : Bool :=
  match o.guard with
  | none => true
  | some (j, want) => match yieldedD ops e j with
    | some b => bif want then b else !b
    | none => false

/-- is an operation to be done? made ready -/
structure FB where
  f : E → Bool
def guardC (ops : List Oper) (o : Oper) : FB :=
  match o.guard with
  | none => ⟨fun _ => true⟩
  | some (j, want) => match ops[j]? with
    | some og => match og.dst with
      | some d => match slotG d with
        | ⟨g⟩ => ⟨fun e => DV.rec (motive_1 := fun _ => Bool) (motive_2 := fun _ => Unit) (fun b => Bool.rec (motive := fun _ => Bool) (Bool.rec (motive := fun _ => Bool) true false b) b want) (fun _ _ => false) (fun _ => false) false (fun _ _ => false) false
            (fun _ _ _ _ _ => false) false (fun _ => false) false (fun _ _ _ _ _ => false) false (fun _ _ _ => false) (fun _ _ => false) (fun _ _ => false) () (fun _ _ _ _ => ()) (g e)⟩
      | none => ⟨fun _ => false⟩
    | none => ⟨fun _ => false⟩

theorem guardC_eq (ops : List Oper) (o : Oper) (e : E) : (guardC ops o).f e = wantedD ops e o := by
  unfold guardC wantedD yieldedD
  cases o.guard with
  | none => rfl
  | some g =>
    obtain ⟨j, want⟩ := g
    simp only
    cases ops[j]? with
    | none => rfl
    | some og =>
      simp only
      cases og.dst with
      | none => rfl
      | some d =>
        simp only
        cases slotG d with
        | mk g =>
          simp only
          cases g e <;> first | rfl | (rename_i b; cases b <;> cases want <;> rfl)

/-- one bit of a mask -/
def tb (m j : Nat) : Bool := Nat.beq (Nat.land (Nat.shiftRight m j) 1) 1
theorem tb_eq (m j : Nat) : tb m j = Nat.testBit m j := by
  unfold tb Nat.testBit
  rw [beqD]
  have h1 : Nat.land (Nat.shiftRight m j) 1 = m >>> j % 2 := landD _
  have h2 : 1 &&& (m >>> j) = m >>> j % 2 := by rw [Nat.and_comm]; exact Nat.and_one_is_mod _
  rw [h1, h2]
  have : m >>> j % 2 = 0 ∨ m >>> j % 2 = 1 := by omega
  rcases this with h | h <;> rw [h] <;> rfl

/-- what an effect does: its value, what it defers, memory -/
def stepE (ih : Run R) (S : St) (x : FE) (e : E) (h : Heap) (k : DV → Defs → Heap → Option R) : Option R :=
  match x.f e h with
  | some r => match r with
    | .val v h => k v [] h
    | .skip h => k (.tuple []) [] h
    | .call f args => callD ih S f args h fun v h => k v [] h
    | .defer f args => k (.tuple []) [(f, args)] h
  | none => none

def pushD (d ds : Defs) : Defs := match d with
  | [] => ds
  | x :: l => x :: l ++ ds

/-- one operation of a region in the order of its text, made ready -/
structure FR (R : Type) where
  f : Run R → E → Defs → Heap → (E → Defs → Heap → Option R) → Option R
def doO (S : St) (n : Nat) (d : Option Tmp) (o : Op) : FR R :=
  match slotP n d with
  | ⟨p⟩ => match opF S o with
    | .q x => match x with
      | ⟨g⟩ => ⟨fun _ e ds h k => Option.rec (motive := fun _ => Option R) none (fun v => k (p e v) ds h) (g e h)⟩
    | .a x => match x with
      | ⟨g⟩ => ⟨fun _ e ds h k => match h with
        | ⟨n, bl⟩ => match g e n with
          | some (v, b) => k (p e v) ds ⟨Nat.succ n, bl.put n b⟩
          | none => none⟩
    | .e x => ⟨fun ih e ds h k => stepE ih S x e h fun v dd h => k (p e v) (pushD dd ds) h⟩
    | .bad => ⟨fun _ _ _ _ _ => none⟩
def oneO (S : St) (n : Nat) (ops : List Oper) (o : Oper) : FR R :=
  match o.guard with
  | none => doO S n o.dst o.op
  | some _ => match doO (R := R) S n o.dst o.op, slotP n o.dst, guardC ops o with
    | ⟨g⟩, ⟨p⟩, ⟨w⟩ => ⟨fun ih e ds h k => Bool.rec (motive := fun _ => Option R) (k (p e (.tuple [])) ds h) (g ih e ds h k) (w e)⟩

/-- a region in the order of its text -/
def opsC (S : St) (n : Nat) (ops : List Oper) : List Oper → FR R
  | [] => ⟨fun _ e ds h k => k e ds h⟩
  | o :: l => match oneO (R := R) S n ops o, opsC S n ops l with
    | ⟨g⟩, ⟨r⟩ => ⟨fun ih e ds h k => g ih e ds h fun e ds h => r ih e ds h k⟩

/-! a region that draws its order -/
def masks (acc : List Nat) : List Oper → List Nat
  | [] => acc
  | o :: l => masks (acc ++ [o.after.toList.foldl (fun s e => bif Region.binds .any e then s ||| 2 ^ e.on ||| acc.getD e.on 0 else s) 0]) l

def aIdx (S : St) : List Oper → Nat → List Nat
  | [], _ => []
  | o :: l, i => match opF S o.op with
    | .a _ => i :: aIdx S l (i + 1)
    | _ => aIdx S l (i + 1)

def edgesOk : List Oper → Nat → Bool
  | [], _ => true
  | o :: l, i => o.after.toList.all (fun e => !Region.binds .any e || Nat.blt e.on i) && edgesOk l (i + 1)

def readsOf (ops : List Oper) (o : Oper) : List Tmp :=
  (o.op.operands.toList.filterMap fun | .tmp t => some t | _ => none) ++
  (match o.guard with
   | some (g, _) => match ops[g]? with
     | some og => match og.dst with
       | some d => [d]
       | none => []
     | none => []
   | none => [])

/-- each pair 'one writes what the other reads or writes' is ordered -/
def tmpsOkAt (ops : List Oper) (ms : List Nat) (i : Nat) (o : Oper) : List Oper → Nat → Bool
  | [], _ => true
  | p :: l, j =>
    (bif Nat.blt j i && !(Nat.testBit (ms.getD i 0) j) then
      (match p.dst with
       | some d => !((readsOf ops o).contains d) && (match o.dst with | some d' => !Nat.beq d d' | none => true)
       | none => true) &&
      (match o.dst with
       | some d => !((readsOf ops p).contains d)
       | none => true)
     else true) && tmpsOkAt ops ms i o l (j + 1)
def tmpsOk (ops : List Oper) (ms : List Nat) : List Oper → Nat → Bool
  | [], _ => true
  | o :: l, i => tmpsOkAt ops ms i o ops 0 && tmpsOk ops ms l (i + 1)

def hideAll (base : Nat) (m : Nat) : List Nat → Heap → Heap
  | [], h => h
  | k :: l, h => hideAll base m l (bif tb m k then h else h.del (base + k))
def backAll (base : Nat) (m : Nat) (h0 : Heap) : List Nat → Heap → Heap
  | [], h => h
  | k :: l, h => backAll base m h0 l (bif tb m k then h else match h0.get (base + k) with | some o => h.put (base + k) o | none => h)

mutual
def dvEq : DV → DV → Bool
  | .bool a, .bool b => a == b
  | .int k a, .int j b => kEq k j && eqI a b
  | .str s, .str t => Nat.beq s.len t.len && Nat.beq s.num t.num
  | .nilptr, .nilptr => true
  | .ptr a b, .ptr c d => Nat.beq a c && Nat.beq b d
  | .nilslice, .nilslice => true
  | .slice a b c d e, .slice a' b' c' d' e' => Nat.beq a a' && Nat.beq b b' && Nat.beq c c' && Nat.beq d d' && Nat.beq e e'
  | .nilmap, .nilmap => true
  | .map a, .map b => Nat.beq a b
  | .nilfunc, .nilfunc => true
  | .func f a b, .func f' a' b' => Nat.beq f f' && dvEqs a a' && dvEqs b b'
  | .nilIface, .nilIface => true
  | .iface t v, .iface t' v' => Nat.beq t t' && dvEq v v'
  | .agg a, .agg b => dvEqs a b
  | .tuple a, .tuple b => dvEqs a b
  | _, _ => false
def dvEqs : List DV → List DV → Bool
  | [], [] => true
  | a :: x, b :: y => dvEq a b && dvEqs x y
  | _, _ => false
end

structure Rec where
  i : Nat
  e : E
  x : FQ
  v : DV

/-- an effect: which one, the memory ahead of it, and what it stores where (if it is a plain store) -/
structure ERec where
  i : Nat
  h : Heap
  rg : Option (Nat × Nat × List DV)

structure RS where
  e : E
  ds : Defs
  h : Heap
  qs : List Rec
  es : List ERec
  deriving Inhabited

/-- of a plain store: the block, the place, the cells -/
def storeAtD (S : St) (fr : E) (o : Op) : Option (Nat × Nat × List DV) :=
  match o with
  | .store t a x => match evC a, evC x, S.ty t with
    | some a, some x, some i => match a.f fr with
      | .ptr id off => bif Nat.beq (x.f fr).cellsL.length i.size then some (id, off, (x.f fr).cellsL) else none
      | _ => none
    | _, _, _ => none
  | _ => none

def apartD : Nat × Nat × List DV → Nat × Nat × List DV → Bool
  | (i, o, l), (j, p, m) => !Nat.beq i j || Nat.ble (o + l.length) p || Nat.ble (p + m.length) o

/-- a quiet operation answers the same at each heap that it may meet -/
def qAt (fr : E) (x : FQ) (base m : Nat) (as : List Nat) (v : DV) (h : Heap) : Bool :=
  match x.f fr (hideAll base m as h) with
  | some u => dvEq u v
  | none => false

def qPast (fr : E) (x : FQ) (base m : Nat) (as : List Nat) (v : DV) : List ERec → Bool
  | [] => true
  | e :: l => (tb m e.i || qAt fr x base m as v e.h) && qPast fr x base m as v l

def qLater (base me : Nat) (ms : List Nat) (as : List Nat) (h : Heap) : List Rec → Bool
  | [] => true
  | r :: l => (tb me r.i || qAt r.e r.x base (ms.getD r.i 0) as r.v h) && qLater base me ms as h l

def allBefore (m : Nat) : List ERec → Bool
  | [] => true
  | e :: l => tb m e.i && allBefore m l

/-- a quiet operation that looks at no memory -/
def qPure (m : Nat) : List Rec → Bool
  | [] => true
  | r :: l => (tb m r.i || (match r.x.f r.e { next := 0, bl := .lf } with | some u => dvEq u r.v | none => false)) && qPure m l

/-- all of these have run ahead -/
def aBefore (m : Nat) : List Nat → Bool
  | [] => true
  | k :: l => tb m k && aBefore m l

/-- no block that was not there has come to be at these names -/
def freshOk (base : Nat) (h0 h1 : Heap) : List Nat → Bool
  | [] => true
  | k :: l => ((h0.get (base + k)).isSome || (h1.get (base + k)).isNone) && freshOk base h0 h1 l

/-- the last operation, a store that may come ahead of the store before it -/
def swapOk (S : St) (fr : E) (o : Oper) (x : FE) (base : Nat) (as : List Nat) (m : Nat) (qs : List Rec) : List ERec → Bool
  | e :: l => !tb m e.i && allBefore m l && aBefore m as && qPure m qs && o.dst.isNone && (x.f fr (hideAll base m as e.h)).isSome && (match e.rg, storeAtD S fr o.op with
    | some r, some r' => apartD r r'
    | _, _ => false)
  | [] => false

/-- an operation of such a region, made ready: its number, its mask, what it does -/
structure DO where
  i : Nat
  m : Nat
  o : Oper
  x : FO
  w : FB
def dosC (S : St) (ops : List Oper) (ms : List Nat) : List Oper → Nat → List DO
  | [], _ => []
  | o :: l, i => { i, m := ms.getD i 0, o, x := opF S o.op, w := guardC ops o } :: dosC S ops ms l (i + 1)

def opsD (ih : Run R) (S : St) (n : Nat) (ops : List Oper) (base : Nat) (ms : List Nat) (as : List Nat) : List DO → RS → (E → Defs → Heap → Option R) → Option R
  | [], ⟨e, ds, h, _, _⟩, k => k e ds h
  | ⟨i, m, o, x, w⟩ :: l, ⟨e, ds, h, qs, es⟩, k =>
    bif w.f e then
      match x with
      | .q x => match x.f e (hideAll base m as h) with
        | some v => bif qPast e x base m as v es then opsD ih S n ops base ms as l ⟨(slotP n o.dst).f e v, ds, h, { i, e, x, v } :: qs, es⟩ k else none
        | none => none
      | .a x => match x.f e (Nat.add base i) with
        | some (v, b) => opsD ih S n ops base ms as l ⟨(slotP n o.dst).f e v, ds, h.put (Nat.add base i) b, qs, es⟩ k
        | none => none
      | .e x => bif allBefore m es || (l.isEmpty && swapOk S e o x base as m qs es) then
          stepE ih S x e (hideAll base m as h) fun v dd h1 =>
            bif freshOk base (hideAll base m as h) h1 as && qLater base m ms as (backAll base m h as h1) qs then
              opsD ih S n ops base ms as l ⟨(slotP n o.dst).f e v, pushD dd ds, backAll base m h as h1, qs, { i, h, rg := storeAtD S e o.op } :: es⟩ k
            else none
        else none
      | .bad => none
    else opsD ih S n ops base ms as l ⟨(slotP n o.dst).f e (.tuple []), ds, h, qs, es⟩ k

/-- such a region, made ready: may it be gone through so; its masks, the operations that make blocks, all operations -/
structure DR where
  ok : Bool
  ms : List Nat
  as : List Nat
  ds : List DO
  n : Nat
def regC (S : St) (ops : List Oper) : DR :=
  let ms := masks [] ops
  { ok := edgesOk ops 0 && tmpsOk ops ms ops 0, ms, as := aIdx S ops 0, ds := dosC S ops ms ops 0, n := ops.length }

def regionD (ih : Run R) (S : St) (n : Nat) (ops : List Oper) (e : E) (ds : Defs) (h : Heap) (k : E → Defs → Heap → Option R) : Option R :=
  match regC S ops with
  | ⟨ok, ms, as, dos, m⟩ => match h with
    | ⟨nx, bl⟩ => bif ok then opsD ih S n ops nx ms as dos ⟨e, ds, ⟨Nat.add nx m, bl⟩, [], []⟩ k else none

/-- code, made ready -/
structure FX (R : Type) where
  f : Run R → E → Defs → Heap → (E → Defs → Heap → Option R) → (X → E → Defs → Heap → Option R) → Option R
def codeC (S : St) (n : Nat) (c : Code) : FX R :=
  match c with
  | .skip => ⟨fun _ e ds h k _ => k e ds h⟩
  | .label _ => ⟨fun _ e ds h k _ => k e ds h⟩
  | .region _ ops draw => bif draw then ⟨fun ih e ds h k _ => regionD ih S n ops.toList e ds h k⟩
    else match opsC (R := R) S n ops.toList ops.toList with
      | ⟨g⟩ => ⟨fun ih e ds h k _ => g ih e ds h k⟩
  | .seq a b => ⟨fun ih e ds h k kx => ih n a e ds h (fun e ds h => ih n b e ds h k kx) kx⟩
  | .cond c a b => match evC c with
    | some c => ⟨fun ih e ds h k kx => match c.f e with
      | .bool t => Bool.rec (motive := fun _ => Option R) (ih n b e ds h k kx) (ih n a e ds h k kx) t
      | _ => none⟩
    | none => ⟨fun _ _ _ _ _ _ => none⟩
  | .block id body => ⟨fun ih e ds h k kx => ih n body e ds h k fun x e ds h => match x with
      | .exit j => bif Nat.beq j id then k e ds h else kx (.exit j) e ds h
      | x => kx x e ds h⟩
  | .loop body => ⟨fun ih e ds h k kx => ih n body e ds h (fun e ds h => ih n (.loop body) e ds h k kx) kx⟩
  | .scope body => ⟨fun ih e ds h k kx => ih n body e ds h k kx⟩
  | .exit id => ⟨fun _ e ds h _ kx => kx (.exit id) e ds h⟩
  | .ret => ⟨fun _ e ds h _ kx => kx .ret e ds h⟩
  | _ => ⟨fun _ _ _ _ _ _ => none⟩

def stepRun (S : St) (ih : Run R) : Run R := fun n c e ds h k kx => (codeC S n c).f ih e ds h k kx

def run (S : St) (n : Nat) : Run R := Nat.rec (motive := fun _ => Run R) (fun _ _ _ _ _ _ _ => none) (fun _ ih => stepRun S ih) n

end
end Go.Dm
end

section
namespace Go.Dm

/-- where a block of the abstract machine lies in truth: the block, how many cells it has -/
structure BI where
  b : Nat
  sz : Nat

abbrev Ren := Nat → Option BI
def Ren.le (ρ ρ' : Ren) : Prop := ∀ id i, ρ id = some i → ρ' id = some i
theorem Ren.le_refl (ρ : Ren) : ρ.le ρ := fun _ _ h => h
theorem Ren.le_trans {a b c : Ren} (h : a.le b) (k : b.le c) : a.le c := fun id i e => k id i (h id i e)

mutual
inductive VR (ρ : Ren) : DV → Value → Prop where
  | bool (b : Bool) : VR ρ (.bool b) (.bool b)
  | int (k : IntKind) (n : Int) : VR ρ (.int k n) (.int k n)
  | str (s : BS) (h : s.ok) : VR ρ (.str s) (.string s.ba)
  | nilptr : VR ρ .nilptr (.pointer none)
  | ptr (id off : Nat) (i : BI) (h : ρ id = some i) : VR ρ (.ptr id off) (.pointer (some ⟨i.b, off, none⟩))
  | nilslice : VR ρ .nilslice (.slice none 0 0)
  | slice (id off len cap g : Nat) (i : BI) (cap' : Nat) (h : ρ id = some i) (hex : g = 0 → cap' = cap) (hgr : g ≠ 0 → off + cap' * g = i.sz)
      (hc : cap ≤ cap') : VR ρ (.slice id off len cap g) (.slice (some ⟨i.b, off, none⟩) len cap')
  | nilmap : VR ρ .nilmap (.map none)
  | map (id : Nat) (i : BI) (h : ρ id = some i) : VR ρ (.map id) (.map (some i.b))
  | nilfunc : VR ρ .nilfunc .nilFunc
  | func (f : FuncId) (a b : List DV) (a' b' : List Value) (ha : VRs ρ a a') (hb : VRs ρ b b') : VR ρ (.func f a b) (.func (.func f) a'.toArray b'.toArray)
  | nilIface : VR ρ .nilIface .nilIface
  | iface (t : TypeId) (v : DV) (v' : Value) (h : VR ρ v v') : VR ρ (.iface t v) (.iface t v')
  | agg (cs : List DV) (cs' : List Value) (h : VRs ρ cs cs') : VR ρ (.agg cs) (.agg cs'.toArray)
  | tuple (vs : List DV) (vs' : List Value) (h : VRs ρ vs vs') : VR ρ (.tuple vs) (.tuple vs'.toArray)
inductive VRs (ρ : Ren) : List DV → List Value → Prop where
  | nil : VRs ρ [] []
  | cons (d : DV) (v : Value) (ds : List DV) (vs : List Value) (h : VR ρ d v) (hs : VRs ρ ds vs) : VRs ρ (d :: ds) (v :: vs)
end

mutual
theorem VR.mono {ρ ρ' : Ren} (l : ρ.le ρ') : ∀ {d : DV} {v : Value}, VR ρ d v → VR ρ' d v
  | _, _, .bool b => .bool b
  | _, _, .int k n => .int k n
  | _, _, .str s h => .str s h
  | _, _, .nilptr => .nilptr
  | _, _, .ptr id off i h => .ptr id off i (l _ _ h)
  | _, _, .nilslice => .nilslice
  | _, _, .slice id off len cap g i cap' h a b c => .slice id off len cap g i cap' (l _ _ h) a b c
  | _, _, .nilmap => .nilmap
  | _, _, .map id i h => .map id i (l _ _ h)
  | _, _, .nilfunc => .nilfunc
  | _, _, .func f a b a' b' ha hb => .func f a b a' b' (VRs.mono l ha) (VRs.mono l hb)
  | _, _, .nilIface => .nilIface
  | _, _, .iface t v v' h => .iface t v v' (VR.mono l h)
  | _, _, .agg cs cs' h => .agg cs cs' (VRs.mono l h)
  | _, _, .tuple cs cs' h => .tuple cs cs' (VRs.mono l h)
theorem VRs.mono {ρ ρ' : Ren} (l : ρ.le ρ') : ∀ {d : List DV} {v : List Value}, VRs ρ d v → VRs ρ' d v
  | _, _, .nil => .nil
  | _, _, .cons d v ds vs h hs => .cons d v ds vs (VR.mono l h) (VRs.mono l hs)
end

theorem VRs.length {ρ : Ren} : ∀ {a : List DV} {b : List Value}, VRs ρ a b → a.length = b.length
  | _, _, .nil => rfl
  | _, _, .cons _ _ _ _ _ hs => congrArg (· + 1) hs.length
theorem VRs.get {ρ : Ren} : ∀ {a : List DV} {b : List Value}, VRs ρ a b → ∀ {i : Nat} {d : DV}, a[i]? = some d → ∃ v, b[i]? = some v ∧ VR ρ d v
  | _, _, .nil, i, d, h => by simp at h
  | _, _, .cons d v ds vs hv hs, 0, e, h => by simp at h; subst h; exact ⟨v, rfl, hv⟩
  | _, _, .cons d v ds vs hv hs, i + 1, e, h => by simpa using hs.get (i := i) (by simpa using h)
theorem VRs.append {ρ : Ren} : ∀ {a : List DV} {b : List Value} {c : List DV} {d : List Value}, VRs ρ a b → VRs ρ c d → VRs ρ (a ++ c) (b ++ d)
  | _, _, _, _, .nil, h => h
  | _, _, _, _, .cons d v ds vs hv hs, h => .cons d v _ _ hv (hs.append h)
theorem VRs.take {ρ : Ren} : ∀ {a : List DV} {b : List Value} (n : Nat), VRs ρ a b → VRs ρ (a.take n) (b.take n)
  | _, _, 0, _ => by simpa using VRs.nil
  | _, _, n + 1, .nil => by simpa using VRs.nil
  | _, _, n + 1, .cons d v ds vs hv hs => by simpa using VRs.cons d v _ _ hv (hs.take n)
theorem VRs.drop {ρ : Ren} : ∀ {a : List DV} {b : List Value} (n : Nat), VRs ρ a b → VRs ρ (a.drop n) (b.drop n)
  | _, _, 0, h => by simpa using h
  | _, _, n + 1, .nil => by simpa using VRs.nil
  | _, _, n + 1, .cons d v ds vs hv hs => by simpa using hs.drop n

/-- what a cell may hold -/
def _root_.Go.Value.cellV : Value → Bool
  | .agg _ => false
  | .tuple _ => false
  | _ => true
theorem VR.one {ρ : Ren} {d : DV} {v : Value} (h : VR ρ d v) : d.one = v.cellV := by cases h <;> rfl
theorem VR.cells {ρ : Ren} {d : DV} {v : Value} (h : VR ρ d v) : VRs ρ d.cellsL v.cells.toList := by
  cases h with
  | agg cs cs' h => simpa [DV.cellsL, Value.cells] using h
  | _ => first
    | exact .cons _ _ _ _ (by first | exact .bool _ | exact .int _ _ | exact .nilptr | exact .nilslice | exact .nilmap | exact .nilfunc | exact .nilIface) .nil
    | exact .cons _ _ _ _ (by constructor <;> assumption) .nil
theorem VR.cells_size {ρ : Ren} {d : DV} {v : Value} (h : VR ρ d v) : v.cells.size = d.cellsL.length := by
  have := h.cells.length
  simpa using this.symm

theorem VR.ofCellAux {ρ : Ren} : ∀ {v : Value} {d : DV}, ofCell v = some d → VR ρ d v := by
  intro v d h
  unfold ofCell at h
  split at h <;> simp only [Option.some.injEq, reduceCtorEq] at h <;> subst h
  · exact .bool _
  · exact .int _ _
  · rename_i s
    have := VR.str (ρ := ρ) (BS.ofBA s) (BS.ofBA_ok s)
    rwa [BS.ofBA_ba] at this
  · exact .nilptr
  · exact .nilslice
  · exact .nilmap
  · exact .nilfunc
  · exact .nilIface
theorem VRs.ofCells {ρ : Ren} : ∀ {l : List Value} {ds : List DV}, ofCells l = some ds → VRs ρ ds l
  | [], ds, h => by simp [Dm.ofCells] at h; subst h; exact .nil
  | v :: l, ds, h => by
    unfold Dm.ofCells at h
    cases e : ofCell v with
    | none => rw [e] at h; simp at h
    | some d =>
      rw [e] at h
      cases e' : Dm.ofCells l with
      | none => rw [e'] at h; simp at h
      | some ds' =>
        rw [e'] at h
        simp at h; subst h
        exact .cons _ _ _ _ (VR.ofCellAux e) (VRs.ofCells e')
theorem VR.ofVal {ρ : Ren} {v : Value} {d : DV} (h : ofVal v = some d) : VR ρ d v := by
  unfold Dm.ofVal at h
  split at h
  · rename_i cs
    cases e : Dm.ofCells cs.toList with
    | none => rw [e] at h; simp at h
    | some ds =>
      rw [e] at h
      simp at h; subst h
      have := VR.agg _ _ (VRs.ofCells (ρ := ρ) e)
      simpa using this
  · exact VR.ofCellAux h

/-! blocks, memory -/
inductive ERs (ρ : Ren) : List DEntry → List MapEntry → Prop where
  | nil : ERs ρ [] []
  | cons (d : DEntry) (e : MapEntry) (ds : List DEntry) (es : List MapEntry) (hk : VR ρ d.key e.key) (hv : VR ρ d.val e.val) (hb : d.born = e.born) (hs : ERs ρ ds es) :
      ERs ρ (d :: ds) (e :: es)
theorem ERs.mono {ρ ρ' : Ren} (l : ρ.le ρ') : ∀ {d : List DEntry} {v : List MapEntry}, ERs ρ d v → ERs ρ' d v
  | _, _, .nil => .nil
  | _, _, .cons d e ds es hk hv hb hs => .cons d e ds es (hk.mono l) (hv.mono l) hb (hs.mono l)

def OR (ρ : Ren) (i : BI) : DObj → Obj → Prop
  | .cells c n e g frz, o => ∃ (c' : Array Value) (fr : Nat × Nat), o = .cells c' e fr ∧ c'.size = i.sz ∧ n ≤ c'.size ∧ (g = false → c'.size = n) ∧
      (frz = false → c'.size ≤ fr.1 ∨ fr.2 ≤ fr.1) ∧ (frz = false → g = false → fr = (0, 0)) ∧
      ∀ k, k < n → ∃ d v, c.get k = some d ∧ c'[k]? = some v ∧ d.one = true ∧ VR ρ d v
  | .map es clock, o => ∃ es' : Array MapEntry, o = .map es' clock ∧ ERs ρ es es'.toList

theorem OR.mono {ρ ρ' : Ren} (l : ρ.le ρ') {i : BI} {d : DObj} {o : Obj} (h : OR ρ i d o) : OR ρ' i d o := by
  cases d with
  | cells c n e g frz =>
    obtain ⟨c', fr, h1, h2, h3, h4, h5, h6, h7⟩ := h
    refine ⟨c', fr, h1, h2, h3, h4, h5, h6, fun k hk => ?_⟩
    obtain ⟨d, v, a, b, c, e⟩ := h7 k hk
    exact ⟨d, v, a, b, c, e.mono l⟩
  | map es clock =>
    obtain ⟨es', h1, h2⟩ := h
    exact ⟨es', h1, h2.mono l⟩

/-- what the run stands on: the program, the tables, where its own memory begins, what is known of older memory -/
structure Ctx where
  P : Program
  S : St
  B : Nat
  G : World → Prop

structure HL (ρ : Ren) (h : Heap) (w : World) : Prop where
  live : ∀ id o, h.get id = some o → ∃ i ro, ρ id = some i ∧ w.heap[i.b]? = some ro ∧ OR ρ i o ro
  inj : ∀ id id' o o' i i', h.get id = some o → h.get id' = some o' → ρ id = some i → ρ id' = some i' → i.b = i'.b → id = id'

structure HR (C : Ctx) (ρ : Ren) (h : Heap) (w : World) : Prop extends HL ρ h w where
  next : ∀ id, h.next ≤ id → ρ id = none
  base : ∀ id i, ρ id = some i → C.B ≤ i.b
  low : C.B ≤ w.heap.size
  old : C.G w

/-- what a step leaves alone -/
structure Keeps (ρ : Ren) (h : Heap) (w w' : World) : Prop where
  os : w'.os = w.os
  tape : w'.tape = w.tape
  output : w'.output = w.output
  size : w.heap.size ≤ w'.heap.size
  block : ∀ b, b < w.heap.size → (∀ id o i, h.get id = some o → ρ id = some i → i.b ≠ b) → w'.heap[b]? = w.heap[b]?

theorem Keeps.refl (ρ : Ren) (h : Heap) (w : World) : Keeps ρ h w w := ⟨rfl, rfl, rfl, Nat.le_refl _, fun _ _ _ => rfl⟩
theorem Keeps.drew (ρ : Ren) (h : Heap) (w : World) (n : Nat) : Keeps ρ h w { w with drawn := n } := ⟨rfl, rfl, rfl, Nat.le_refl _, fun _ _ _ => rfl⟩

/-- the facts about the tables -/
structure Ctx.Ok (C : Ctx) : Prop where
  ty : ∀ t i, C.S.ty t = some i → C.P.info? t = some i
  fn : ∀ f fn, C.S.fn f = some fn → C.P.funcs[f]? = some fn ∧ (fn.name == "runtime.NumGoroutine") = false
  plain : ∀ t, C.S.plain t = true → C.P.eqGuardType C.P.depth t = false ∧ C.P.stoodInHeld t = false ∧ ∀ fs, Dm.und C.S t = some (.struct fs) → ∀ f ∈ fs.toList, f.name ≠ "_"
  mixed : C.P.follows .mixedOrders = true
  same : ∀ w w' : World, C.G w → w'.os = w.os → w'.tape = w.tape → w'.output = w.output → C.B ≤ w'.heap.size → (∀ b, b < C.B → w'.heap[b]? = w.heap[b]?) → C.G w'

theorem Ctx.Ok.und {C : Ctx} (ok : C.Ok) {t : TypeId} {d : TypeDesc} (h : Dm.und C.S t = some d) : C.P.underlying t = some d := by
  unfold Dm.und at h
  unfold Program.underlying
  cases e : C.S.ty t with
  | none => rw [e] at h; simp at h
  | some i =>
    rw [e] at h
    rw [ok.ty t i e]
    obtain ⟨desc, a1, a2, a3, a4, a5, a6, a7, a8, a9⟩ := i
    cases desc with
    | named n u =>
      simp only at h ⊢
      cases e' : C.S.ty u with
      | none => rw [e'] at h; simp at h
      | some j => rw [e'] at h; rw [ok.ty u j e']; exact h
    | _ => exact h

theorem HR.drew {C : Ctx} (ok : C.Ok) {ρ : Ren} {h : Heap} {w : World} (H : HR C ρ h w) (n : Nat) : HR C ρ h { w with drawn := n } :=
  ⟨⟨H.live, H.inj⟩, H.next, H.base, H.low, ok.same w _ H.old rfl rfl rfl H.low fun _ _ => rfl⟩

/-- no memory at all -/
theorem HL.empty (ρ : Ren) (n : Nat) (w : World) : HL ρ ⟨n, .lf⟩ w :=
  ⟨(fun _ _ h => by cases h), (fun _ _ _ _ _ _ h => by cases h)⟩

theorem Keeps.trans {ρ ρ' : Ren} {h h' : Heap} {w w' w'' : World} (a : Keeps ρ h w w') (b : Keeps ρ' h' w' w'')
    (hb : ∀ id o i, h'.get id = some o → ρ' id = some i → i.b < w.heap.size → ∃ id' o' i', h.get id' = some o' ∧ ρ id' = some i' ∧ i'.b = i.b) : Keeps ρ h w w'' := by
  refine ⟨b.os.trans a.os, b.tape.trans a.tape, b.output.trans a.output, Nat.le_trans a.size b.size, fun k hk hn => ?_⟩
  rw [b.block k (Nat.lt_of_lt_of_le hk a.size) ?_, a.block k hk hn]
  intro id o i hg hr he
  obtain ⟨id', o', i', h1, h2, h3⟩ := hb id o i hg hr (by omega)
  exact hn id' o' i' h1 h2 (by omega)

end Go.Dm
end

section
namespace Go.Dm

theorem bleD (a b : Nat) : Nat.ble a b = decide (a ≤ b) := by
  cases e : Nat.ble a b
  · have : ¬ a ≤ b := fun h => by rw [Nat.ble_eq_true_of_le h] at e; cases e
    simp [this]
  · simp [Nat.le_of_ble_eq_true e]
theorem bltD (a b : Nat) : Nat.blt a b = decide (a < b) := bleD (a + 1) b

theorem E.get_left (e : E) (k : Nat) (h1 : k % 2 = 1) : e.get k = (E.left e).get (k / 2) := by
  cases e with
  | lf => rfl
  | nd v l r => rw [E.get_nd, cond3, if_neg (by omega), if_pos h1]; rfl
theorem E.get_right (e : E) (k : Nat) (h0 : k ≠ 0) (h1 : ¬ k % 2 = 1) : e.get k = (E.right e).get (k / 2 - 1) := by
  cases e with
  | lf => rfl
  | nd v l r => rw [E.get_nd, cond3, if_neg h0, if_neg h1]; rfl
theorem E.get_root (e : E) : e.get 0 = E.root e := by
  cases e with
  | lf => rfl
  | nd v l r => rfl

theorem getC_spec : ∀ (f k : Nat) (e : E), k < f → (getC f k).f e = e.get k := by
  intro f
  induction f with
  | zero => intro k e h; omega
  | succ f ih =>
    intro k e h
    unfold getC
    rw [cond3]
    by_cases h0 : k = 0
    · subst h0; rw [if_pos rfl, E.get_root]; rfl
    · rw [if_neg h0]
      by_cases h1 : k % 2 = 1
      · rw [if_pos h1, E.get_left e k h1, ← ih (k / 2) _ (by omega)]; rfl
      · rw [if_neg h1, E.get_right e k h0 h1, ← ih (k / 2 - 1) _ (by omega)]; rfl

theorem E.single_fuel (v : DV) : ∀ (f j g : Nat), j < f → j < g → E.single v f j = E.single v g j := by
  intro f
  induction f with
  | zero => intro j g h; omega
  | succ f ih =>
    intro j g h hg
    obtain ⟨g, rfl⟩ : ∃ m, g = m + 1 := ⟨g - 1, by omega⟩
    rw [E.single_succ, E.single_succ, cond3, cond3]
    by_cases h0 : j = 0
    · rw [if_pos h0, if_pos h0]
    · rw [if_neg h0, if_neg h0]
      by_cases h1 : j % 2 = 1
      · rw [if_pos h1, if_pos h1, ih (Nat.div j 2) g (by rw [divD]; omega) (by rw [divD]; omega)]
      · rw [if_neg h1, if_neg h1, ih (Nat.pred (Nat.div j 2)) g (by rw [divD, Nat.pred_eq_sub_one]; omega) (by rw [divD, Nat.pred_eq_sub_one]; omega)]

theorem putC_spec : ∀ (f k : Nat) (e : E) (v : DV), k < f → (putC f k).f e v = e.put k v := by
  intro f
  induction f with
  | zero => intro k e v h; omega
  | succ f ih =>
    intro k e v h
    unfold putC
    rw [cond3]
    by_cases h0 : k = 0
    · subst h0
      rw [if_pos rfl]
      cases e with
      | lf => rfl
      | nd w l r => rfl
    · rw [if_neg h0]
      by_cases h1 : k % 2 = 1
      · rw [if_pos h1]
        cases e with
        | lf =>
          have := ih (k / 2) .lf v (by omega)
          show E.nd (.tuple []) ((putC f (k / 2)).f .lf v) .lf = E.put .lf k v
          rw [this, E.put_lf, E.put_lf, E.single_succ v k k, cond3, if_neg h0, if_pos h1]
          rw [E.single_fuel v (k / 2 + 1) (k / 2) k (by omega) (by omega)]; rfl
        | nd w l r =>
          have := ih (k / 2) l v (by omega)
          show E.nd w ((putC f (k / 2)).f l v) r = E.put (.nd w l r) k v
          rw [this, E.put_nd, cond3, if_neg h0, if_pos h1]; rfl
      · rw [if_neg h1]
        cases e with
        | lf =>
          have := ih (k / 2 - 1) .lf v (by omega)
          show E.nd (.tuple []) .lf ((putC f (k / 2 - 1)).f .lf v) = E.put .lf k v
          rw [this, E.put_lf, E.put_lf, E.single_succ v k k, cond3, if_neg h0, if_neg h1]
          rw [E.single_fuel v (k / 2 - 1 + 1) (k / 2 - 1) k (by omega) (by omega)]; rfl
        | nd w l r =>
          have := ih (k / 2 - 1) r v (by omega)
          show E.nd w l ((putC f (k / 2 - 1)).f r v) = E.put (.nd w l r) k v
          rw [this, E.put_nd, cond3, if_neg h0, if_neg h1]; rfl

theorem slotG_f (k : Nat) (e : E) : (slotG k).f e = e.get k := getC_spec _ _ _ (Nat.lt_succ_self k)
theorem slotP_f (n : Nat) (d : Option Tmp) (e : E) (v : DV) :
    (slotP n d).f e v = match d with | some k => if k < n then e.put k v else e | none => e := by
  unfold slotP
  cases d with
  | none => rfl
  | some k =>
    simp only
    rw [bltD]
    by_cases h : k < n
    · simp only [h, decide_true, cond_true, if_true]; exact putC_spec _ _ _ _ (Nat.lt_succ_self k)
    · simp only [h, decide_false, cond_false, if_false]

end Go.Dm
end

section
namespace Go.Dm
variable {C : Ctx} {ρ : Ren} {h : Heap} {w : World}

theorem add_none (b off n : Nat) : Addr.add ⟨b, off, none⟩ n = ⟨b, off + n, none⟩ := by
  unfold Addr.add
  split
  · simp [*]
  · rfl

/-! the frame -/
def DefR (ρ : Ren) (d : FuncId × List DV) (r : Deferred) : Prop :=
  ∃ (cap : Array Value), r.target = .fn (.func d.1) cap ∧ VRs ρ d.2 (r.args ++ cap).toList
inductive DefRs (ρ : Ren) : List (FuncId × List DV) → List Deferred → Prop where
  | nil : DefRs ρ [] []
  | cons (d : FuncId × List DV) (r : Deferred) (ds : List (FuncId × List DV)) (rs : List Deferred) (h : DefR ρ d r) (hs : DefRs ρ ds rs) : DefRs ρ (d :: ds) (r :: rs)
theorem DefR.mono {ρ' : Ren} (l : ρ.le ρ') {d : FuncId × List DV} {r : Deferred} (h : DefR ρ d r) : DefR ρ' d r := by
  obtain ⟨cap, h1, h2⟩ := h
  exact ⟨cap, h1, h2.mono l⟩
theorem DefRs.mono {ρ' : Ren} (l : ρ.le ρ') : ∀ {d : List (FuncId × List DV)} {r : List Deferred}, DefRs ρ d r → DefRs ρ' d r
  | _, _, .nil => .nil
  | _, _, .cons d r ds rs h hs => .cons d r ds rs (h.mono l) (hs.mono l)

structure ER (ρ : Ren) (n : Nat) (e : E) (a : Act) : Prop where
  size : a.tmps.size = n
  tmp : ∀ t, VR ρ (e.get t) (a.tmps.getD t undef)

theorem ER.mono {ρ' : Ren} (l : ρ.le ρ') {n : Nat} {e : E} {a : Act} (h : ER ρ n e a) : ER ρ' n e a :=
  ⟨h.size, fun t => (h.tmp t).mono l⟩

theorem VR.undef : VR ρ (.tuple []) undef := .tuple [] [] .nil

variable {n : Nat} {e : E} {a : Act}

theorem ER.put (H : ER ρ n e a) (d : Option Tmp) {v : DV} {u : Value} (hv : VR ρ v u) : ER ρ n ((slotP n d).f e v) (a.put d u) := by
  rw [slotP_f]
  cases d with
  | none => exact H
  | some d =>
    simp only [Act.put]
    by_cases hd : d < n
    · rw [if_pos hd]
      refine ⟨by simpa using H.size, fun t => ?_⟩
      rw [E.get_put]
      by_cases et : t = d
      · subst et
        rw [if_pos rfl]
        have : t < a.tmps.size := by rw [H.size]; exact hd
        simpa [Array.getD_eq_getD_getElem?, Array.getElem?_setIfInBounds, this] using hv
      · rw [if_neg et]
        have e' : ¬ d = t := fun h => et h.symm
        have := H.tmp t
        simpa [Array.getD_eq_getD_getElem?, Array.getElem?_setIfInBounds, e'] using this
    · rw [if_neg hd]
      have hle : a.tmps.size ≤ d := by rw [H.size]; exact Nat.le_of_not_lt hd
      rw [Array.setIfInBounds_eq_of_size_le hle]
      exact H

theorem ER.ev (H : ER ρ n e a) {x : Operand} {fx : FV} (hx : evC x = some fx) : VR ρ (fx.f e) (a.eval x) := by
  cases x with
  | tmp t =>
    simp only [evC] at hx
    have : fx = ⟨(slotG t).f⟩ := by cases hx; rfl
    subst this
    show VR ρ ((slotG t).f e) _
    rw [slotG_f]
    exact H.tmp t
  | const v =>
    simp only [evC] at hx
    cases e' : ofVal v with
    | none => rw [e'] at hx; simp at hx
    | some d => rw [e'] at hx; simp at hx; subst hx; exact VR.ofVal e'
  | global g => simp [evC] at hx
  | func f => simp only [evC, Option.some.injEq] at hx; subst hx; exact .func f [] [] [] [] .nil .nil

theorem ER.evs (H : ER ρ n e a) : ∀ {l : List Operand} {fs : List FV}, evCs l = some fs → VRs ρ (FV.all e fs) (l.map a.eval)
  | [], fs, h => by simp [evCs] at h; subst h; exact .nil
  | o :: l, fs, h => by
    unfold evCs at h
    cases e1 : evC o with
    | none => rw [e1] at h; simp at h
    | some v =>
      rw [e1] at h
      cases e2 : evCs l with
      | none => rw [e2] at h; simp at h
      | some vs => rw [e2] at h; simp at h; subst h; exact .cons _ _ _ _ (H.ev e1) (H.evs e2)

/-! reading -/
theorem HL.cell (H : HL ρ h w) {id : Nat} {c : T DV} {n : Nat} {e : TypeId} {g f : Bool} {i : BI} (hg : h.get id = some (.cells c n e g f)) (hi : ρ id = some i) :
    ∃ c' fr, w.heap[i.b]? = some (.cells c' e fr) ∧ c'.size = i.sz ∧ n ≤ c'.size ∧ (g = false → c'.size = n) ∧ (f = false → c'.size ≤ fr.1 ∨ fr.2 ≤ fr.1) ∧ (f = false → g = false → fr = (0, 0)) ∧
      ∀ k, k < n → ∃ d v, c.get k = some d ∧ c'[k]? = some v ∧ d.one = true ∧ VR ρ d v := by
  obtain ⟨i', ro, h1, h2, h3⟩ := H.live id _ hg
  rw [hi] at h1; cases h1
  obtain ⟨c', fr, rfl, h4, h5, h6, h7, h8, h9⟩ := h3
  exact ⟨c', fr, h2, h4, h5, h6, h7, h8, h9⟩

theorem getN_spec {c : T DV} : ∀ {n off : Nat} {l : List DV}, getN c off n = some l → l.length = n ∧ ∀ k, k < n → c.get (off + k) = l[k]?
  | 0, off, l, hh => by simp [getN] at hh; subst hh; simp
  | n + 1, off, l, hh => by
    unfold getN at hh
    cases e : c.get off with
    | none => rw [e] at hh; simp at hh
    | some v =>
      rw [e] at hh
      cases e' : getN c (off + 1) n with
      | none => rw [e'] at hh; simp at hh
      | some r =>
        rw [e'] at hh; simp at hh; subst hh
        obtain ⟨h1, h2⟩ := getN_spec e'
        refine ⟨by simp [h1], fun k hk => ?_⟩
        cases k with
        | zero => simpa using e
        | succ k =>
          have := h2 k (by omega)
          rw [show off + (k + 1) = off + 1 + k from by omega, this]
          simp

theorem VRs.of_get : ∀ {l : List DV} {f : Nat → Value}, (∀ (k : Nat) d, l[k]? = some d → VR ρ d (f k)) → VRs ρ l ((List.range l.length).map f)
  | [], f, _ => by simpa using VRs.nil
  | d :: l, f, hh => by
    rw [List.length_cons, List.range_succ_eq_map, List.map_cons, List.map_map]
    exact .cons _ _ _ _ (hh 0 d rfl) (VRs.of_get (f := f ∘ Nat.succ) fun k d' hk => hh (k + 1) d' (by simpa using hk))

theorem loadN_sim (H : HL ρ h w) {id off n : Nat} {l : List DV} {i : BI} (hl : loadN h id off n = some l) (hi : ρ id = some i) :
    ∃ l' : List Value, VRs ρ l l' ∧ l.length = n ∧ (∀ k v, l'[k]? = some v → w.cell? ⟨i.b, off + k, none⟩ = some v) ∧ (∀ d ∈ l, d.one = true) := by
  unfold loadN at hl
  split at hl
  · rename_i c m e g f hg
    obtain ⟨c', fr, hw, h1, h2, h3, h4, h5, h6⟩ := H.cell hg hi
    cases hb : Nat.ble (off + n) m with
    | false => rw [hb] at hl; simp at hl
    | true =>
      rw [hb] at hl
      have hb' : off + n ≤ m := by simpa using hb
      simp only [cond_true] at hl
      obtain ⟨hlen, hget⟩ := getN_spec hl
      have key : ∀ k, k < n → ∃ d v, l[k]? = some d ∧ c'[off + k]? = some v ∧ d.one = true ∧ VR ρ d v := fun k hk => by
        obtain ⟨d, v, a1, a2, a3, a4⟩ := h6 (off + k) (by omega)
        exact ⟨d, v, by rw [← hget k hk, a1], a2, a3, a4⟩
      refine ⟨(List.range l.length).map fun k => c'.getD (off + k) undef, VRs.of_get fun k d hk => ?_, hlen, fun k v hk => ?_, fun d hd => ?_⟩
      · have hkn : k < n := by have := (List.getElem?_eq_some_iff.1 hk).1; omega
        obtain ⟨d', v, a1, a2, a3, a4⟩ := key k hkn
        rw [hk] at a1; cases a1
        simpa [Array.getD_eq_getD_getElem?, a2] using a4
      · have hkn : k < l.length := by
          have := (List.getElem?_eq_some_iff.1 hk).1
          simpa using this
        obtain ⟨d', v', a1, a2, a3, a4⟩ := key k (by omega)
        have : v = v' := by
          simp only [List.getElem?_map, List.getElem?_range hkn, Option.map_some, Option.some.injEq] at hk
          rw [← hk]
          simp [Array.getD_eq_getD_getElem?, a2]
        subst this
        unfold World.cell?
        simp only [hw]
        simpa using a2
      · obtain ⟨k, hk⟩ := List.getElem?_of_mem hd
        have hkn : k < n := by have := (List.getElem?_eq_some_iff.1 hk).1; omega
        obtain ⟨d', v', a1, a2, a3, a4⟩ := key k hkn
        rw [hk] at a1; cases a1
        exact a3
  · simp at hl

theorem run_loadCells_sim {id off n : Nat} {l : List DV} {i : BI} (H : HL ρ h w) (hl : loadN h id off n = some l) (hi : ρ id = some i) :
    ∃ l' : List Value, VRs ρ l l' ∧ l.length = n ∧ (loadCells ⟨i.b, off, none⟩ n).run C.P w = .ok l'.toArray w := by
  obtain ⟨l', h1, h2, h3, h4⟩ := loadN_sim H hl hi
  refine ⟨l', h1, h2, ?_⟩
  have hlen : l'.length = n := by rw [← h1.length, h2]
  have := run_loadCells_list (P := C.P) (w := w) ⟨i.b, off, none⟩ l' (fun j v hj => by rw [add_none]; exact h3 j v hj)
  rwa [hlen] at this

theorem run_isAgg (ok : C.Ok) {t : TypeId} {d : TypeDesc} (hu : Dm.und C.S t = some d) : (isAgg t).run C.P w = .ok (isAggD d) w := by
  have := ok.und hu
  simp only [isAgg, Sem.run_bind, run_underlying this]
  cases d <;> rfl

theorem run_sizeOf' (ok : C.Ok) {t : TypeId} {i : TypeInfo} (hu : C.S.ty t = some i) : (sizeOf t).run C.P w = .ok i.size w := by
  simp [sizeOf, typeInfo, ok.ty t i hu]

theorem loadAgg_sim (ok : C.Ok) (H : HL ρ h w) {t : TypeId} {i : TypeInfo} {d : TypeDesc} {x v : DV} {u : Value} (hi : C.S.ty t = some i) (hd : Dm.und C.S t = some d) (hag : isAggD d = true)
    (hl : loadAgg h i.size x = some v) (ha : VR ρ x u) : ∃ y, VR ρ v y ∧ (Instr.loadAt t u).run C.P w = .ok y w := by
  unfold loadAgg at hl
  split at hl
  · rename_i id off
    cases e : loadN h id off i.size with
    | none => rw [e] at hl; simp at hl
    | some l =>
      rw [e] at hl; simp at hl; subst hl
      cases ha with
      | ptr _ _ bi hb =>
        obtain ⟨l', h1, h2, h3⟩ := run_loadCells_sim (C := C) H e hb
        refine ⟨_, .agg _ _ h1, ?_⟩
        simp [Instr.loadAt, Instr.sureAddr, loadVar, run_isAgg ok hd, hag, run_sizeOf' ok hi, h3]
  · simp at hl

theorem HL.cellAt (H : HL ρ h w) {id off : Nat} {c : T DV} {n : Nat} {e : TypeId} {g f : Bool} {i : BI} (hg : h.get id = some (.cells c n e g f)) (hi : ρ id = some i) (hk : off < n) :
    ∃ d v, c.get off = some d ∧ w.cell? ⟨i.b, off, none⟩ = some v ∧ d.one = true ∧ VR ρ d v := by
  obtain ⟨c', fr, hw, h1, h2, h3, h4, h5, h6⟩ := H.cell hg hi
  obtain ⟨d, v, a1, a2, a3, a4⟩ := h6 off hk
  refine ⟨d, v, a1, ?_, a3, a4⟩
  unfold World.cell?
  simp only [hw]
  simpa using a2

theorem loadOne_sim (ok : C.Ok) (H : HL ρ h w) {t : TypeId} {d : TypeDesc} {x v : DV} {u : Value} (hd : Dm.und C.S t = some d) (hag : isAggD d = false)
    (hl : loadOne h x = some v) (ha : VR ρ x u) : ∃ y, VR ρ v y ∧ (Instr.loadAt t u).run C.P w = .ok y w := by
  unfold loadOne at hl
  split at hl
  · rename_i id off
    cases ha with
    | ptr _ _ bi hb =>
      split at hl
      · rename_i c m e g f hg
        rw [bltD] at hl
        by_cases hk : off < m
        · simp only [hk, decide_true, cond_true] at hl
          obtain ⟨d', v', a1, a2, a3, a4⟩ := H.cellAt hg hb hk
          rw [hl] at a1; cases a1
          refine ⟨v', a4, ?_⟩
          simp [Instr.loadAt, Instr.sureAddr, loadVar, run_isAgg ok hd, hag, a2]
        · simp [hk] at hl
      · simp at hl
  · simp at hl

theorem loadVarD_sim (ok : C.Ok) (H : HL ρ h w) {t : TypeId} {a v : DV} {u : Value} (hl : loadVarD C.S h t a = some v) (ha : VR ρ a u) :
    ∃ x, VR ρ v x ∧ (Instr.loadAt t u).run C.P w = .ok x w := by
  unfold loadVarD at hl
  split at hl
  · rename_i id off
    split at hl
    · rename_i i d hi hd
      cases ha with
      | ptr _ _ bi hb =>
        cases hag : isAggD d with
        | true =>
          rw [hag] at hl; simp only [cond_true] at hl
          cases e : loadN h id off i.size with
          | none => rw [e] at hl; simp at hl
          | some l =>
            rw [e] at hl; simp at hl; subst hl
            obtain ⟨l', h1, h2, h3⟩ := run_loadCells_sim (C := C) H e hb
            refine ⟨_, .agg _ _ h1, ?_⟩
            simp [Instr.loadAt, Instr.sureAddr, loadVar, run_isAgg ok hd, hag, run_sizeOf' ok hi, h3]
        | false =>
          rw [hag] at hl; simp only [cond_false] at hl
          split at hl
          · rename_i v' e
            simp at hl; subst hl
            obtain ⟨l', h1, h2, h3, h4⟩ := loadN_sim H e hb
            cases h1 with
            | cons _ x _ _ hx hs =>
              refine ⟨x, hx, ?_⟩
              have := h3 0 x rfl
              simp only [Nat.add_zero] at this
              simp [Instr.loadAt, Instr.sureAddr, loadVar, run_isAgg ok hd, hag, this]
          · simp at hl
    · simp at hl
  · simp at hl

theorem partD_sim (ok : C.Ok) {t : TypeId} {cs : List DV} {cs' : List Value} {off : Nat} {v : DV} (hp : partD C.S t cs off = some v) (hc : VRs ρ cs cs') :
    ∃ x, VR ρ v x ∧ ∀ w, (part t cs'.toArray off).run C.P w = .ok x w := by
  unfold partD at hp
  split at hp
  · rename_i i d hi hd
    cases hag : isAggD d with
    | true =>
      rw [hag] at hp; simp only [cond_true] at hp
      cases hb : Nat.ble (off + i.size) cs.length with
      | false => rw [hb] at hp; simp at hp
      | true =>
        rw [hb] at hp; simp at hp; subst hp
        refine ⟨_, .agg _ _ ((hc.take (off + i.size)).drop off), fun w => ?_⟩
        simp [part, run_isAgg ok hd, hag, run_sizeOf' ok hi, List.drop_take]
    | false =>
      rw [hag] at hp; simp only [cond_false] at hp
      obtain ⟨x, h1, h2⟩ := hc.get hp
      refine ⟨x, h2, fun w => ?_⟩
      simp [part, run_isAgg ok hd, hag, h1]
  · simp at hp

end Go.Dm
end

section
namespace Go.Dm
variable {C : Ctx} {ρ : Ren} {h : Heap} {w : World}

/-! equality -/
theorem eqI_iff (a b : Int) : eqI a b = decide (a = b) := by
  cases a with
  | ofNat a => cases b with
    | ofNat b => simp only [eqI, beqD]; congr 1; exact propext ⟨fun h => by rw [h], fun h => Int.ofNat.inj h⟩
    | negSucc b => simp [eqI]
  | negSucc a => cases b with
    | ofNat b => simp [eqI]
    | negSucc b => simp [eqI, beqD]
theorem ltI_iff (a b : Int) : ltI a b = decide (a < b) := by
  cases a with
  | ofNat a =>
    cases b with
    | ofNat b => simp [ltI, bltD]
    | negSucc b => simp only [ltI]; symm; simp; omega
  | negSucc a =>
    cases b with
    | ofNat b => simp only [ltI]; symm; simp; omega
    | negSucc b => simp only [ltI, bltD]; congr 1; apply propext; omega

theorem hiOf_spec (k : IntKind) (n : Nat) (hn : n < hiOf k) : k.wrap (n : Int) = n := by
  cases k <;> simp only [hiOf] at hn <;> simp [IntKind.wrap, IntKind.bits, IntKind.signed] <;> omega
theorem hiOf_neg (k : IntKind) (n : Nat) (hk : k.signed = true) (hn : n < hiOf k) : k.wrap (Int.negSucc n) = Int.negSucc n := by
  have e : Int.negSucc n = -(n : Int) - 1 := by omega
  rw [e]
  cases k <;> first | (simp [IntKind.signed] at hk; done) | skip
  all_goals
    simp only [hiOf] at hn
    simp [IntKind.wrap, IntKind.bits, IntKind.signed]
    omega

theorem wrapF_eq (k : IntKind) (n : Int) : wrapF k n = k.wrap n := by
  cases n with
  | ofNat a =>
    simp only [wrapF, bltD]
    by_cases h : a < hiOf k
    · simp only [h, decide_true, cond_true]; exact (hiOf_spec k a h).symm
    · simp only [h, decide_false, cond_false]
  | negSucc a =>
    simp only [wrapF, bltD]
    by_cases h : k.signed = true ∧ a < hiOf k
    · simp only [h.1, h.2, decide_true, Bool.and_true, cond_true]; exact (hiOf_neg k a h.1 h.2).symm
    · have : (k.signed && decide (a < hiOf k)) = false := by
        cases hs : k.signed
        · simp
        · simp [hs] at h; simp; omega
      rw [this]; rfl

theorem addW_eq (k : IntKind) (a b : Int) : addW k a b = k.wrap (a + b) := by
  unfold addW
  split
  · rename_i a b
    rw [bltD]
    by_cases h : Nat.add a b < hiOf k
    · simp only [h, decide_true, cond_true]; exact (hiOf_spec k _ h).symm
    · simp only [h, decide_false, cond_false]; rfl
  · rw [wrapF_eq]; rfl
theorem subW_eq (k : IntKind) (a b : Int) : subW k a b = k.wrap (a - b) := by
  unfold subW
  split
  · rename_i a b
    rw [bltD, bleD]
    by_cases h : b ≤ a ∧ a < hiOf k
    · simp only [h.1, h.2, decide_true, Bool.and_true, cond_true]
      have h1 : Nat.sub a b < hiOf k := by show a - b < _; omega
      have := hiOf_spec k _ h1
      have e : (Int.ofNat a - Int.ofNat b) = ((Nat.sub a b : Nat) : Int) := by show _ = ((a - b : Nat) : Int); simp only [Int.ofNat_eq_natCast]; omega
      rw [e, this]; rfl
    · have : (decide (b ≤ a) && decide (a < hiOf k)) = false := by
        cases hb : decide (b ≤ a) <;> simp_all
      rw [this]; simp only [cond_false]; rw [wrapF_eq]; rfl
  · rw [wrapF_eq]; rfl

theorem BS.eqb_toList (s t : BS) (hs : s.ok) (ht : t.ok) : (s.ba.toList == t.ba.toList) = s.eqb t := by
  have key : ∀ b : ByteArray, b.toList = b.data.toList := fun b => ByteArray.toList_eq b
  rw [Bool.eq_iff_iff, beq_iff_eq, BS.eqb_iff s t hs ht, key, key]
  constructor
  · intro h
    have : s.ba.data = t.ba.data := by
      have := congrArg List.toArray h
      simpa using this
    cases hs' : s.ba; cases ht' : t.ba
    simp_all
  · intro h; rw [h]

end Go.Dm
end

section
namespace Go.Dm
variable {C : Ctx} {ρ : Ren} {h : Heap} {w : World}

theorem eq_fields (ok : C.Ok) {eqd : TypeId → DV → DV → Option Bool} {eqr : TypeId → Value → Value → Sem Bool}
    (heq : ∀ t x y b a c, eqd t x y = some b → VR ρ x a → VR ρ y c → (eqr t a c).run C.P w = .ok b w) {xs ys : List DV} {xs' ys' : List Value} (hx : VRs ρ xs xs') (hy : VRs ρ ys ys') :
    ∀ (fs : List Field) (b : Bool), (∀ f ∈ fs, f.name ≠ "_") → eqFields eqd C.S xs ys fs = some b →
      (do
        let r ← forIn fs (none, ()) fun f (_ : Option Bool × Unit) => do
          if f.name ≠ "_" then
            if !(← eqr f.type (← part f.type xs'.toArray f.offset) (← part f.type ys'.toArray f.offset)) then pure (.done (some false, ()))
            else pure (.yield (none, ()))
          else pure (.yield (none, ()))
        match r.1 with
        | none => pure true
        | some b => pure b : Sem Bool).run C.P w = .ok b w := by
  intro fs
  induction fs with
  | nil => intro b _ h; simp [eqFields] at h; subst h; simp
  | cons f fs ih =>
    intro b hn h
    unfold eqFields at h
    split at h
    · rename_i x y h1 h2
      obtain ⟨a, ha, hra⟩ := partD_sim ok h1 hx
      obtain ⟨c, hc, hrc⟩ := partD_sim ok h2 hy
      have hnf : f.name ≠ "_" := hn f (by simp)
      split at h
      · rename_i h3
        have := heq _ _ _ _ _ _ h3 ha hc
        have ih' := ih b (fun g hg => hn g (by simp [hg])) h
        simp only [List.forIn_cons]
        simp [hnf, hra, hrc, this] at ih' ⊢
        exact ih'
      · rename_i r h3
        cases hb : eqd f.type x y with
        | none => rw [hb] at h; cases h
        | some b' =>
          rw [hb] at h; cases h
          cases b with
          | true => exact absurd hb (by assumption)
          | false =>
            have := heq _ _ _ _ _ _ hb ha hc
            simp only [List.forIn_cons]
            simp [hnf, hra, hrc, this]
    · cases h

theorem VR.agg_inv {cs : List DV} {v : Value} (h : VR ρ (.agg cs) v) : ∃ cs', v = .agg cs'.toArray ∧ VRs ρ cs cs' := by
  cases h with | agg _ cs' h => exact ⟨cs', rfl, h⟩

/-- two pointers into variables of the run's own -/
theorem samePtr (H : HL ρ h w) {i o j p : Nat} {b : Bool} {a c : Value} (hp : ptrEq h i o j p = some b) (ha : VR ρ (.ptr i o) a) (hc : VR ρ (.ptr j p) c) :
    ∃ x y, a = .pointer (some x) ∧ c = .pointer (some y) ∧ (sameAddr x y).run C.P w = .ok b w := by
  unfold ptrEq at hp
  split at hp
  · rename_i c1 n1 e1 c2 n2 e2 h1 h2
    cases hp
    cases ha with
    | ptr _ _ bi hb =>
      cases hc with
      | ptr _ _ bj hb' =>
        refine ⟨_, _, rfl, rfl, ?_⟩
        obtain ⟨x1, f1, w1, -, -, -, -, z1, -⟩ := H.cell h1 hb
        obtain ⟨x2, f2, w2, -, -, -, -, z2, -⟩ := H.cell h2 hb'
        have z1 := z1 rfl rfl
        have z2 := z2 rfl rfl
        subst z1 z2
        by_cases hij : i = j
        · subst hij
          rw [hb] at hb'; cases hb'
          simp only [beqD, decide_true, Bool.true_and]
          have : ((⟨bi.b, o, none⟩ : Addr) == ⟨bi.b, p, none⟩) = decide (o = p) := by
            rw [Bool.eq_iff_iff]; simp
          simp [sameAddr, this]
        · have hne : ¬ bi.b = bj.b := fun e => hij (H.inj _ _ _ _ _ _ h1 h2 hb hb' e)
          have hne' : (bi.b == bj.b) = false := by simpa using hne
          have s1 : w.shape? bi.b = some (e1, x1.size) := by simp [World.shape?, w1]
          have s2 : w.shape? bj.b = some (e2, x2.size) := by simp [World.shape?, w2]
          have g1 : ∀ k, w.frozen? ⟨bi.b, k, none⟩ = false := fun k => by simp [World.frozen?, w1]
          have g2 : ∀ k, w.frozen? ⟨bj.b, k, none⟩ = false := fun k => by simp [World.frozen?, w2]
          simp only [beqD, hij, decide_false, Bool.false_and]
          simp [sameAddr, hne', frozen, noView, viewAt, shape, mayBeOne, stringish, s1, s2, g1, g2, Sem.run]
  · cases hp

theorem ba_beq (a b : ByteArray) : (a == b) = true ↔ a = b := by
  cases a; cases b
  show ByteArray.beq _ _ = true ↔ _
  unfold ByteArray.beq
  simp

theorem equalIn_str {P : Program} {d : Nat} {t : TypeId} {x y : ByteArray} (hU : P.underlying t = some .string) : (Op.equalIn (d + 1) t (.string x) (.string y)).run P w = .ok (x == y) w := by
  unfold Op.equalIn
  rw [Sem.run_bind, run_underlying hU]
  rfl

theorem equalIn_struct {P : Program} {d : Nat} {t : TypeId} {fs : Array Field} {xs ys : Array Value} {b : Bool} (hU : P.underlying t = some (.struct fs)) (hs : P.stoodInHeld t = false)
    (hk : (do
        let r ← forIn fs.toList (none, ()) fun f (_ : Option Bool × Unit) => do
          if f.name ≠ "_" then
            if !(← Op.equalIn d f.type (← part f.type xs f.offset) (← part f.type ys f.offset)) then pure (.done (some false, ()))
            else pure (.yield (none, ()))
          else pure (.yield (none, ()))
        match r.1 with
        | none => pure true
        | some b => pure b : Sem Bool).run P w = .ok b w) : (Op.equalIn (d + 1) t (.agg xs) (.agg ys)).run P w = .ok b w := by
  unfold Op.equalIn
  rw [Sem.run_bind, run_underlying hU]
  simp only [Result.andThen]
  rw [Sem.run_bind]
  show ((Sem.run P (pure P) w).andThen _) = _
  simp only [Sem.run_pure, Result.andThen, hs]
  rw [if_neg (by simp)]
  rw [Sem.run_bind] at hk ⊢
  rw [← Array.forIn_toList]
  generalize Sem.run P (forIn fs.toList _ _) w = res at hk ⊢
  cases res with
  | halt x w' => cases hk
  | ok r w' =>
    simp only [Result.andThen] at hk ⊢
    cases hr : r.1 <;> rw [hr] at hk <;> exact hk

theorem equalIn_ptr {P : Program} {d : Nat} {t e : TypeId} {x y : Addr} {b : Bool} {n : Nat} (hU : P.underlying t = some (.pointer e)) (hs : (sizeOf e).run P w = .ok n w) (hn : n ≠ 0)
    (hb : (sameAddr x y).run P w = .ok b w) : (Op.equalIn (d + 1) t (.pointer (some x)) (.pointer (some y))).run P w = .ok b w := by
  unfold Op.equalIn
  rw [Sem.run_bind, run_underlying hU]
  simp only [Result.andThen]
  rw [Sem.run_bind, hs]
  simp only [Result.andThen]
  rw [if_pos hn]
  exact hb

theorem eqD_sim (ok : C.Ok) (H : HL ρ h w) : ∀ (d d' : Nat), d ≤ d' → ∀ (t : TypeId) (x y : DV) (b : Bool) (a c : Value), eqD C.S h d t x y = some b → VR ρ x a → VR ρ y c →
    (Op.equalIn d' t a c).run C.P w = .ok b w := by
  intro d
  induction d with
  | zero => intro d' _ t x y b a c h; simp [eqD] at h
  | succ d ih =>
    intro d' hd t x y b a c hq ha hc
    obtain ⟨d', rfl⟩ : ∃ m, d' = m + 1 := ⟨d' - 1, by omega⟩
    unfold eqD at hq
    split at hq
    · cases hq
    rename_i u hu
    have hU := run_underlying (ok.und hu)
    split at hq
    all_goals (try cases hq)
    all_goals (try (cases ha; cases hc))
    all_goals (try (simp [Op.equalIn, hU]; done))
    · rename_i k1 k a k' b'
      cases hk : kEq k k' with
      | false => rw [hk] at hq; cases hq
      | true =>
        rw [hk] at hq
        have := kEq_iff.1 hk
        subst this
        simp only [cond_true, eqI_iff, Option.some.injEq] at hq
        subst hq
        simp [Op.equalIn, hU]
        rfl
    · rename_i s1 s2 o1 o2
      have := BS.eqb_iff s1 s2 o1 o2
      have e : (s1.ba == s2.ba) = s1.eqb s2 := by rw [Bool.eq_iff_iff, this]; exact ba_beq _ _
      rw [equalIn_str (ok.und hu), e]
    · rename_i e i o j p _ bi hi bj hj
      split at hq
      · rename_i ei hei
        rw [beqD] at hq
        by_cases hz : ei.size = 0
        · simp [hz] at hq
        · simp only [hz, decide_false, cond_false] at hq
          obtain ⟨x, y, e1, e2, h3⟩ := samePtr H hq (.ptr _ _ _ hi) (.ptr _ _ _ hj)
          cases e1; cases e2
          exact equalIn_ptr (ok.und hu) (run_sizeOf' ok hei) hz h3
      · cases hq
    · rename_i fs xs ys xs' hx ys' hy
      cases hp : C.S.plain t with
      | false => rw [hp] at hq; cases hq
      | true =>
        rw [hp] at hq
        simp only [cond_true] at hq
        obtain ⟨-, p2, p3⟩ := ok.plain t hp
        have key := eq_fields ok (eqr := Op.equalIn d') (fun t x y b a c h1 h2 h3 => ih d' (by omega) t x y b a c h1 h2 h3) hx hy fs.toList b (p3 fs hu) hq
        exact equalIn_struct (ok.und hu) p2 key

end Go.Dm
end

section
namespace Go.Dm
variable {C : Ctx} {ρ : Ren} {h : Heap} {w : World}

theorem ba_inj {a b : ByteArray} (h : a.data.toList = b.data.toList) : a = b := by
  cases a with
  | mk x => cases b with
    | mk y => cases x; cases y; simp at h; rw [h]

theorem guard_other (P : Program) (op : BinOp) (t : TypeId) (x y : Operand) (a b : Value) (ho : op ≠ .eql) (hn : op ≠ .neq) : (eqGuard op t x y a b).run P w = .ok () w := by
  cases op <;> first | exact absurd rfl ho | exact absurd rfl hn | rfl
theorem guard_int (P : Program) (op : BinOp) (t : TypeId) (x y : Operand) (k k' : IntKind) (m m' : Int) : (eqGuard op t x y (.int k m) (.int k' m')).run P w = .ok () w := by
  cases op <;> rfl
theorem guard_str (P : Program) (op : BinOp) (t : TypeId) (x y : Operand) (s s' : ByteArray) : (eqGuard op t x y (.string s) (.string s')).run P w = .ok () w := by
  cases op <;> rfl

theorem bin_int (P : Program) (op : BinOp) (t : TypeId) (k : IntKind) (m m' : Int) {v : DV}
    (hv : binI op k m m' = some v) : ∃ u, VR ρ v u ∧ (binOp op t (.int k m) (.int k m')).run P w = .ok u w := by
  unfold binI at hv
  cases op <;> simp only at hv
  all_goals (try cases hv)
  case add => exact ⟨_, .int _ _, by rw [wrapF_eq]; simp [binOp, Op.intArith]⟩
  case sub => exact ⟨_, .int _ _, by rw [wrapF_eq]; simp [binOp, Op.intArith]⟩
  case mul => exact ⟨_, .int _ _, by rw [wrapF_eq]; simp [binOp, Op.intArith]⟩
  case quo =>
    rw [eqI_iff] at hv
    by_cases h0 : m' = 0
    · simp [h0] at hv
    · simp only [h0, decide_false, cond_false, Option.some.injEq] at hv
      subst hv
      exact ⟨_, .int _ _, by rw [wrapF_eq]; simp [binOp, Op.intDiv, h0]⟩
  case rem =>
    rw [eqI_iff] at hv
    by_cases h0 : m' = 0
    · simp [h0] at hv
    · simp only [h0, decide_false, cond_false, Option.some.injEq] at hv
      subst hv
      exact ⟨_, .int _ _, by simp [binOp, Op.intDiv, h0]⟩
  case eql => exact ⟨_, .bool _, by rw [eqI_iff]; simp [binOp, Op.intCmp]; rfl⟩
  case neq => exact ⟨_, .bool _, by rw [eqI_iff]; simp [binOp, Op.intCmp, bne]; rfl⟩
  case lss => exact ⟨_, .bool _, by rw [ltI_iff]; simp [binOp, Op.intCmp]⟩
  case leq =>
    have e : decide (m ≤ m') = !decide (m' < m) := by by_cases h : m' < m <;> simp [h] <;> omega
    exact ⟨_, .bool _, by rw [ltI_iff, ← e]; simp [binOp, Op.intCmp]⟩
  case gtr => exact ⟨_, .bool _, by rw [ltI_iff]; simp [binOp, Op.intCmp]⟩
  case geq =>
    have e : decide (m' ≤ m) = !decide (m < m') := by by_cases h : m < m' <;> simp [h] <;> omega
    exact ⟨_, .bool _, by rw [ltI_iff, ← e]; simp [binOp, Op.intCmp]⟩

theorem bin_str_add (P : Program) (t : TypeId) (s s' : BS) (h1 : s.ok) (h2 : s'.ok) (hl : s.len + s'.len < 1073741824) :
    ∃ u, VR ρ (.str (s.app s')) u ∧ (binOp .add t (.string s.ba) (.string s'.ba)).run P w = .ok u w := by
  refine ⟨_, .str _ (BS.app_ok s s' h1 h2), ?_⟩
  have hs : s.ba.size = s.len := s.ba_size
  have hs' : s'.ba.size = s'.len := s'.ba_size
  have e : (s.app s').ba = s.ba ++ s'.ba := by
    apply ba_inj
    simp [BS.ba, BS.app_bytes s s' h1]
  have hle : ¬ (((s.ba.size + s'.ba.size : Nat) : Int) > IntKind.i64.max) := by
    rw [hs, hs']; simp [IntKind.max, IntKind.signed, IntKind.bits]; omega
  simp only [binOp, Op.stringOp]
  rw [if_neg hle, e]
  rfl

theorem bin_str_eq (P : Program) (t : TypeId) (s s' : BS) (h1 : s.ok) (h2 : s'.ok) :
    (binOp .eql t (.string s.ba) (.string s'.ba)).run P w = .ok (.bool (s.eqb s')) w := by
  rw [← BS.eqb_toList s s' h1 h2]; rfl
theorem bin_str_ne (P : Program) (t : TypeId) (s s' : BS) (h1 : s.ok) (h2 : s'.ok) :
    (binOp .neq t (.string s.ba) (.string s'.ba)).run P w = .ok (.bool !(s.eqb s')) w := by
  rw [← BS.eqb_toList s s' h1 h2]; rfl

/-- neither numbers nor strings: the equality of its type -/
def plainV : Value → Bool
  | .int _ _ => false
  | .string _ => false
  | .float _ _ => false
  | .complex _ _ _ => false
  | _ => true
theorem bin_eq (t : TypeId) (a c : Value) (ha : plainV a = true) : binOp .eql t a c = (do pure (.bool (← Op.equal t a c))) := by
  cases a <;> simp [plainV] at ha <;> cases c <;> rfl
theorem bin_ne (t : TypeId) (a c : Value) (ha : plainV a = true) : binOp .neq t a c = (do pure (.bool (!(← Op.equal t a c)))) := by
  cases a <;> simp [plainV] at ha <;> cases c <;> rfl

theorem isConst_iff (x : Operand) : (match x with | .const _ => true | _ => false) = isConstO x := by cases x <;> rfl

theorem guard_nil (P : Program) (op : BinOp) (t : TypeId) (x y : Operand) (hc : (isConstO x || isConstO y) = true) : (eqGuard op t x y .nilIface .nilIface).run P w = .ok () w := by
  cases op <;> cases x <;> cases y <;> first | rfl | (simp [isConstO] at hc)
theorem guard_agg (P : Program) (op : BinOp) (t : TypeId) (x y : Operand) (a c : Array Value) (hp : P.eqGuardType P.depth t = false) : (eqGuard op t x y (.agg a) (.agg c)).run P w = .ok () w := by
  cases op <;> simp [eqGuard, program, Sem.run, hp]

theorem equalIn_nil {P : Program} {d : Nat} {t : TypeId} {ms : Array (String × TypeId)} (hU : P.underlying t = some (.interface ms)) : (Op.equalIn (d + 1) t .nilIface .nilIface).run P w = .ok true w := by
  unfold Op.equalIn
  rw [Sem.run_bind, run_underlying hU]
  rfl

theorem eqTop_sim (ok : C.Ok) (H : HL ρ h w) {op : BinOp} {t : TypeId} {xo yo : Operand} {x y : DV} {b : Bool} {a c : Value}
    (hq : eqTop C.S h t (isConstO xo || isConstO yo) x y = some b) (ha : VR ρ x a) (hc : VR ρ y c) :
    (eqGuard op t xo yo a c).run C.P w = .ok () w ∧ (Op.equal t a c).run C.P w = .ok b w := by
  unfold eqTop at hq
  split at hq
  · cases hk : (isConstO xo || isConstO yo) with
    | false => rw [hk] at hq; cases hq
    | true =>
      rw [hk] at hq
      simp only [cond_true] at hq
      split at hq
      · rename_i ms hu
        cases hq
        cases ha; cases hc
        refine ⟨guard_nil _ _ _ _ _ hk, ?_⟩
        exact equalIn_nil (d := 9999) (ok.und hu)
      · cases hq
  · rename_i hne
    refine ⟨?_, eqD_sim ok H 64 _ (by decide) t x y b a c hq ha hc⟩
    unfold eqD at hq
    split at hq
    · cases hq
    rename_i u hu
    split at hq
    all_goals (try cases hq)
    all_goals (try (cases ha; cases hc))
    all_goals (try (cases op <;> rfl))
    rename_i fs xs ys xs' hx ys' hy
    cases hp : C.S.plain t with
    | false => rw [hp] at hq; cases hq
    | true => exact guard_agg _ _ _ _ _ _ _ (ok.plain t hp).1

theorem VR.plain {x : DV} {a : Value} (h : VR ρ x a) (hp : plainD x = true) : plainV a = true := by
  cases h <;> first | rfl | (simp [plainD] at hp)

theorem binC_sim (ok : C.Ok) (H : HL ρ h w) {op : BinOp} {t : TypeId} {xo yo : Operand} {x y v : DV} {a c : Value}
    (hq : (binC C.S op t (isConstO xo || isConstO yo)).f h x y = some v) (ha : VR ρ x a) (hc : VR ρ y c) :
    ∃ u, VR ρ v u ∧ ((do eqGuard op t xo yo a c; Go.binOp op t a c) : Sem Value).run C.P w = .ok u w := by
  have key : ∀ (u : Value), (eqGuard op t xo yo a c).run C.P w = .ok () w → (Go.binOp op t a c).run C.P w = .ok u w →
      ((do eqGuard op t xo yo a c; Go.binOp op t a c) : Sem Value).run C.P w = .ok u w := fun u h1 h2 => by
    rw [Sem.run_bind, h1]; exact h2
  have ints : ∀ k k' m m', x = .int k m → y = .int k' m' → (bif kEq k k' then binI op k m m' else none) = some v →
      ∃ u, VR ρ v u ∧ ((do eqGuard op t xo yo a c; Go.binOp op t a c) : Sem Value).run C.P w = .ok u w := by
    rintro k k' m m' rfl rfl hh
    cases ha; cases hc
    cases hk : kEq k k' with
    | false => rw [hk] at hh; cases hh
    | true =>
      rw [hk] at hh
      have := kEq_iff.1 hk
      subst this
      obtain ⟨u, h1, h2⟩ := bin_int (ρ := ρ) (w := w) C.P op t k m m' hh
      exact ⟨u, h1, key u (guard_int _ _ _ _ _ _ _ _ _) h2⟩
  by_cases he : op = .eql
  · subst he
    simp only [binC] at hq
    split at hq
    · exact ints _ _ _ _ rfl rfl (by simpa only [binI] using hq)
    · cases ha with
      | str s h1 => cases hc with
        | str s' h2 => cases hq; exact ⟨_, .bool _, key _ (guard_str _ _ _ _ _ _ _) (bin_str_eq _ _ _ _ h1 h2)⟩
    · cases hp : plainD x with
      | false => rw [hp] at hq; cases hq
      | true =>
        rw [hp] at hq
        simp only [cond_true] at hq
        cases e : eqTop C.S h t (isConstO xo || isConstO yo) x y with
        | none => rw [e] at hq; cases hq
        | some b =>
          rw [e] at hq; cases hq
          obtain ⟨g1, g2⟩ := eqTop_sim ok H (op := .eql) e ha hc
          refine ⟨_, .bool _, key _ g1 ?_⟩
          rw [bin_eq t a c (ha.plain hp), Sem.run_bind, g2]
          rfl
  · by_cases hn : op = .neq
    · subst hn
      simp only [binC] at hq
      split at hq
      · exact ints _ _ _ _ rfl rfl (by simpa only [binI] using hq)
      · cases ha with
        | str s h1 => cases hc with
          | str s' h2 => cases hq; exact ⟨_, .bool _, key _ (guard_str _ _ _ _ _ _ _) (bin_str_ne _ _ _ _ h1 h2)⟩
      · cases hp : plainD x with
        | false => rw [hp] at hq; cases hq
        | true =>
          rw [hp] at hq
          simp only [cond_true] at hq
          cases e : eqTop C.S h t (isConstO xo || isConstO yo) x y with
          | none => rw [e] at hq; cases hq
          | some b =>
            rw [e] at hq; cases hq
            obtain ⟨g1, g2⟩ := eqTop_sim ok H (op := .neq) e ha hc
            refine ⟨_, .bool _, key _ g1 ?_⟩
            rw [bin_ne t a c (ha.plain hp), Sem.run_bind, g2]
            rfl
    · have hg := fun (x y : Operand) => guard_other (w := w) C.P op t x y a c he hn
      cases op
      case eql => exact absurd rfl he
      case neq => exact absurd rfl hn
      case add =>
        simp only [binC] at hq
        split at hq
        · exact ints _ _ _ _ rfl rfl (by simpa only [binI, wrapF_eq, addW_eq] using hq)
        · rename_i s s'
          cases ha with
          | str _ h1 => cases hc with
            | str _ h2 =>
              rw [bltD] at hq
              by_cases hl : s.len + s'.len < 1073741824
              · simp only [hl, decide_true, cond_true, Option.some.injEq] at hq
                subst hq
                obtain ⟨u, h3, h4⟩ := bin_str_add (ρ := ρ) (w := w) C.P t s s' h1 h2 hl
                exact ⟨u, h3, key u (hg _ _) h4⟩
              · simp [hl] at hq
        · cases hq
      case sub =>
        simp only [binC] at hq
        split at hq
        · exact ints _ _ _ _ rfl rfl (by simpa only [binI, wrapF_eq, subW_eq] using hq)
        · cases hq
      all_goals
        simp only [binC] at hq
        split at hq
        · exact ints _ _ _ _ rfl rfl (by simpa only [binI] using hq)
        · cases hq

end Go.Dm
end

section
namespace Go.Dm
variable {C : Ctx} {ρ : Ren} {h : Heap} {w : World}

theorem unD_sim (P : Program) {op : UnOp} {x v : DV} {a : Value} (hq : unD op x = some v) (ha : VR ρ x a) : ∃ u, VR ρ v u ∧ (Op.unary op a).run P w = .ok u w := by
  unfold unD at hq
  split at hq
  · cases hq; cases ha; exact ⟨_, .bool _, rfl⟩
  · cases hq; cases ha
    refine ⟨_, .int _ _, ?_⟩
    rw [wrapF_eq]
    simp [Op.unary, Op.intArith]
  · cases hq

theorem pickD_sim (P : Program) {c x y v : DV} {c' x' y' : Value} (hq : pickD c x y = some v) (hc : VR ρ c c') (hx : VR ρ x x') (hy : VR ρ y y') :
    ∃ u, VR ρ v u ∧ ((do pure (Next.value (if ← asBool c' then x' else y'))) : Sem Next).run P w = .ok (.value u) w := by
  unfold pickD at hq
  split at hq
  · rename_i t
    cases hq; cases hc
    cases t
    · exact ⟨_, hy, by simp [asBool]⟩
    · exact ⟨_, hx, by simp [asBool]⟩
  · cases hq

theorem natOf_sim {x : DV} {n : Nat} {a : Value} (hq : natOf x = some n) (ha : VR ρ x a) : ∃ k, a = .int k (n : Int) := by
  unfold natOf at hq
  split at hq
  · cases hq; cases ha; exact ⟨_, rfl⟩
  · cases hq

/-! slicing -/
inductive OV (ρ : Ren) : Option DV → Option Value → Prop where
  | none : OV ρ none none
  | some (d : DV) (v : Value) (h : VR ρ d v) : OV ρ (some d) (some v)

theorem sliceBound_nat (P : Program) (k : IntKind) (n y : Nat) (code : BoundsCode) (hy : n ≤ y) : (Instr.sliceBound (.int k n) y code).run P w = .ok n w := by
  simp [Instr.sliceBound, asIntOf, hy]

theorem sliceBounds_sim (P : Program) {isS : Bool} {len cap : Nat} {lo hi mx : Option DV} {lo' hi' mx' : Option Value} {l h m : Option Nat}
    (hl : optNat lo = some l) (hh : optNat hi = some h) (hm : optNat mx = some m) (vl : OV ρ lo lo') (vh : OV ρ hi hi') (vm : OV ρ mx mx')
    (c0 : h = none → m = none) (c1 : m.getD cap ≤ cap) (c2 : h.getD len ≤ m.getD cap) (c3 : l.getD 0 ≤ h.getD len) :
    (Instr.sliceBounds isS len cap lo' hi' mx').run P w = .ok (l.getD 0, h.getD len, m.getD cap) w := by
  have key : ∀ {x : Option DV} {x' : Option Value} {n : Option Nat}, optNat x = some n → OV ρ x x' → (n = none ∧ x' = none) ∨ ∃ k j, n = some j ∧ x' = some (.int k (j : Int)) := by
    intro x x' n hx hv
    cases hv with
    | none => simp [optNat] at hx; exact .inl ⟨hx.symm, rfl⟩
    | some d v hd =>
      unfold optNat at hx
      simp only at hx
      cases e : natOf d with
      | none => rw [e] at hx; cases hx
      | some j =>
        rw [e] at hx; cases hx
        obtain ⟨k, rfl⟩ := natOf_sim e hd
        exact .inr ⟨k, j, rfl, rfl⟩
  rcases key hl vl with ⟨rfl, rfl⟩ | ⟨kl, jl, rfl, rfl⟩ <;> rcases key hh vh with ⟨rfl, rfl⟩ | ⟨kh, jh, rfl, rfl⟩ <;> rcases key hm vm with ⟨rfl, rfl⟩ | ⟨km, jm, rfl, rfl⟩ <;>
    simp only [Option.getD_none, Option.getD_some] at c1 c2 c3 ⊢ <;>
    first
      | (have := c0 rfl; cases this; done)
      | simp [Instr.sliceBounds, sliceBound_nat, c1, c2, c3]

theorem optNat_none {hi : Option DV} (hh : optNat hi = some none) : hi = none := by
  cases hi with
  | none => rfl
  | some v => simp only [optNat] at hh; cases e : natOf v <;> simp [e] at hh

theorem sliceD_sim (ok : C.Ok) {t : TypeId} {x v : DV} {lo hi mx : Option DV} {x' : Value} {lo' hi' mx' : Option Value} (hq : sliceD C.S t x lo hi mx = some v) (hx : VR ρ x x')
    (vl : OV ρ lo lo') (vh : OV ρ hi hi') (vm : OV ρ mx mx') : ∃ u, VR ρ v u ∧ (Instr.sliceAt t x' lo' hi' mx').run C.P w = .ok u w := by
  unfold sliceD at hq
  split at hq
  · rename_i u l hh m hu hl hhi hm
    have hU := run_underlying (w := w) (ok.und hu)
    split at hq
    · -- a string
      rename_i s
      split at hq
      · cases hq
      · rename_i hmn
        rw [bleD, bleD] at hq
        by_cases hb : hh.getD s.len ≤ s.len ∧ l.getD 0 ≤ hh.getD s.len
        · simp only [hb.1, hb.2, decide_true, Bool.and_true, cond_true, Option.some.injEq] at hq
          subst hq
          cases hx with
          | str _ hok =>
            have hm0 := optNat_none hm
            subst hm0
            cases vm
            have hs : s.ba.size = s.len := s.ba_size
            have key := sliceBounds_sim (w := w) (ρ := ρ) C.P (isS := false) (len := s.len) (cap := s.len) hl hhi (mx := none) (m := none) rfl vl vh .none (fun _ => rfl) (Nat.le_refl _) hb.1 hb.2
            refine ⟨_, .str _ (BS.sub_ok s _ _), ?_⟩
            have e : (s.sub (l.getD 0) (hh.getD s.len)).ba = s.ba.extract (l.getD 0) (hh.getD s.len) := by
              apply ba_inj
              rw [ByteArray.data_extract, Array.toList_extract]
              simp only [BS.ba]
              rw [BS.sub_bytes s _ _ hb.2 hb.1]
              simp [List.extract_eq_take_drop, List.drop_take]
            rw [e]
            simp [Instr.sliceAt, hU, Instr.slice, hs, key]
        · have : (decide (hh.getD s.len ≤ s.len) && decide (l.getD 0 ≤ hh.getD s.len)) = false := by
            rw [Bool.eq_false_iff]; simpa using hb
          rw [this] at hq; cases hq
    · rename_i e id off len cap g
      split at hq
      · rename_i i hi1
        split at hq
        · cases hq
        · rename_i hcond
          rw [bleD, bleD, bleD, bltD, beqD, beqD] at hq
          by_cases hb : m.getD cap ≤ cap ∧ hh.getD len ≤ m.getD cap ∧ l.getD 0 ≤ hh.getD len
          · obtain ⟨hb1, hb2, hb3⟩ := hb
            simp only [hb1, hb2, hb3, decide_true, Bool.and_true, cond_true] at hq
            cases hx with
            | slice _ _ _ _ _ bi cap' hρ hex hgr hc =>
              have hmm : m = none ∨ m.getD cap' = m.getD cap := by cases m <;> simp
              have d1 : m.getD cap' ≤ cap' := by
                cases hm' : m with
                | none => simp
                | some x => rw [hm'] at hb1; simp at hb1 ⊢; omega
              have d2 : m.getD cap ≤ m.getD cap' := by cases m <;> simp [hc]
              have c0 : hh = none → m = none := fun h1 => by
                cases hm' : m with
                | none => rfl
                | some x => exact absurd hm' (by simpa [h1] using hcond x h1)
              have key := sliceBounds_sim (w := w) (ρ := ρ) C.P (isS := true) (len := len) (cap := cap') hl hhi hm vl vh vm c0 d1 (Nat.le_trans hb2 d2) hb3
              have hsz := run_sizeOf' (w := w) ok hi1
              have hrun : (Instr.sliceAt t (.slice (some ⟨bi.b, off, none⟩) len cap') lo' hi' mx').run C.P w =
                  .ok (.slice (if m.getD cap' = l.getD 0 then some ⟨bi.b, off, none⟩ else some ⟨bi.b, off + l.getD 0 * i.size, none⟩) (hh.getD len - l.getD 0) (m.getD cap' - l.getD 0)) w := by
                simp only [Instr.sliceAt, Sem.run_bind, hU, Result.andThen, Instr.slice, key, hsz]
                split <;> simp [add_none]
              by_cases hlt : l.getD 0 < m.getD cap
              · simp only [hlt, decide_true, cond_true] at hq
                cases hg : (m.isSome || decide (g = 0) || decide (g = i.size)) with
                | false => rw [hg] at hq; cases hq
                | true =>
                  rw [hg] at hq
                  simp only [cond_true, Option.some.injEq] at hq
                  subst hq
                  refine ⟨_, ?_, hrun⟩
                  rw [if_neg (by omega)]
                  refine .slice _ _ _ _ _ bi _ hρ ?_ ?_ (by omega)
                  · intro hz
                    cases m with
                    | none => simp at hz ⊢; rw [hex hz]
                    | some x => simp
                  · intro hz
                    cases m with
                    | none =>
                      simp at hz hg ⊢
                      have hgi : g = i.size := by omega
                      have := hgr hz
                      rw [← hgi, ← this, Nat.add_assoc, ← Nat.add_mul]
                      congr 2
                      simp at hlt
                      omega
                    | some x => simp at hz
              · simp only [hlt, decide_false, cond_false] at hq
                cases hg : (m.isSome || decide (g = 0)) with
                | false => rw [hg] at hq; cases hq
                | true =>
                  rw [hg] at hq
                  simp only [cond_true, Option.some.injEq] at hq
                  subst hq
                  have hm2 : m.getD cap' = m.getD cap := by
                    cases m with
                    | none => simp at hg ⊢; exact hex hg
                    | some x => rfl
                  refine ⟨_, ?_, hrun⟩
                  rw [if_pos (by omega)]
                  refine .slice _ _ _ _ _ bi _ hρ (fun _ => by omega) (fun hz => absurd rfl hz) (by omega)
          · have : (decide (m.getD cap ≤ cap) && decide (hh.getD len ≤ m.getD cap) && decide (l.getD 0 ≤ hh.getD len)) = false := by
              rw [Bool.eq_false_iff]; simp only [ne_eq, Bool.and_eq_true, decide_eq_true_eq]; intro h3; exact hb ⟨h3.1.1, h3.1.2, h3.2⟩
            rw [this] at hq; cases hq
      · cases hq
    · rename_i e
      split at hq
      · cases hq
      · cases hq
      · rename_i i hi1
        rw [beqD, beqD] at hq
        by_cases hb : hh.getD 0 = 0 ∧ l.getD 0 = 0
        · simp only [hb.1, hb.2, decide_true, Bool.and_true, cond_true, Option.some.injEq] at hq
          subst hq
          cases hx
          have hm0 := optNat_none hm
          subst hm0
          cases vm
          have key := sliceBounds_sim (w := w) (ρ := ρ) C.P (isS := true) (len := 0) (cap := 0) hl hhi (mx := none) (m := none) rfl vl vh .none (fun _ => rfl) (Nat.le_refl _) (by omega) (by omega)
          refine ⟨_, .nilslice, ?_⟩
          rw [hb.1, hb.2] at key
          have hsz := run_sizeOf' (w := w) ok hi1
          simp only [Instr.sliceAt, Sem.run_bind, hU, Result.andThen, Instr.slice, key, hsz]
          rfl
        · have : (decide (hh.getD 0 = 0) && decide (l.getD 0 = 0)) = false := by
            rw [Bool.eq_false_iff]; simpa using hb
          rw [this] at hq; cases hq
    · cases hq
  · cases hq

/-! addresses, fields, elements -/
theorem run_fieldAt (ok : C.Ok) {t : TypeId} {fs : Array Field} {f : Nat} {fd : Field} {i : TypeInfo} {x v : DV} {a : Value} (hu : Dm.und C.S t = some (.struct fs)) (hf : fs[f]? = some fd)
    (hi : C.S.ty fd.type = some i) (hz : Nat.beq i.size 0 = false) (hq : fieldA fd.offset x = some v) (ha : VR ρ x a) :
    ∃ u, VR ρ v u ∧ (Instr.fieldAt t a f).run C.P w = .ok u w := by
  unfold fieldA at hq
  split at hq
  · cases hq
    cases ha with
    | ptr _ _ bi hb =>
      refine ⟨_, .ptr _ _ bi hb, ?_⟩
      have hz' : ¬ i.size = 0 := by rw [beqD] at hz; simpa using hz
      simp only [Instr.fieldAt, Sem.run_bind, run_underlying (ok.und hu), Result.andThen, hf, Instr.sureAddr, Sem.run_pure, fieldPlace, run_sizeOf' (w := w) ok hi]
      rw [if_neg hz', add_none]
      rfl
  · cases hq

theorem run_field (ok : C.Ok) {t : TypeId} {fs : Array Field} {f : Nat} {fd : Field} {x v : DV} {a : Value} (hu : Dm.und C.S t = some (.struct fs)) (hf : fs[f]? = some fd)
    (hq : fieldD C.S fd.type fd.offset x = some v) (ha : VR ρ x a) : ∃ u, VR ρ v u ∧ (Instr.field t a f).run C.P w = .ok u w := by
  unfold fieldD at hq
  split at hq
  · obtain ⟨cs', rfl, hcs⟩ := VR.agg_inv ha
    obtain ⟨u, h1, h2⟩ := partD_sim ok hq hcs
    refine ⟨u, h1, ?_⟩
    simp only [Instr.field, Sem.run_bind, run_underlying (ok.und hu), Result.andThen, hf, asAgg, Sem.run_pure, h2]
  · cases hq

theorem run_indexAt (ok : C.Ok) {t e : TypeId} {i : TypeInfo} {x y v : DV} {a b : Value} (hu : Dm.und C.S t = some (.slice e)) (hi : C.S.ty e = some i)
    (hq : idxA i.size x y = some v) (ha : VR ρ x a) (hb : VR ρ y b) : ∃ u, VR ρ v u ∧ (Instr.indexAt t a b).run C.P w = .ok u w := by
  unfold idxA at hq
  split at hq
  · rename_i id off len cap g k n
    rw [bltD] at hq
    by_cases hn : n < len
    · simp only [hn, decide_true, cond_true, Option.some.injEq] at hq
      subst hq
      cases ha with
      | slice _ _ _ _ _ bi cap' hρ _ _ _ =>
        cases hb
        refine ⟨_, .ptr _ _ bi hρ, ?_⟩
        have h0 : (0 : Int) ≤ Int.ofNat n ∧ Int.ofNat n < (len : Int) := by constructor <;> simp only [Int.ofNat_eq_natCast] <;> omega
        simp only [Instr.indexAt, asIntOf, Sem.run_bind, Sem.run_pure, Result.andThen, run_underlying (ok.und hu)]
        rw [if_pos h0]
        simp only [Sem.run_bind, Result.andThen, run_sizeOf' (w := w) ok hi, add_none, Sem.run_pure]
        rfl
    · simp [hn] at hq
  · cases hq

theorem run_indexS (ok : C.Ok) {t : TypeId} {x y v : DV} {a b : Value} (hu : Dm.und C.S t = some .string)
    (hq : idxS x y = some v) (ha : VR ρ x a) (hb : VR ρ y b) : ∃ u, VR ρ v u ∧ (Instr.index t a b).run C.P w = .ok u w := by
  unfold idxS at hq
  split at hq
  · rename_i s k n
    rw [bltD] at hq
    by_cases hn : n < s.len
    · simp only [hn, decide_true, cond_true, Option.some.injEq] at hq
      subst hq
      cases ha with
      | str _ hok =>
        cases hb
        refine ⟨_, .int _ _, ?_⟩
        have hget : s.ba[n]? = some (UInt8.ofNat (s.num / 256 ^ n % 256)) := by
          have h1 : s.ba.data[n]? = some (UInt8.ofNat (s.num / 256 ^ n % 256)) := by
            simp only [BS.ba, List.getElem?_toArray, BS.bytes]
            exact bytesF_get _ _ _ hn
          rw [← h1]
          rfl
        have h0 : (0 : Int) ≤ Int.ofNat n := by simp
        simp only [Instr.index, asIntOf, Sem.run_bind, Sem.run_pure, Result.andThen, run_underlying (ok.und hu)]
        rw [if_pos h0]
        simp only [Int.ofNat_eq_natCast, Int.toNat_natCast, hget, Sem.run_pure]
        simp [BS.at]
    · simp [hn] at hq
  · cases hq

theorem run_indexArr (ok : C.Ok) {t e : TypeId} {len : Nat} {i : TypeInfo} {x y v : DV} {a b : Value} (hu : Dm.und C.S t = some (.array len e)) (hi : C.S.ty e = some i)
    (hq : idxArr C.S len e i.size x y = some v) (ha : VR ρ x a) (hb : VR ρ y b) : ∃ u, VR ρ v u ∧ (Instr.index t a b).run C.P w = .ok u w := by
  unfold idxArr at hq
  split at hq
  · rename_i cs k n
    rw [bltD] at hq
    by_cases hn : n < len
    · simp only [hn, decide_true, cond_true] at hq
      obtain ⟨cs', rfl, hcs⟩ := VR.agg_inv ha
      cases hb
      obtain ⟨u, h1, h2⟩ := partD_sim ok hq hcs
      refine ⟨u, h1, ?_⟩
      have h0 : (0 : Int) ≤ Int.ofNat n ∧ Int.ofNat n < (len : Int) := by constructor <;> simp only [Int.ofNat_eq_natCast] <;> omega
      simp only [Instr.index, asIntOf, Sem.run_bind, Sem.run_pure, Result.andThen, run_underlying (ok.und hu)]
      rw [if_pos h0]
      simp only [Sem.run_bind, Result.andThen, run_sizeOf' (w := w) ok hi]
      exact h2 w
    · simp [hn] at hq
  · cases hq

theorem run_extract (P : Program) {i : Nat} {x v : DV} {a : Value} (hq : extractD i x = some v) (ha : VR ρ x a) : ∃ u, VR ρ v u ∧ (Instr.extract a i).run P w = .ok u w := by
  unfold extractD at hq
  split at hq
  · cases ha with
    | tuple _ vs' h =>
      obtain ⟨u, h1, h2⟩ := h.get hq
      exact ⟨u, h2, by simp [Instr.extract, h1]⟩
  · cases hq

/-! builtins -/
theorem max2_int (P : Program) (k k' : IntKind) (a b : Int) : (Builtin.max2 (.int k a) (.int k' b)).run P w = .ok (.int k (if b > a then b else a)) w := rfl
theorem min2_int (P : Program) (k k' : IntKind) (a b : Int) : (Builtin.min2 (.int k a) (.int k' b)).run P w = .ok (.int k (if b < a then b else a)) w := rfl

theorem foldM2_sim (P : Program) (f : Int → Int → Int) (g : Value → Value → Sem Value) (hg : ∀ k a b w, (g (.int k a) (.int k b)).run P w = .ok (.int k (f a b)) w) (k : IntKind) :
    ∀ (l : List DV) (l' : List Value) (a : Int) (v : DV), foldM2 f k a l = some v → VRs ρ l l' → ∃ u, VR ρ v u ∧ (l'.foldlM g (.int k a)).run P w = .ok u w := by
  intro l
  induction l with
  | nil => intro l' a v hq hl; cases hl; simp [foldM2] at hq; subst hq; exact ⟨_, .int _ _, by simp⟩
  | cons x l ih =>
    intro l' a v hq hl
    cases hl with
    | cons _ y _ ys hy hs =>
      cases x <;> simp only [foldM2] at hq <;> first | (cases hq; done) | skip
      rename_i k' b
      cases hk : kEq k k' with
      | false => rw [hk] at hq; cases hq
      | true =>
        rw [hk] at hq
        have := kEq_iff.1 hk
        subst this
        simp only [cond_true] at hq
        cases hy
        obtain ⟨u, h1, h2⟩ := ih ys (f a b) v hq hs
        exact ⟨u, h1, by rw [List.foldlM_cons, Sem.run_bind, hg]; exact h2⟩

theorem run_max (P : Program) {l : List DV} {l' : List Value} {v : DV} (ts : Array TypeId) (t : TypeId) (hq : maxMinD true l = some v) (hl : VRs ρ l l') :
    ∃ u, VR ρ v u ∧ (Builtin.max_ ts t l'.toArray).run P w = .ok u w := by
  unfold maxMinD at hq
  split at hq
  · cases hl with
    | cons _ y _ ys hy hs =>
      cases hy
      exact foldM2_sim P _ Builtin.max2 (fun k a b w => by rw [max2_int]; congr 2; simp only [cond_true, ltI_iff]; by_cases hh : a < b <;> simp [hh]) _ _ _ _ _ hq hs
  · cases hq
theorem run_min (P : Program) {l : List DV} {l' : List Value} {v : DV} (ts : Array TypeId) (t : TypeId) (hq : maxMinD false l = some v) (hl : VRs ρ l l') :
    ∃ u, VR ρ v u ∧ (Builtin.min_ ts t l'.toArray).run P w = .ok u w := by
  unfold maxMinD at hq
  split at hq
  · cases hl with
    | cons _ y _ ys hy hs =>
      cases hy
      exact foldM2_sim P _ Builtin.min2 (fun k a b w => by rw [min2_int]; congr 2; simp only [cond_false, ltI_iff]; by_cases hh : b < a <;> simp [hh]) _ _ _ _ _ hq hs
  · cases hq

theorem run_sliceData (P : Program) {l : List DV} {l' : List Value} {v : DV} (ts : Array TypeId) (t : TypeId) (hq : sliceDataD l = some v) (hl : VRs ρ l l') :
    ∃ u, VR ρ v u ∧ (Builtin.unsafeSliceData_ ts t l'.toArray).run P w = .ok u w := by
  unfold sliceDataD at hq
  split at hq
  · rename_i id off len cap g
    rw [beqD] at hq
    by_cases hc : cap = 0
    · simp [hc] at hq
    · simp only [hc, decide_false, cond_false, Option.some.injEq] at hq
      subst hq
      cases hl with
      | cons _ y _ ys hy hs =>
        cases hs
        cases hy with
        | slice _ _ _ _ _ bi cap' hρ _ _ hcc =>
          refine ⟨_, .ptr _ _ bi hρ, ?_⟩
          have : cap' ≠ 0 := by omega
          show (Builtin.unsafeSliceData_ ts t #[.slice (some ⟨bi.b, off, none⟩) len cap']).run P w = _
          rw [show Builtin.unsafeSliceData_ ts t #[.slice (some ⟨bi.b, off, none⟩) len cap'] = (if cap' ≠ 0 then pure (.pointer (some ⟨bi.b, off, none⟩)) else _) from rfl, if_pos this]
          rfl
  · cases hq
    cases hl with
    | cons _ y _ ys hy hs => cases hs; cases hy; exact ⟨_, .nilptr, rfl⟩
  · cases hq

theorem ERs.length : ∀ {a : List DEntry} {b : List MapEntry}, ERs ρ a b → a.length = b.length
  | _, _, .nil => rfl
  | _, _, .cons _ _ _ _ _ _ _ hs => congrArg (· + 1) hs.length

theorem HL.map (H : HL ρ h w) {id : Nat} {es : List DEntry} {ck : Nat} {i : BI} (hg : h.get id = some (.map es ck)) (hi : ρ id = some i) :
    ∃ es' : Array MapEntry, w.heap[i.b]? = some (.map es' ck) ∧ ERs ρ es es'.toList := by
  obtain ⟨i', ro, h1, h2, h3⟩ := H.live id _ hg
  rw [hi] at h1; cases h1
  obtain ⟨es', rfl, h4⟩ := h3
  exact ⟨es', h2, h4⟩
theorem run_getObj (P : Program) {b : Nat} {es : Array MapEntry} {ck : Nat} (hb : w.heap[b]? = some (.map es ck)) : (getObj b).run P w = .ok (.map es ck) w := by
  simp [getObj, Sem.run, hb]

theorem lenD_sim (ok : C.Ok) (H : HL ρ h w) {t : TypeId} {ts : Array TypeId} {x v : DV} {args : Array Value} {a : Value} (t0 : TypeId) (ht : ts[0]? = some t) (h0 : args[0]? = some a)
    (hq : lenD C.S h t x = some v) (ha : VR ρ x a) : ∃ u, VR ρ v u ∧ (Builtin.len_ ts t0 args).run C.P w = .ok u w := by
  unfold lenD at hq
  split at hq
  · rename_i s hu
    cases hq; cases ha
    exact ⟨_, .int _ _, by simp only [Builtin.len_, ht, h0, Sem.run_bind, run_underlying (ok.und hu), Result.andThen, s.ba_size, goInt, Sem.run_pure]; rfl⟩
  · rename_i hu
    cases hq; cases ha
    exact ⟨_, .int _ _, by simp only [Builtin.len_, ht, h0, Sem.run_bind, run_underlying (ok.und hu), Result.andThen, goInt, Sem.run_pure]; rfl⟩
  · rename_i hu
    cases hq; cases ha
    exact ⟨_, .int _ _, by simp only [Builtin.len_, ht, h0, Sem.run_bind, run_underlying (ok.und hu), Result.andThen, goInt, Sem.run_pure]; rfl⟩
  · rename_i hu
    cases hq; cases ha
    exact ⟨_, .int _ _, by simp only [Builtin.len_, ht, h0, Sem.run_bind, run_underlying (ok.und hu), Result.andThen, goInt, Sem.run_pure]; rfl⟩
  · rename_i r hu
    split at hq
    · rename_i es ck hg
      cases hq
      cases ha with
      | map _ i hi =>
        obtain ⟨es', h1, h2⟩ := H.map hg hi
        refine ⟨_, .int _ _, ?_⟩
        have hl : es'.size = es.length := by rw [h2.length]; simp
        simp only [Builtin.len_, ht, h0, Sem.run_bind, run_underlying (ok.und hu), Result.andThen, run_getObj C.P h1, goInt, Sem.run_pure, hl]
        rfl
    · cases hq
  · cases hq

end Go.Dm
end

section
namespace Go.Dm
variable {C : Ctx} {ρ : Ren} {h : Heap} {w : World}

theorem ofVal_sim (ok : C.Ok) {t : TypeId} {z : DV} (hz : zeroD C.S t = some z) : ∃ v, VR ρ z v ∧ ∀ w, (zeroValue t).run C.P w = .ok v w := by
  unfold zeroD at hz
  split at hz
  · rename_i i hi
    split at hz
    · rename_i v hv
      refine ⟨v, VR.ofVal hz, fun w => ?_⟩
      simp [zeroValue, typeInfo, ok.ty t i hi, hv]
    · cases hz
  · cases hz

/-! keys -/
theorem keyFields_sim (ok : C.Ok) (n : Nat) (em : Bool) {xs : List DV} {xs' : List Value} (hx : VRs ρ xs xs') : ∀ (fs : List Field), (∀ f ∈ fs, f.name ≠ "_") → keyFields C.S xs fs = true →
    (forIn fs PUnit.unit fun f (_ : PUnit) => do
      if f.name ≠ "_" then
        Instr.checkKey em (n + 1) f.type (← part f.type xs'.toArray f.offset)
        pure (ForInStep.yield PUnit.unit)
      else pure (ForInStep.yield PUnit.unit) : Sem PUnit).run C.P w = .ok PUnit.unit w := by
  intro fs
  induction fs with
  | nil => intro _ _; simp
  | cons f fs ih =>
    intro hn h
    unfold keyFields at h
    rw [Bool.and_eq_true] at h
    obtain ⟨h1, h2⟩ := h
    have hnf : f.name ≠ "_" := hn f (by simp)
    have ih' := ih (fun g hg => hn g (by simp [hg])) h2
    split at h1
    · rename_i s h3 hu
      obtain ⟨a, ha, hra⟩ := partD_sim ok h3 hx
      cases ha
      simp only [List.forIn_cons]
      simp [hnf, hra, Instr.checkKey, run_underlying (ok.und hu)] at ih' ⊢
      exact ih'
    · rename_i s h3 hu
      obtain ⟨a, ha, hra⟩ := partD_sim ok h3 hx
      cases ha
      simp only [List.forIn_cons]
      simp [hnf, hra, Instr.checkKey, run_underlying (ok.und hu)] at ih' ⊢
      exact ih'
    · cases h1

theorem keyOk_sim (ok : C.Ok) (em : Bool) {kt : TypeId} {u : TypeDesc} {k : DV} {k' : Value} (hu : Dm.und C.S kt = some u) (hk : keyOk C.S kt u k = true) (hv : VR ρ k k') :
    (Instr.checkKey em 10000 kt k').run C.P w = .ok () w := by
  have hU := run_underlying (w := w) (ok.und hu)
  unfold keyOk at hk
  split at hk
  · cases hv
    unfold Instr.checkKey
    rw [Sem.run_bind, hU]; rfl
  · cases hv
    unfold Instr.checkKey
    rw [Sem.run_bind, hU]; rfl
  · rename_i fs xs
    rw [Bool.and_eq_true] at hk
    obtain ⟨xs', rfl, hx⟩ := VR.agg_inv hv
    have key := keyFields_sim (w := w) ok 9998 em hx fs.toList ((ok.plain kt hk.1).2.2 fs hu) hk.2
    unfold Instr.checkKey
    rw [Sem.run_bind, hU]
    simp only [Result.andThen]
    rw [← Array.forIn_toList]
    rw [Sem.run_bind]
    rw [show Sem.run C.P (forIn fs.toList PUnit.unit _) w = _ from key]
    rfl
  · cases hk

/-! looking for a key -/
def FoundR (ρ : Ren) : Option (Nat × DV) → Option (Nat × Value) → Prop
  | none, r => r = none
  | some (i, v), r => ∃ u, r = some (i, u) ∧ VR ρ v u

theorem sameNow_sim {u : TypeDesc} {x y : DV} {b : Bool} {x' y' : Value} (hq : sameNowD u x y = some b) (hx : VR ρ x x') (hy : VR ρ y y') : Instr.sameNow u x' y' = some b := by
  unfold sameNowD at hq
  split at hq
  · rename_i k0 k a k' b'
    cases hx; cases hy
    cases hk : kEq k k' with
    | false => rw [hk] at hq; cases hq
    | true =>
      rw [hk] at hq
      have := kEq_iff.1 hk
      subst this
      simp only [cond_true, eqI_iff, Option.some.injEq] at hq
      subst hq
      simp [Instr.sameNow]
      rfl
  · rename_i s s'
    cases hx with
    | str _ h1 => cases hy with
      | str _ h2 =>
        cases hq
        have e : (s.ba == s'.ba) = s.eqb s' := by rw [Bool.eq_iff_iff, BS.eqb_iff s s' h1 h2]; exact ba_beq _ _
        simp [Instr.sameNow, e]
  · cases hq

theorem findNow_sim {S : St} {kt : TypeId} {u : TypeDesc} (hu : ∀ fs, u ≠ .struct fs) {k : DV} {k' : Value} (hk : VR ρ k k') : ∀ (es : List DEntry) (es' : List MapEntry) (i : Nat) (r : Option (Nat × DV)),
    findD S kt u k es i = some r → ERs ρ es es' → ∃ r', Instr.findNow u k' es' i = some r' ∧ FoundR ρ r r' := by
  intro es
  induction es with
  | nil => intro es' i r hq he; cases he; simp [findD] at hq; subst hq; exact ⟨none, rfl, rfl⟩
  | cons d es ih =>
    intro es' i r hq he
    cases he with
    | cons _ e _ es1 h1 h2 h3 hs =>
      unfold findD at hq
      have hke : keyEq S kt u k d.key = sameNowD u k d.key := by
        cases u <;> first | rfl | exact absurd rfl (hu _)
      rw [hke] at hq
      unfold Instr.findNow
      split at hq
      · rename_i hb
        cases hq
        rw [sameNow_sim hb hk h1]
        exact ⟨_, rfl, _, rfl, h2⟩
      · rename_i hb
        rw [sameNow_sim hb hk h1]
        exact ih es1 (i + 1) r hq hs
      · cases hq

theorem findAsking_sim (ok : C.Ok) {kt : TypeId} {fs : Array Field} {k : DV} {k' : Value} (hk : VR ρ k k') : ∀ (es : List DEntry) (es' : List MapEntry) (i : Nat) (r : Option (Nat × DV)),
    findD C.S kt (.struct fs) k es i = some r → ERs ρ es es' → ∃ r', (Instr.findAsking kt k' es' i).run C.P w = .ok r' w ∧ FoundR ρ r r' := by
  intro es
  induction es with
  | nil => intro es' i r hq he; cases he; simp [findD] at hq; subst hq; exact ⟨none, rfl, rfl⟩
  | cons d es ih =>
    intro es' i r hq he
    cases he with
    | cons _ e _ es1 h1 h2 h3 hs =>
      unfold findD at hq
      unfold Instr.findAsking
      have key : ∀ b, keyEq C.S kt (.struct fs) k d.key = some b → (Op.equal kt k' e.key).run C.P w = .ok b w := fun b hb => by
        have h1' := h1
        generalize d.key = kk at hb h1'
        unfold keyEq at hb
        simp only at hb
        split at hb
        · exact eqD_sim ok (HL.empty ρ 0 w) 64 _ (by decide) kt _ _ b k' e.key hb hk h1'
        · cases hb
      split at hq
      · rename_i hb
        cases hq
        rw [Sem.run_bind, key _ hb]
        exact ⟨_, rfl, _, rfl, h2⟩
      · rename_i hb
        obtain ⟨r', h5, h6⟩ := ih es1 (i + 1) r hq hs
        refine ⟨r', ?_, h6⟩
        rw [Sem.run_bind, key _ hb]
        exact h5
      · cases hq

theorem findKey_sim (ok : C.Ok) {kt : TypeId} {u : TypeDesc} (hu : Dm.und C.S kt = some u) {k : DV} {k' : Value} (hk : VR ρ k k') {es : List DEntry} {es' : List MapEntry} {r : Option (Nat × DV)}
    (hq : findD C.S kt u k es 0 = some r) (he : ERs ρ es es') : ∃ r', (Instr.findKey kt k' es').run C.P w = .ok r' w ∧ FoundR ρ r r' := by
  have hU := run_underlying (w := w) (ok.und hu)
  by_cases hs : ∃ fs, u = .struct fs
  · obtain ⟨fs, rfl⟩ := hs
    cases he with
    | nil =>
      simp [findD] at hq; subst hq
      refine ⟨none, ?_, rfl⟩
      unfold Instr.findKey
      rw [Sem.run_bind, hU]; rfl
    | cons d e ds es1 h1 h2 h3 hs =>
      obtain ⟨r', h5, h6⟩ := findAsking_sim (w := w) ok hk _ _ 0 r hq (.cons d e ds es1 h1 h2 h3 hs)
      refine ⟨r', ?_, h6⟩
      unfold Instr.findKey
      rw [Sem.run_bind, hU]
      simp only [Result.andThen]
      have hn : Instr.findNow (.struct fs) k' (e :: es1) 0 = none := by unfold Instr.findNow; rfl
      rw [hn]
      exact h5
  · obtain ⟨r', h5, h6⟩ := findNow_sim (fun fs e => hs ⟨fs, e⟩) hk es es' 0 r hq he
    refine ⟨r', ?_, h6⟩
    unfold Instr.findKey
    rw [Sem.run_bind, hU]
    simp only [Result.andThen]
    rw [h5]
    rfl

theorem lookupD_sim (ok : C.Ok) (H : HL ρ h w) {t : TypeId} {x k v : DV} {cok : Bool} {x' k' : Value} (hq : lookupD C.S h t x k cok = some v) (hx : VR ρ x x') (hk : VR ρ k k') :
    ∃ u, VR ρ v u ∧ (Instr.lookup t x' k' cok).run C.P w = .ok u w := by
  unfold lookupD at hq
  split at hq
  · rename_i kt e hu
    split at hq
    · rename_i u z hku hz
      have hU := run_underlying (w := w) (ok.und hu)
      cases hko : keyOk C.S kt u k with
      | false => rw [hko] at hq; cases hq
      | true =>
        rw [hko] at hq
        simp only [cond_true] at hq
        obtain ⟨z', hz1, hz2⟩ := ofVal_sim (ρ := ρ) ok hz
        have main : ∀ (es : List DEntry) (es' : Array MapEntry) (r : Option (Nat × DV)), findD C.S kt u k es 0 = some r → ERs ρ es es'.toList →
            (match (some r : Option (Option (Nat × DV))) with
              | some (some (_, v)) => some (bif cok then DV.tuple [v, .bool true] else v)
              | some none => some (bif cok then DV.tuple [z, .bool false] else z)
              | none => none) = some v →
            ∃ u, VR ρ v u ∧ ((do
              Instr.checkKey es'.isEmpty 10000 kt k'
              let (v, ok) ← match ← Instr.findKey kt k' es'.toList with
                | some (_, v) => pure (v, true)
                | none => pure (← zeroValue e, false)
              pure (if cok then .tuple #[v, .bool ok] else v)) : Sem Value).run C.P w = .ok u w := by
          intro es es' r hr he hv
          obtain ⟨r', h5, h6⟩ := findKey_sim (w := w) ok hku hk hr he
          rw [Sem.run_bind, keyOk_sim ok _ hku hko hk]
          simp only [Result.andThen]
          rw [Sem.run_bind, h5]
          simp only [Result.andThen]
          cases r with
          | none =>
            cases h6
            simp only [Sem.run_bind, hz2, Result.andThen, Sem.run_pure]
            cases cok
            · cases hv; exact ⟨_, hz1, rfl⟩
            · cases hv; exact ⟨_, .tuple _ [z', .bool false] (.cons _ _ _ _ hz1 (.cons _ _ _ _ (.bool _) .nil)), rfl⟩
          | some p =>
            obtain ⟨j, v0⟩ := p
            obtain ⟨u0, rfl, h7⟩ := h6
            cases cok
            · cases hv; exact ⟨_, h7, rfl⟩
            · cases hv; exact ⟨_, .tuple _ [u0, .bool true] (.cons _ _ _ _ h7 (.cons _ _ _ _ (.bool _) .nil)), rfl⟩
        unfold Instr.lookup
        rw [Sem.run_bind, hU]
        simp only [Result.andThen]
        cases x <;> simp only at hq <;> first | (cases hq; done) | skip
        · cases hx
          obtain ⟨u1, g1, g2⟩ := main [] #[] none rfl .nil hq
          exact ⟨u1, g1, by rw [Sem.run_bind]; exact g2⟩
        · rename_i r
          cases hx with
          | map _ i hi =>
            cases hg : h.get r with
            | none => rw [hg] at hq; cases hq
            | some o =>
              cases o with
              | cells => rw [hg] at hq; cases hq
              | map es ck =>
                rw [hg] at hq
                simp only at hq
                cases hf : findD C.S kt u k es 0 with
                | none => rw [hf] at hq; cases hq
                | some rr =>
                  rw [hf] at hq
                  obtain ⟨es', w1, w2⟩ := H.map hg hi
                  obtain ⟨u1, g1, g2⟩ := main es es' rr hf w2 hq
                  refine ⟨u1, g1, ?_⟩
                  rw [Sem.run_bind, run_getObj C.P w1]
                  exact g2
    · cases hq
  · cases hq

end Go.Dm
end

section
namespace Go.Dm
variable {C : Ctx} {ρ : Ren} {h : Heap} {w : World}

theorem fold_set (off : Nat) : ∀ (l : List Value) (j : Nat) (cs : Array Value), off + j + l.length ≤ cs.size →
    ((l.zipIdx j).foldl (fun (cs : Array Value) (p : Value × Nat) => cs.setIfInBounds (off + p.2) p.1) cs).toList = cs.toList.take (off + j) ++ l ++ cs.toList.drop (off + j + l.length) := by
  intro l
  induction l with
  | nil => intro j cs h; simp
  | cons x l ih =>
    intro j cs h
    simp only [List.length_cons] at h
    simp only [List.zipIdx_cons, List.foldl_cons]
    rw [ih (j + 1) _ (by simp; omega)]
    have hlt : off + j < cs.toList.length := by simp; omega
    have e : (cs.setIfInBounds (off + j) x).toList = cs.toList.set (off + j) x := by simp
    rw [e, List.take_set, List.drop_set_of_lt (by omega)]
    have e2 : (cs.toList.take (off + (j + 1))).set (off + j) x = cs.toList.take (off + j) ++ [x] := by
      rw [show off + (j + 1) = (off + j) + 1 from by omega]
      rw [List.take_succ_eq_append_getElem hlt]
      rw [List.set_append_right _ _ (by simp; omega)]
      have : off + j - (List.take (off + j) cs.toList).length = 0 := by simp; omega
      rw [this]
      rfl
    rw [e2]
    simp only [List.length_cons, List.append_assoc, List.singleton_append]
    rw [show off + (j + 1) + l.length = off + j + (l.length + 1) from by omega]

inductive PRs (ρ : Ren) : List (Nat × DV) → List (Nat × Value) → Prop where
  | nil : PRs ρ [] []
  | cons (i : Nat) (d : DV) (v : Value) (ds : List (Nat × DV)) (vs : List (Nat × Value)) (h : VR ρ d v) (hs : PRs ρ ds vs) : PRs ρ ((i, d) :: ds) ((i, v) :: vs)

theorem fillD_sim {place place' : Nat → Option (Nat × Nat)} (hp : ∀ i p, place i = some p → place' i = some p) : ∀ (parts : List (Nat × DV)) (parts' : List (Nat × Value)) (cs : List DV) (cs' : Array Value) (r : List DV),
    fillD place cs parts = some r → PRs ρ parts parts' → VRs ρ cs cs'.toList → ∃ r', Instr.fill place' cs' parts' = some r' ∧ VRs ρ r r'.toList := by
  intro parts
  induction parts with
  | nil => intro parts' cs cs' r hq hp hc; cases hp; simp [fillD] at hq; subst hq; exact ⟨cs', rfl, hc⟩
  | cons p parts ih =>
    intro parts' cs cs' r hq hps hc
    cases hps with
    | cons i d v _ vs hv hs =>
      unfold fillD at hq
      split at hq
      · cases hq
      · rename_i off size hpl
        rw [beqD, bleD] at hq
        by_cases hb : d.cellsL.length = size ∧ off + d.cellsL.length ≤ cs.length
        · simp only [hb.1, decide_true, Bool.true_and] at hq
          have hb2 : off + size ≤ cs.length := by rw [← hb.1]; exact hb.2
          simp only [hb2, decide_true, cond_true] at hq
          have hvs : v.cells.size = size := by rw [hv.cells_size, hb.1]
          have hcl : cs.length = cs'.size := by have := hc.length; simpa using this
          have hsp : VRs ρ (spliceL cs off d.cellsL) (v.cells.zipIdx.foldl (fun cs (c, j) => cs.setIfInBounds (off + j) c) cs').toList := by
            have hf := fold_set off v.cells.toList 0 cs' (by simp [hvs]; omega)
            have e : (v.cells.zipIdx.foldl (fun cs (c, j) => cs.setIfInBounds (off + j) c) cs') = (v.cells.toList.zipIdx 0).foldl (fun (cs : Array Value) (p : Value × Nat) => cs.setIfInBounds (off + p.2) p.1) cs' := by
              rw [← Array.foldl_toList, Array.toList_zipIdx]
            rw [e, hf]
            unfold spliceL
            have hl : d.cellsL.length = v.cells.toList.length := hv.cells.length
            rw [hl]
            exact ((hc.take off).append hv.cells).append (hc.drop _)
          obtain ⟨r', h1, h2⟩ := ih vs _ _ r hq hs hsp
          refine ⟨r', ?_, h2⟩
          unfold Instr.fill
          rw [hp _ _ hpl]
          simp only
          rw [if_neg (by simp [hvs]; omega)]
          exact h1
        · have : (decide (d.cellsL.length = size) && decide (off + d.cellsL.length ≤ cs.length)) = false := by
            rw [Bool.eq_false_iff]; simpa using hb
          rw [this] at hq; cases hq

theorem evCp_sim {n : Nat} {e : E} {a : Act} (H : ER ρ n e a) : ∀ {l : List (Nat × Operand)} {fs : List (Nat × FV)}, evCp l = some fs → PRs ρ (FV.parts e fs) (l.map fun (i, x) => (i, a.eval x))
  | [], fs, h => by simp [evCp] at h; subst h; exact .nil
  | (i, o) :: l, fs, h => by
    unfold evCp at h
    cases e1 : evC o with
    | none => rw [e1] at h; simp at h
    | some v =>
      rw [e1] at h
      cases e2 : evCp l with
      | none => rw [e2] at h; simp at h
      | some vs => rw [e2] at h; simp at h; subst h; exact .cons _ _ _ _ _ (H.ev e1) (evCp_sim H e2)

theorem sizesD_sim (ok : C.Ok) : ∀ (fs : List Field) (l : List (Nat × Nat)), sizesD C.S fs = some l → (fs.mapM (m := Sem) fun f => do pure (f.offset, ← sizeOf f.type)).run C.P w = .ok l w := by
  intro fs
  induction fs with
  | nil => intro l h; simp [sizesD] at h; subst h; simp
  | cons f fs ih =>
    intro l h
    unfold sizesD at h
    split at h
    · rename_i i l' h1 h2
      cases h
      have := ih l' h2
      simp only [List.mapM_cons, Sem.run_bind, run_sizeOf' ok h1, Result.andThen, Sem.run_pure, this]
    · cases h

theorem buildD_sim (ok : C.Ok) {t : TypeId} {parts : List (Nat × DV)} {parts' : Array (Nat × Value)} {v : DV} (hq : buildD C.S t parts = some v) (hp : PRs ρ parts parts'.toList) :
    ∃ u, VR ρ v u ∧ (Instr.build t parts').run C.P w = .ok u w := by
  unfold buildD at hq
  split at hq
  · rename_i z fs hz hu
    obtain ⟨z', hz1, hz2⟩ := ofVal_sim (ρ := ρ) ok hz
    split at hq
    · rename_i pl hpl
      cases hf : fillD (fun i => pl[i]?) z.cellsL parts with
      | none => rw [hf] at hq; cases hq
      | some r =>
        rw [hf] at hq
        cases hq
        obtain ⟨r', h1, h2⟩ := fillD_sim (place' := fun i => pl.toArray[i]?) (fun i p hh => by simpa using hh) parts parts'.toList _ z'.cells r hf hp hz1.cells
        have hm := sizesD_sim (w := w) ok _ _ hpl
        refine ⟨.agg r', by have := VR.agg _ _ h2; simpa using this, ?_⟩
        unfold Instr.build
        rw [Sem.run_bind, hz2]
        simp only [Result.andThen]
        rw [Sem.run_bind, run_underlying (ok.und hu)]
        simp only [Result.andThen]
        rw [Array.mapM_eq_mapM_toList]
        rw [map_eq_pure_bind, Sem.run_bind, Sem.run_bind, hm]
        simp only [Result.andThen, Sem.run_pure, h1]
    · cases hq
  · rename_i z ln et hz hu
    obtain ⟨z', hz1, hz2⟩ := ofVal_sim (ρ := ρ) ok hz
    split at hq
    · rename_i i hi
      cases hf : fillD (fun k => some (k * i.size, i.size)) z.cellsL parts with
      | none => rw [hf] at hq; cases hq
      | some r =>
        rw [hf] at hq
        cases hq
        obtain ⟨r', h1, h2⟩ := fillD_sim (place' := fun k => some (k * i.size, i.size)) (fun i p hh => hh) parts parts'.toList _ z'.cells r hf hp hz1.cells
        refine ⟨.agg r', by have := VR.agg _ _ h2; simpa using this, ?_⟩
        unfold Instr.build
        rw [Sem.run_bind, hz2]
        simp only [Result.andThen]
        rw [Sem.run_bind, run_underlying (ok.und hu)]
        simp only [Result.andThen]
        rw [Sem.run_bind, run_sizeOf' ok hi]
        simp only [Result.andThen, h1, Sem.run_pure]
    · cases hq
  · cases hq

/-! conversions -/
theorem run_shape (P : Program) {b : Nat} {c : Array Value} {e : TypeId} {fr : Nat × Nat} (hb : w.heap[b]? = some (.cells c e fr)) : (shape b).run P w = .ok (some (e, c.size)) w := by
  simp [shape, Sem.run, World.shape?, hb]
theorem run_viewAt (P : Program) {b : Nat} {c : Array Value} {e : TypeId} {fr : Nat × Nat} (hb : w.heap[b]? = some (.cells c e fr)) : (viewAt b).run P w = .ok none w := by
  unfold viewAt
  rw [Sem.run_bind, run_shape P hb]
  rfl
theorem run_seenAt (P : Program) {b off : Nat} {c : Array Value} {e : TypeId} {fr : Nat × Nat} (hb : w.heap[b]? = some (.cells c e fr)) : (Conv.seenAt ⟨b, off, none⟩).run P w = .ok ⟨b, off, none⟩ w := by
  unfold Conv.seenAt
  rw [Sem.run_bind, run_viewAt P hb]
  rfl

theorem lies_self (P : Program) (u : TypeId) (n : Nat) (hn : P.cellsOf u = n) (h0 : n ≠ 0) : liesAt P P.depth u (n / P.cellsOf u) 0 u 1 = true := by
  have hd : P.depth = (2 * (P.types.size + Made.depth) + 1) + 1 := rfl
  rw [hn, Nat.div_self (by omega)]
  rw [hd]
  unfold liesAt
  rw [Bool.or_eq_true]
  left
  rw [hd]
  unfold rowAt
  simp only [hn]
  rw [if_neg h0]
  rw [Bool.or_eq_true]
  left
  have : sameLayout P (2 * (P.types.size + Made.depth) + 1 + 1) u u = true := by
    unfold sameLayout
    simp
  simp [this]

theorem convD_sim (ok : C.Ok) (H : HL ρ h w) {s d : TypeId} {x v : DV} {a : Value} (hq : convD C.S h s d x = some v) (ha : VR ρ x a) : ∃ u, VR ρ v u ∧ (convert s d a).run C.P w = .ok u w := by
  unfold convD at hq
  split at hq
  · rename_i k1 k k0 n hs hd
    cases hq; cases ha
    refine ⟨_, .int _ _, ?_⟩
    rw [wrapF_eq]
    simp [convert, run_underlying (ok.und hs), run_underlying (ok.und hd), Conv.intToInt]
  · rename_i b hs hd
    cases hq
    cases ha with
    | str _ h1 => exact ⟨_, .str _ h1, by simp [convert, run_underlying (ok.und hs), run_underlying (ok.und hd)]⟩
  · rename_i t id off hs hd
    split at hq
    · rename_i i c n e gr fz hi hg
      rw [bleD, bltD] at hq
      by_cases hb : 1 ≤ i.size ∧ off < n
      · simp only [hb.1, hb.2, decide_true, Bool.and_true, cond_true, Option.some.injEq] at hq
        subst hq
        cases ha with
        | ptr _ _ bi hr =>
          obtain ⟨c', fr, w1, w2, w3, -⟩ := H.cell hg hr
          refine ⟨_, .ptr _ _ bi hr, ?_⟩
          have hz : ¬ i.size = 0 := by omega
          have ho : ¬ c'.size ≤ off := by omega
          unfold convert
          rw [Sem.run_bind, run_underlying (ok.und hs)]
          simp only [Result.andThen]
          rw [Sem.run_bind, run_underlying (ok.und hd)]
          simp only [Result.andThen]
          unfold Conv.unsafePointer
          rw [Sem.run_bind, run_underlying (ok.und hs)]
          simp only [Result.andThen]
          rw [Sem.run_bind, run_underlying (ok.und hd)]
          simp only [Result.andThen]
          rw [Sem.run_bind, run_seenAt C.P w1]
          simp only [Result.andThen]
          rw [Sem.run_bind]
          have hc : (cellsIn bi.b).run C.P w = .ok (some c'.size) w := by
            unfold cellsIn
            rw [Sem.run_bind, run_shape C.P w1]
            rfl
          rw [hc]
          simp only [Result.andThen]
          rw [Sem.run_bind, run_sizeOf' ok hi]
          simp [hz, ho]
      · have : (decide (1 ≤ i.size) && decide (off < n)) = false := by
          rw [Bool.eq_false_iff]; simpa using hb
        rw [this] at hq; cases hq
    · cases hq
  · rename_i u id off hs hd
    split at hq
    · rename_i i c n e fz hi hg
      rw [bleD, beqD, beqD, beqD] at hq
      by_cases hb : 1 ≤ i.size ∧ off = 0 ∧ e = u ∧ n = i.size
      · obtain ⟨hb1, hb2, hb3, hb4⟩ := hb
        subst hb2 hb3 hb4
        simp only [hb1, decide_true, Bool.and_true, cond_true, Option.some.injEq] at hq
        subst hq
        cases ha with
        | ptr _ _ bi hr =>
          obtain ⟨c', fr, w1, w2, w3, w4, -⟩ := H.cell hg hr
          refine ⟨_, .ptr _ _ bi hr, ?_⟩
          have hz : ¬ i.size = 0 := by omega
          have hsz : c'.size = i.size := w4 rfl
          have hco : C.P.cellsOf e = i.size := by unfold Program.cellsOf; rw [ok.ty e i hi]; rfl
          have hv : (variablesAt ⟨bi.b, 0, none⟩ e 1).run C.P w = .ok true w := by
            unfold variablesAt
            rw [Sem.run_bind]
            show ((Result.ok C.P w).andThen _) = _
            simp only [Result.andThen]
            rw [Sem.run_bind, run_shape C.P w1]
            simp only [Result.andThen, Sem.run_pure, hsz]
            rw [lies_self C.P e i.size hco hz]
          unfold convert
          rw [Sem.run_bind, run_underlying (ok.und hs)]
          simp only [Result.andThen]
          rw [Sem.run_bind, run_underlying (ok.und hd)]
          simp only [Result.andThen]
          unfold Conv.unsafePointer
          rw [Sem.run_bind, run_underlying (ok.und hs)]
          simp only [Result.andThen]
          rw [Sem.run_bind, run_underlying (ok.und hd)]
          simp only [Result.andThen]
          rw [Sem.run_bind, run_seenAt C.P w1]
          simp only [Result.andThen]
          rw [Sem.run_bind, run_sizeOf' ok hi]
          simp only [Result.andThen]
          rw [Sem.run_bind, hv]
          simp
      · have : (decide (1 ≤ i.size) && decide (off = 0) && decide (e = u) && decide (n = i.size)) = false := by
          rw [Bool.eq_false_iff]; simp only [ne_eq, Bool.and_eq_true, decide_eq_true_eq]; intro h3; exact hb ⟨h3.1.1.1, h3.1.1.2, h3.1.2, h3.2⟩
        rw [this] at hq; cases hq
    · cases hq
  · cases hq

end Go.Dm
end

section
namespace Go.Dm
variable {C : Ctx} {ρ : Ren} {h : Heap} {w : World} {n : Nat} {e : E} {a : Act}

theorem run_v (P : Program) {s : Sem Value} {u : Value} (hs : s.run P w = .ok u w) : ((do pure (Next.value (← s))) : Sem Next).run P w = .ok (.value u) w := by
  rw [Sem.run_bind, hs]; rfl

theorem evO_sim (H : ER ρ n e a) {x : Option Operand} {f : Option FV} (hx : evO x = some f) : OV ρ (FV.opt e f) (x.map a.eval) := by
  cases x with
  | none => simp [evO] at hx; subst hx; exact .none
  | some o =>
    simp only [evO] at hx
    cases e1 : evC o with
    | none => rw [e1] at hx; simp at hx
    | some v => rw [e1] at hx; simp at hx; subst hx; exact .some _ _ (H.ev e1)

theorem nilOk_sim {x v : DV} {u : Value} (hq : nilOk x = some v) (hx : VR ρ x u) : v = x ∧ ((∃ b, u = .pointer (some b)) ∨ ∃ f l m, u = .func (.func f) l m) := by
  unfold nilOk at hq
  split at hq
  · cases hq; cases hx; exact ⟨rfl, .inl ⟨_, rfl⟩⟩
  · cases hq; cases hx; exact ⟨rfl, .inr ⟨_, _, _, rfl⟩⟩
  · cases hq

theorem opQ_sim (ok : C.Ok) (H : HL ρ h w) (E : ER ρ n e a) {o : Oper} {x : FQ} {v : DV} (ho : opF C.S o.op = .q x) (hq : x.f e h = some v) :
    ∃ u, VR ρ v u ∧ (execOp a.eval o).run C.P w = .ok (.value u) w := by
  obtain ⟨dst, op, type, pos, after, guard⟩ := o
  simp only at ho
  cases op <;> simp only [opF] at ho
  all_goals (try (cases ho; done))
  case move y =>
    split at ho
    · rename_i f hf; cases ho; cases hq; exact ⟨_, E.ev hf, rfl⟩
    · cases ho
  case assign y =>
    split at ho
    · rename_i f hf; cases ho; cases hq; exact ⟨_, E.ev hf, rfl⟩
    · cases ho
  case pick c x y =>
    split at ho
    · rename_i f1 f2 f3 h1 h2 h3; cases ho; exact pickD_sim C.P hq (E.ev h1) (E.ev h2) (E.ev h3)
    · cases ho
  case build t parts =>
    split at ho
    · rename_i ps hp
      cases ho
      obtain ⟨u, g1, g2⟩ := buildD_sim (w := w) ok (parts' := parts.map fun (i, x) => (i, a.eval x)) hq (by simpa using evCp_sim E hp)
      exact ⟨u, g1, run_v C.P g2⟩
    · cases ho
  case load t y =>
    split at ho
    · rename_i f i d h1 h2 h3
      cases hag : isAggD d with
      | true =>
        rw [hag] at ho; cases ho
        obtain ⟨u, g1, g2⟩ := loadAgg_sim ok H h2 h3 hag hq (E.ev h1)
        exact ⟨u, g1, run_v C.P g2⟩
      | false =>
        rw [hag] at ho; cases ho
        obtain ⟨u, g1, g2⟩ := loadOne_sim ok H h3 hag hq (E.ev h1)
        exact ⟨u, g1, run_v C.P g2⟩
    · cases ho
  case nilCheck y =>
    split at ho
    · rename_i f h1
      cases ho
      obtain ⟨rfl, hb⟩ := nilOk_sim hq (E.ev h1)
      refine ⟨_, E.ev h1, ?_⟩
      rcases hb with ⟨b, hb⟩ | ⟨f0, l, m, hb⟩ <;> simp [execOp, hb]
    · cases ho
  case binOp bop t y z yt =>
    split at ho
    · rename_i f g h1 h2
      cases hb : binC C.S bop t (isConstO y || isConstO z) with
      | mk gg =>
        rw [hb] at ho
        cases ho
        have hq' : (binC C.S bop t (isConstO y || isConstO z)).f h (f.f e) (g.f e) = some v := by rw [hb]; exact hq
        obtain ⟨u, g1, g2⟩ := binC_sim ok H hq' (E.ev h1) (E.ev h2)
        exact ⟨u, g1, run_v C.P g2⟩
    · cases ho
  case unOp uop t y =>
    split at ho
    · rename_i f h1
      cases ho
      obtain ⟨u, g1, g2⟩ := unD_sim (w := w) C.P hq (E.ev h1)
      exact ⟨u, g1, run_v C.P g2⟩
    · cases ho
  case convert s d y =>
    split at ho
    · rename_i f h1
      unfold convF at ho
      split at ho
      · split at ho
        · cases hb : Nat.beq _ 1 <;> rw [hb] at ho <;> cases ho
        · cases ho
      · cases ho
        obtain ⟨u, g1, g2⟩ := convD_sim ok H hq (E.ev h1)
        exact ⟨u, g1, run_v C.P g2⟩
    · cases ho
  case makeInterface t y =>
    split at ho
    · cases ho
    · rename_i f u hne h1 hu
      cases ho
      cases hq
      refine ⟨_, .iface _ _ _ (E.ev h1), run_v C.P ?_⟩
      unfold Instr.makeInterface
      rw [Sem.run_bind, run_underlying (ok.und hu)]
      simp only [Result.andThen]
      cases u <;> first | rfl | exact absurd rfl (hne _ _ h1)
    · cases ho
  case makeFunc fn first captured =>
    cases fn <;> simp only at ho <;> first | (cases ho; done) | skip
    split at ho
    · rename_i f _ _ l m h1 h2
      cases ho
      cases hq
      refine ⟨_, .func _ _ _ _ _ (E.evs h1) (E.evs h2), ?_⟩
      simp [execOp, Instr.makeFunc]
      constructor <;> rw [← List.map_toArray, Array.toArray_toList]
    · cases ho
  case slice t y lo hi mx =>
    split at ho
    · rename_i f1 f2 f3 f4 h1 h2 h3 h4
      cases ho
      obtain ⟨u, g1, g2⟩ := sliceD_sim (w := w) ok hq (E.ev h1) (evO_sim E h2) (evO_sim E h3) (evO_sim E h4)
      exact ⟨u, g1, run_v C.P g2⟩
    · cases ho
  case fieldAddr t y f =>
    split at ho
    · rename_i g fs h1 hu
      split at ho
      · rename_i fd hf
        split at ho
        · rename_i i hi
          cases hb : Nat.beq i.size 0 with
          | true => rw [hb] at ho; cases ho
          | false =>
            rw [hb] at ho; cases ho
            obtain ⟨u, g1, g2⟩ := run_fieldAt (w := w) ok hu hf hi hb hq (E.ev h1)
            exact ⟨u, g1, run_v C.P g2⟩
        · cases ho
      · cases ho
    · cases ho
  case field t y f =>
    split at ho
    · rename_i g fs h1 hu
      split at ho
      · rename_i fd hf
        cases ho
        obtain ⟨u, g1, g2⟩ := run_field (w := w) ok hu hf hq (E.ev h1)
        exact ⟨u, g1, run_v C.P g2⟩
      · cases ho
    · cases ho
  case indexAddr t y z =>
    split at ho
    · rename_i f g et h1 h2 hu
      split at ho
      · rename_i i hi
        cases ho
        obtain ⟨u, g1, g2⟩ := run_indexAt (w := w) ok hu hi hq (E.ev h1) (E.ev h2)
        exact ⟨u, g1, run_v C.P g2⟩
      · cases ho
    · cases ho
  case index t y z =>
    split at ho
    · rename_i f g h1 h2 hu
      cases ho
      obtain ⟨u, g1, g2⟩ := run_indexS (w := w) ok hu hq (E.ev h1) (E.ev h2)
      exact ⟨u, g1, run_v C.P g2⟩
    · rename_i f g len et h1 h2 hu
      split at ho
      · rename_i i hi
        cases ho
        obtain ⟨u, g1, g2⟩ := run_indexArr (w := w) ok hu hi hq (E.ev h1) (E.ev h2)
        exact ⟨u, g1, run_v C.P g2⟩
      · cases ho
    · cases ho
  case lookup t y z cok =>
    split at ho
    · rename_i f g h1 h2
      cases ho
      obtain ⟨u, g1, g2⟩ := lookupD_sim ok H hq (E.ev h1) (E.ev h2)
      exact ⟨u, g1, run_v C.P g2⟩
    · cases ho
  case extract y i =>
    split at ho
    · rename_i f h1
      cases ho
      obtain ⟨u, g1, g2⟩ := run_extract (w := w) C.P hq (E.ev h1)
      exact ⟨u, g1, run_v C.P g2⟩
    · cases ho
  case call c =>
    obtain ⟨cal, args, ats⟩ := c
    cases hev : evCs args.toList with
    | none => rw [hev] at ho; cases cal <;> cases ho
    | some fs =>
      have hargs := E.evs hev
      have hal : args.map a.eval = (args.toList.map a.eval).toArray := by rw [← List.map_toArray, Array.toArray_toList]
      generalize hzs : args.toList.map a.eval = zs at hargs hal
      cases cal <;> simp only [hev] at ho
      case builtin b =>
        have hrun : (execOp a.eval ⟨dst, .call ⟨.builtin b, args, ats⟩, type, pos, after, guard⟩).run C.P w = (builtin b ats type (args.map fun | .const _ => true | _ => false) zs.toArray).run C.P w := by rw [← hal]; rfl
        rw [hrun]
        cases b <;> simp only [builtF] at ho <;> first | (cases ho; done) | skip
        case len =>
          split at ho
          · rename_i t ts y ys hts
            cases ho
            cases hargs with
            | cons _ y' _ ys' hy hs =>
              obtain ⟨u, g1, g2⟩ := lenD_sim (t0 := type) (args := (y' :: ys').toArray) ok H (ts := ats) (by have := congrArg (fun l : List TypeId => l[0]?) hts; simpa using this) rfl hq hy
              exact ⟨u, g1, run_v C.P g2⟩
          · cases ho
        case max =>
          cases ho
          obtain ⟨u, g1, g2⟩ := run_max (w := w) C.P ats type hq hargs
          exact ⟨u, g1, run_v C.P g2⟩
        case min =>
          cases ho
          obtain ⟨u, g1, g2⟩ := run_min (w := w) C.P ats type hq hargs
          exact ⟨u, g1, run_v C.P g2⟩
        case unsafeSliceData =>
          cases ho
          obtain ⟨u, g1, g2⟩ := run_sliceData (w := w) C.P ats type hq hargs
          exact ⟨u, g1, run_v C.P g2⟩
        all_goals (repeat' (split at ho))
        all_goals (first | (cases ho; done) | skip)
        all_goals (cases hb : Nat.beq _ 1 <;> rw [hb] at ho <;> cases ho)
      all_goals (repeat' (split at ho))
      all_goals (cases ho)
  all_goals (repeat' (split at ho))
  all_goals (cases ho)

end Go.Dm
end

section
namespace Go.Dm
variable {C : Ctx} {ρ : Ren} {h : Heap} {w : World} {n : Nat} {e : E} {a : Act}

def Ren.add (ρ : Ren) (id : Nat) (i : BI) : Ren := fun j => if j = id then some i else ρ j
theorem Ren.le_add {id : Nat} {i : BI} (hf : ρ id = none) : ρ.le (ρ.add id i) := fun j x hj => by
  unfold Ren.add
  by_cases e : j = id
  · subst e; rw [hf] at hj; cases hj
  · rw [if_neg e]; exact hj
theorem Ren.add_self {id : Nat} {i : BI} : (ρ.add id i) id = some i := by unfold Ren.add; rw [if_pos rfl]

def pushW (w : World) (o : Obj) : World := { w with heap := w.heap.push o }
theorem pushW_get (o : Obj) (b : Nat) (hb : b < w.heap.size) : (pushW w o).heap[b]? = w.heap[b]? := by
  show (w.heap.push o)[b]? = _
  rw [Array.getElem?_push, if_neg (by omega)]
theorem pushW_new (o : Obj) : (pushW w o).heap[w.heap.size]? = some o := by
  show (w.heap.push o)[w.heap.size]? = _
  rw [Array.getElem?_push, if_pos rfl]

theorem putN_get : ∀ (l : List DV) (c : T DV) (off k : Nat), (putN c off l).get k = if off ≤ k ∧ k < off + l.length then l[k - off]? else c.get k := by
  intro l
  induction l with
  | nil => intro c off k; simp only [putN, List.length_nil]; rw [if_neg (by omega)]
  | cons v l ih =>
    intro c off k
    simp only [putN]
    rw [ih, T.get_put]
    simp only [List.length_cons]
    by_cases h1 : k = off
    · subst h1
      rw [if_neg (by omega), if_pos rfl, if_pos (by omega)]
      simp
    · rw [if_neg h1]
      by_cases h2 : off ≤ k ∧ k < off + (l.length + 1)
      · rw [if_pos h2, if_pos (by omega)]
        obtain ⟨m, rfl⟩ : ∃ m, k = off + 1 + m := ⟨k - off - 1, by omega⟩
        rw [show off + 1 + m - (off + 1) = m from by omega, show off + 1 + m - off = m + 1 from by omega]
        simp
      · rw [if_neg h2, if_neg (by omega)]

theorem ones_mem : ∀ {l : List DV}, ones l = true → ∀ d ∈ l, d.one = true
  | [], _, d, h => by simp at h
  | x :: l, h1, d, h => by
    unfold ones at h1
    rw [Bool.and_eq_true] at h1
    rcases List.mem_cons.1 h with rfl | h
    · exact h1.1
    · exact ones_mem h1.2 d h

/-- a new row of cells -/
theorem rowD_sim {ρ : Ren} {t : TypeId} {cs : List DV} {cs' : List Value} {g : Bool} {b : DObj} (hq : rowD t cs g = some b) (hc : VRs ρ cs cs') (k : Nat) (hk : g = false → k = 0) (pad : List Value) (hp : pad.length = k) (i : BI) (hi : i.sz = cs.length + k) :
    OR ρ i b (.cells (cs' ++ pad).toArray t (0, 0)) := by
  unfold rowD at hq
  cases ho : ones cs with
  | false => rw [ho] at hq; cases hq
  | true =>
    rw [ho] at hq
    simp only [cond_true, Option.some.injEq] at hq
    subst hq
    have hl := hc.length
    refine ⟨_, _, rfl, by simp [← hl, hp, hi], by simp [← hl], fun hg => by simp [← hl, hp, hk hg], fun _ => .inr (Nat.le_refl _), fun _ _ => rfl, fun j hj => ?_⟩
    obtain ⟨d, hd⟩ : ∃ d, cs[j]? = some d := ⟨cs[j], List.getElem?_eq_getElem hj⟩
    obtain ⟨v, h1, h2⟩ := hc.get hd
    refine ⟨d, v, ?_, ?_, ones_mem ho d (List.mem_of_getElem? hd), h2⟩
    · rw [putN_get, if_pos (by omega)]; simpa using hd
    · have : j < cs'.length := by omega
      simp [List.getElem?_append_left this, h1]

theorem rowD_exact {ρ : Ren} {t : TypeId} {cs : List DV} {cs' : Array Value} {g : Bool} {b : DObj} (hq : rowD t cs g = some b) (hc : VRs ρ cs cs'.toList) (i : BI) (hi : i.sz = cs.length) :
    OR ρ i b (.cells cs' t (0, 0)) := by
  have := rowD_sim hq hc 0 (fun _ => rfl) [] rfl i (by omega)
  simpa using this

theorem run_askRoom (P : Program) (k : Nat) : (askRoom k).run P w = .ok () w := by
  unfold askRoom; split <;> rfl
theorem run_typeInfo' (ok : C.Ok) {t : TypeId} {i : TypeInfo} (hi : C.S.ty t = some i) : (typeInfo t).run C.P w = .ok i w := by
  simp [typeInfo, ok.ty t i hi]

theorem run_newRow (P : Program) (t : TypeId) (cs : Array Value) : (newRow t cs).run P w = .ok ⟨w.heap.size, 0, none⟩ (pushW w (.cells cs t)) := rfl

theorem repL_length (z : List DV) : ∀ k, (repL z k).length = k * z.length
  | 0 => by simp [repL]
  | k + 1 => by simp [repL, repL_length z k, Nat.add_mul]; omega
theorem repL_get (z : List DV) : ∀ (k i : Nat), i < k * z.length → (repL z k)[i]? = z[i % z.length]?
  | 0, i, h => by omega
  | k + 1, i, h => by
    simp only [repL]
    by_cases hi : i < z.length
    · rw [List.getElem?_append_left hi, Nat.mod_eq_of_lt hi]
    · rw [List.getElem?_append_right (by omega), repL_get z k (i - z.length) (by rw [Nat.add_mul] at h; omega)]
      rw [← Nat.mod_eq_sub_mod (by omega)]

theorem VRs.of_pt {ρ : Ren} : ∀ {l : List DV} {l' : List Value}, l.length = l'.length → (∀ (i : Nat) d, l[i]? = some d → ∃ v, l'[i]? = some v ∧ VR ρ d v) → VRs ρ l l'
  | [], [], _, _ => .nil
  | d :: l, v :: l', hl, hp => by
    obtain ⟨v', h1, h2⟩ := hp 0 d rfl
    simp at h1; subst h1
    exact .cons _ _ _ _ h2 (VRs.of_pt (by simpa using hl) fun i d' hd => by simpa using hp (i + 1) d' (by simpa using hd))

/-- a row of zero values -/
theorem zeros_sim {ρ : Ren} {z : List DV} {z' : Array Value} (hz : VRs ρ z z'.toList) (k : Nat) : VRs ρ (repL z k) ((Array.range (k * z'.size)).map (z'[· % z'.size]!)).toList := by
  have hs : z.length = z'.size := by have := hz.length; simpa using this
  refine VRs.of_pt (by simp [repL_length, hs]) fun i d hd => ?_
  have hi : i < k * z.length := by have := (List.getElem?_eq_some_iff.1 hd).1; rwa [repL_length] at this
  rw [repL_get _ _ _ hi] at hd
  obtain ⟨v, h1, h2⟩ := hz.get hd
  refine ⟨v, ?_, h2⟩
  rw [hs] at hi h1
  have h3 : z'[i % z'.size]? = some v := by simpa using h1
  have h4 : z'[i % z'.size]! = v := by rw [getElem!_def, h3]
  simp only [Array.toList_map, Array.toList_range, List.getElem?_map]
  rw [List.getElem?_range hi]
  simp [h4]

def ASim (C : Ctx) (ρ : Ren) (w : World) (id : Nat) (v : DV) (b : DObj) (s : Sem Next) : Prop :=
  ∃ u ro sz, s.run C.P w = .ok (.value u) (pushW w ro) ∧ VR (ρ.add id ⟨w.heap.size, sz⟩) v u ∧ OR (ρ.add id ⟨w.heap.size, sz⟩) ⟨w.heap.size, sz⟩ b ro

theorem run_v' (P : Program) {s : Sem Value} {u : Value} {w' : World} (hs : s.run P w = .ok u w') : ((do pure (Next.value (← s))) : Sem Next).run P w = .ok (.value u) w' := by
  rw [Sem.run_bind, hs]; rfl

theorem convF_a {S : St} {s d : TypeId} {x : FV} {y : FA} (h : convF S s d x = .a y) : False := by
  unfold convF at h
  split at h
  · split at h
    · cases hb : Nat.beq _ 1 <;> rw [hb] at h <;> cases h
    · cases h
  · cases h
theorem builtF_a {S : St} {b : Builtin} {ts : List TypeId} {args : List FV} {y : FA} (h : builtF S b ts args = .a y) : False := by
  cases b <;> simp only [builtF] at h <;> first | (cases h; done) | skip
  all_goals (repeat' (split at h))
  all_goals (first | (cases h; done) | skip)
  all_goals (cases hb : Nat.beq _ 1 <;> rw [hb] at h <;> cases h)

theorem opA_sim (ok : C.Ok) (E : ER ρ n e a) {o : Oper} {x : FA} {v : DV} {b : DObj} {id : Nat} (hf : ρ id = none) (ho : opF C.S o.op = .a x) (hq : x.f e id = some (v, b)) :
    ASim C ρ w id v b (execOp a.eval o) := by
  obtain ⟨dst, op, type, pos, after, guard⟩ := o
  simp only at ho
  cases op <;> simp only [opF] at ho
  all_goals (try (cases ho; done))
  case alloc t =>
    split at ho
    · rename_i z hz
      split at ho
      · rename_i bb hr
        cases ho
        cases hq
        obtain ⟨z', hz1, hz2⟩ := ofVal_sim (ρ := ρ) ok hz
        refine ⟨_, _, z.cellsL.length, run_v' C.P (u := .pointer (some ⟨w.heap.size, 0, none⟩)) (w' := pushW w (.cells z'.cells t)) ?_, .ptr _ _ _ Ren.add_self, rowD_exact hr ((hz1.mono (Ren.le_add hf)).cells) _ rfl⟩
        unfold Instr.alloc
        rw [Sem.run_bind, hz2]
        rfl
      · cases ho
    · cases ho
  case box t y =>
    split at ho
    · rename_i f h1
      cases ho
      simp only at hq
      unfold boxD at hq
      split at hq
      · cases hq
      · split at hq
        · rename_i bb hr
          cases hq
          have hv := E.ev h1
          refine ⟨_, _, (f.f e).cellsL.length, run_v' C.P (u := .pointer (some ⟨w.heap.size, 0, none⟩)) (w' := pushW w (.cells (a.eval y).cells t)) rfl, .ptr _ _ _ Ren.add_self, rowD_exact hr ((hv.mono (Ren.le_add hf)).cells) _ rfl⟩
        · cases hq
    · cases ho
  case makeMap t r =>
    cases r with
    | none =>
      simp only at ho
      cases ho; cases hq
      exact ⟨_, _, 0, run_v' C.P (u := .map (some w.heap.size)) (w' := pushW w (.map #[] 0)) rfl, .map _ _ Ren.add_self, #[], rfl, .nil⟩
    | some y =>
      simp only at ho
      split at ho
      · rename_i f k el h1 hu
        cases ho
        simp only at hq
        have hv := E.ev h1
        unfold mapD at hq
        split at hq
        · rename_i hfe
          cases hq
          rw [hfe] at hv
          refine ⟨_, _, 0, run_v' C.P (u := .map (some w.heap.size)) (w' := pushW w (.map #[] 0)) ?_, .map _ _ Ren.add_self, #[], rfl, .nil⟩
          generalize hae : a.eval y = ay at hv
          cases hv
          unfold Instr.makeMap
          simp only [Option.map_some, hae]
          rw [Sem.run_bind, run_underlying (ok.und hu)]
          rfl
        · cases hq
      · cases ho
  case buildSlice t len parts =>
    split at ho
    · rename_i ps hps
      cases ho
      simp only at hq
      unfold buildSliceD at hq
      split at hq
      · rename_i et hu
        split at hq
        · rename_i i z hi hz
          obtain ⟨z', hz1, hz2⟩ := ofVal_sim (ρ := ρ) ok hz
          rw [bleD, bleD, beqD] at hq
          by_cases hb : len * i.size ≤ 16777216 ∧ 1 ≤ i.size ∧ z.cellsL.length = i.size
          · obtain ⟨hb1, hb2, hb3⟩ := hb
            simp only [hb1, hb2, hb3, decide_true, Bool.and_true, cond_true] at hq
            split at hq
            · rename_i cs hfill
              split at hq
              · rename_i bb hr
                cases hq
                have hzs : z'.cells.size = i.size := by rw [hz1.cells_size, hb3]
                have hzero := zeros_sim hz1.cells len
                obtain ⟨r', g1, g2⟩ := fillD_sim (place' := fun k => some (k * i.size, i.size)) (fun i p hh => hh) _ _ _ _ _ hfill (evCp_sim E hps) hzero
                have hlen : r'.size = cs.length := by have := g2.length; simpa using this.symm
                refine ⟨_, _, cs.length, run_v' C.P (u := .slice (some ⟨w.heap.size, 0, none⟩) len len) (w' := pushW w (.cells r' et)) ?_, .slice _ _ _ _ _ _ _ Ren.add_self (fun _ => rfl) (fun hne => absurd rfl hne) (Nat.le_refl _),
                  rowD_exact hr (g2.mono (Ren.le_add hf)) _ rfl⟩
                unfold Instr.buildSlice
                rw [Sem.run_bind, run_underlying (ok.und hu)]
                simp only [Result.andThen]
                rw [Sem.run_bind, run_sizeOf' ok hi]
                simp only [Result.andThen]
                rw [if_neg (by omega)]
                have hpp : (parts.map fun (i, x) => (i, a.eval x)).toList = parts.toList.map fun (i, x) => (i, a.eval x) := by simp
                by_cases h0 : len * i.size = 0
                · rw [if_pos h0]
                  simp only [pure_bind, hpp]
                  rw [hzs, h0] at g1
                  rw [h0]
                  have e1 : ∀ f : Nat → Value, (Array.range 0).map f = #[] := fun f => by simp
                  rw [e1] at g1 ⊢
                  rw [g1]
                  rfl
                · rw [if_neg h0, Sem.run_bind, hz2]
                  simp only [Result.andThen, pure_bind, hpp]
                  rw [hzs] at g1
                  rw [hzs, g1]
                  rfl
              · cases hq
            · cases hq
          · have : (decide (len * i.size ≤ 16777216) && decide (1 ≤ i.size) && decide (z.cellsL.length = i.size)) = false := by
              rw [Bool.eq_false_iff]; simp only [ne_eq, Bool.and_eq_true, decide_eq_true_eq]; intro h3; exact hb ⟨h3.1.1, h3.1.2, h3.2⟩
            rw [this] at hq; cases hq
        · cases hq
      · cases hq
    · cases ho
  case makeSlice t l c =>
    split at ho
    · rename_i fl fc h1 h2
      cases ho
      simp only at hq
      have hvl := E.ev h1
      have hvc := E.ev h2
      unfold makeSliceD at hq
      split at hq
      · rename_i et nl nc hu hnl hnc
        obtain ⟨kl, hkl⟩ := natOf_sim hnl hvl
        obtain ⟨kc, hkc⟩ := natOf_sim hnc hvc
        split at hq
        · rename_i i z hi hz
          obtain ⟨z', hz1, hz2⟩ := ofVal_sim (ρ := ρ) ok hz
          rw [bleD, bleD, bleD, bleD, beqD] at hq
          by_cases hb : nl ≤ nc ∧ nc ≤ 16777216 ∧ i.bytes ≤ 65536 ∧ 1 ≤ i.size ∧ z.cellsL.length = i.size
          · obtain ⟨hb1, hb2, hb3, hb4, hb5⟩ := hb
            simp only [hb1, hb2, hb3, hb4, hb5, decide_true, Bool.and_true, cond_true] at hq
            split at hq
            · rename_i bb hr
              cases hq
              have hzs : z'.cells.size = i.size := by rw [hz1.cells_size, hb5]
              have hzero := zeros_sim hz1.cells nc
              have w1 : IntKind.i64.wrap (nl : Int) = nl := hiOf_spec .i64 nl (show nl < 9223372036854775808 by omega)
              have w2 : IntKind.i64.wrap (nc : Int) = nc := hiOf_spec .i64 nc (show nc < 9223372036854775808 by omega)
              refine ⟨_, _, (repL z.cellsL nc).length, run_v' C.P (u := .slice (some ⟨w.heap.size, 0, none⟩) nl nc) (w' := pushW w (.cells ((Array.range (nc * z'.cells.size)).map (z'.cells[· % z'.cells.size]!)) et)) ?_,
                .slice _ _ _ _ _ _ _ Ren.add_self (fun _ => rfl) (fun hne => absurd rfl hne) (Nat.le_refl _), rowD_exact hr (hzero.mono (Ren.le_add hf)) _ rfl⟩
              unfold Instr.makeSlice
              rw [hkl, hkc, Sem.run_bind, run_underlying (ok.und hu)]
              simp only [Result.andThen]
              rw [Sem.run_bind]
              show Result.andThen (.ok (nl : Int) w) _ = _
              simp only [Result.andThen]
              rw [Sem.run_bind]
              show Result.andThen (.ok (nc : Int) w) _ = _
              simp only [Result.andThen]
              rw [Sem.run_bind, run_typeInfo' ok hi]
              simp only [Result.andThen, w1, w2]
              have hbig : ¬ ((i.bytes : Int) * (nc : Int) > 2 ^ 48) := by
                have h2 : i.bytes * nc ≤ 1099511627776 := Nat.le_trans (Nat.mul_le_mul hb3 hb2) (by decide)
                generalize hm : i.bytes * nc = m at h2
                have h3 : (i.bytes : Int) * (nc : Int) = (m : Int) := by rw [← hm, Int.natCast_mul]
                rw [h3]
                omega
              have hcond : ¬ (decide ((nc : Int) < 0) || decide ((i.bytes : Int) * (nc : Int) > 2 ^ 48) || decide ((nl : Int) < 0) || decide ((nl : Int) > (nc : Int))) = true := by
                intro hh
                rw [Bool.or_eq_true, Bool.or_eq_true, Bool.or_eq_true, decide_eq_true_eq, decide_eq_true_eq, decide_eq_true_eq, decide_eq_true_eq] at hh
                rcases hh with ((hh | hh) | hh) | hh
                · exact absurd hh (by omega)
                · exact hbig hh
                · exact absurd hh (by omega)
                · exact absurd hh (by omega)
              rw [if_neg hcond, Sem.run_bind, run_askRoom]
              simp only [Result.andThen]
              rw [Sem.run_bind, run_sizeOf' ok hi]
              simp only [Result.andThen, Int.toNat_natCast]
              by_cases h0 : nc * i.size = 0
              · rw [if_pos h0, h0]
                have e1 : ∀ f : Nat → Value, (Array.range 0).map f = #[] := fun f => by simp
                rw [hzs, h0]
                simp only [pure_bind, e1]
                rfl
              · rw [if_neg h0, Sem.run_bind, hz2]
                simp only [Result.andThen, pure_bind]
                rw [hzs]
                rfl
            · cases hq
          · have : (decide (nl ≤ nc) && decide (nc ≤ 16777216) && decide (i.bytes ≤ 65536) && decide (1 ≤ i.size) && decide (z.cellsL.length = i.size)) = false := by
              rw [Bool.eq_false_iff]; simp only [ne_eq, Bool.and_eq_true, decide_eq_true_eq]; intro h3; exact hb ⟨h3.1.1.1.1, h3.1.1.1.2, h3.1.1.2, h3.1.2, h3.2⟩
            rw [this] at hq; cases hq
        · cases hq
      · cases hq
    · cases ho
  case convert s d y =>
    split at ho
    · exact (convF_a ho).elim
    · cases ho
  case makeFunc fn l m =>
    cases fn <;> simp only at ho <;> first | (cases ho; done) | skip
    split at ho <;> cases ho
  case call c =>
    obtain ⟨cal, args, ats⟩ := c
    cases cal <;> simp only at ho
    all_goals (repeat' (split at ho))
    all_goals (first | exact (builtF_a ho).elim | cases ho)
  all_goals (repeat' (split at ho))
  all_goals (first | (cases ho; done) | skip)
  all_goals (cases hz : Nat.beq _ 0 <;> rw [hz] at ho <;> cases ho)

end Go.Dm
end

section
namespace Go.Dm
variable {C : Ctx} {ρ : Ren} {h : Heap} {w : World} {n : Nat} {e : E} {a : Act}

theorem Heap.get_put (h : Heap) (id j : Nat) (o : DObj) : (h.put id o).get j = if j = id then some o else h.get j := by
  cases h; exact T.get_put _ _ _ _
theorem Heap.get_del (h : Heap) (id j : Nat) : (h.del id).get j = if j = id then none else h.get j := by
  cases h; exact T.get_del _ _ _
theorem Heap.get_new (h : Heap) (j : Nat) (o : DObj) : (h.new o).get j = if j = h.next then some o else h.get j := by
  cases h; exact T.get_put _ _ _ _
theorem Heap.next_put (h : Heap) (id : Nat) (o : DObj) : (h.put id o).next = h.next := by cases h; rfl
theorem Heap.next_del (h : Heap) (id : Nat) : (h.del id).next = h.next := by cases h; rfl
theorem Heap.next_new (h : Heap) (o : DObj) : (h.new o).next = h.next + 1 := by cases h; rfl

theorem Ren.add_ne {id j : Nat} {i : BI} (hne : j ≠ id) : (ρ.add id i) j = ρ j := by unfold Ren.add; rw [if_neg hne]

theorem HL.lt (H : HL ρ h w) {id : Nat} {o : DObj} {i : BI} (hg : h.get id = some o) (hi : ρ id = some i) : i.b < w.heap.size := by
  obtain ⟨i', ro, h1, h2, -⟩ := H.live id o hg
  rw [hi] at h1; cases h1
  exact (Array.getElem?_eq_some_iff.1 h2).1

/-- a new block -/
theorem HL.add (H : HL ρ h w) {h' : Heap} {id : Nat} {i : BI} {b : DObj} {ro : Obj} (hf : ρ id = none) (ho : OR (ρ.add id i) i b ro) (hi : i.b = w.heap.size)
    (hh : ∀ j, h'.get j = if j = id then some b else h.get j) : HL (ρ.add id i) h' (pushW w ro) := by
  have old : ∀ j o, h'.get j = some o → j ≠ id → ∃ i' ro', h.get j = some o ∧ ρ j = some i' ∧ i'.b < w.heap.size ∧ w.heap[i'.b]? = some ro' ∧ OR ρ i' o ro' := fun j o hg hne => by
    rw [hh, if_neg hne] at hg
    obtain ⟨i', ro', h1, h2, h3⟩ := H.live j o hg
    exact ⟨i', ro', hg, h1, H.lt hg h1, h2, h3⟩
  refine ⟨fun j o hg => ?_, fun j k o o' x y hj hk hx hy hxy => ?_⟩
  · by_cases e : j = id
    · subst e
      rw [hh, if_pos rfl] at hg; cases hg
      exact ⟨i, ro, Ren.add_self, by rw [hi]; exact pushW_new ro, ho⟩
    · obtain ⟨i', ro', -, h2, h3, h4, h5⟩ := old j o hg e
      exact ⟨i', ro', by rw [Ren.add_ne e]; exact h2, by rw [pushW_get _ _ h3]; exact h4, h5.mono (Ren.le_add hf)⟩
  · by_cases ej : j = id
    · by_cases ek : k = id
      · rw [ej, ek]
      · subst ej
        rw [Ren.add_self] at hx; cases hx
        obtain ⟨i', ro', -, h2, h3, -⟩ := old k o' hk ek
        rw [Ren.add_ne ek, h2] at hy; cases hy
        omega
    · obtain ⟨i', ro', g1, h2, h3, -⟩ := old j o hj ej
      rw [Ren.add_ne ej, h2] at hx; cases hx
      by_cases ek : k = id
      · subst ek
        rw [Ren.add_self] at hy; cases hy
        omega
      · obtain ⟨i'', ro'', g1', h2', h3', -⟩ := old k o' hk ek
        rw [Ren.add_ne ek, h2'] at hy; cases hy
        exact H.inj _ _ _ _ _ _ g1 g1' h2 h2' hxy

theorem HR.add (ok : C.Ok) (H : HR C ρ h w) {h' : Heap} {id : Nat} {i : BI} {b : DObj} {ro : Obj} (hf : ρ id = none) (ho : OR (ρ.add id i) i b ro) (hi : i.b = w.heap.size)
    (hh : ∀ j, h'.get j = if j = id then some b else h.get j) (hn : h.next ≤ h'.next) (hid : id < h'.next) : HR C (ρ.add id i) h' (pushW w ro) := by
  refine ⟨H.toHL.add hf ho hi hh, fun j hj => ?_, fun j x hx => ?_, ?_, ?_⟩
  · rw [Ren.add_ne (by omega)]; exact H.next j (by omega)
  · by_cases e : j = id
    · subst e; rw [Ren.add_self] at hx; cases hx; rw [hi]; exact H.low
    · rw [Ren.add_ne e] at hx; exact H.base j x hx
  · show C.B ≤ (w.heap.push ro).size
    have := H.low
    simp; omega
  · refine ok.same w _ H.old rfl rfl rfl ?_ fun b hb => pushW_get _ _ (Nat.lt_of_lt_of_le hb H.low)
    show C.B ≤ (w.heap.push ro).size
    have := H.low
    simp; omega

theorem Keeps.push (ρ : Ren) (h : Heap) (w : World) (o : Obj) : Keeps ρ h w (pushW w o) :=
  ⟨rfl, rfl, rfl, by show w.heap.size ≤ (w.heap.push o).size; simp, fun b hb _ => pushW_get _ _ hb⟩

/-! writing -/
theorem putN_in {c : T DV} {off k : Nat} {l : List DV} (hk : off ≤ k ∧ k < off + l.length) : (putN c off l).get k = l[k - off]? := by rw [putN_get, if_pos hk]
theorem putN_out {c : T DV} {off k : Nat} {l : List DV} (hk : ¬ (off ≤ k ∧ k < off + l.length)) : (putN c off l).get k = c.get k := by rw [putN_get, if_neg hk]

end Go.Dm
end

section
namespace Go.Dm
variable {C : Ctx} {ρ : Ren} {h : Heap} {w : World} {n : Nat} {e : E} {a : Act}

/-- the world with another row in a block -/
def setW (w : World) (b : Nat) (o : Obj) : World := { w with heap := w.heap.setIfInBounds b o }
theorem setW_self (o : Obj) (b : Nat) (hb : b < w.heap.size) : (setW w b o).heap[b]? = some o := by
  show (w.heap.setIfInBounds b o)[b]? = _
  simp [hb]
theorem setW_ne (o : Obj) (b k : Nat) (hk : k ≠ b) : (setW w b o).heap[k]? = w.heap[k]? := by
  show (w.heap.setIfInBounds b o)[k]? = _
  rw [Array.getElem?_setIfInBounds, if_neg (fun e => hk e.symm)]
theorem setW_size (o : Obj) (b : Nat) : (setW w b o).heap.size = w.heap.size := by
  show (w.heap.setIfInBounds b o).size = _
  simp
theorem setW_setW (o o' : Obj) (b : Nat) : setW (setW w b o) b o' = setW w b o' := by
  unfold setW
  simp

theorem setCell_eq {b k : Nat} {c : Array Value} {t : TypeId} {fr : Nat × Nat} {v : Value} (hb : w.heap[b]? = some (.cells c t fr)) :
    w.setCell ⟨b, k, none⟩ v = setW w b (.cells (c.setIfInBounds k v) t fr) := by
  unfold World.setCell setW
  congr 1
  apply Array.ext_getElem?
  intro j
  rw [Array.getElem?_modify, Array.getElem?_setIfInBounds]
  have hlt : b < w.heap.size := (Array.getElem?_eq_some_iff.1 hb).1
  by_cases e : b = j
  · subst e
    rw [if_pos rfl, if_pos rfl, if_pos hlt, hb]
    rfl
  · rw [if_neg e, if_neg e]

theorem run_store1 (P : Program) {b k : Nat} {c : Array Value} {t : TypeId} {fr : Nat × Nat} {v : Value} (hb : w.heap[b]? = some (.cells c t fr)) (hk : k < c.size)
    (hf : ¬ (fr.1 ≤ k ∧ k < fr.2)) (hv : v.cellV = true) : (store ⟨b, k, none⟩ v).run P w = .ok () (setW w b (.cells (c.setIfInBounds k v) t fr)) := by
  have hc : w.cell? ⟨b, k, none⟩ = some c[k] := by unfold World.cell?; simp only [hb]; simp [hk]
  have hz : w.frozen? ⟨b, k, none⟩ = false := by
    unfold World.frozen?
    simp only [hb]
    rw [Bool.eq_false_iff]
    simpa using hf
  rw [← setCell_eq hb]
  unfold store
  cases v <;> simp [Value.cellV] at hv <;> simp [Sem.run, hc, hz]

theorem run_storeCells_sim (P : Program) (b off : Nat) (t : TypeId) (fr : Nat × Nat) : ∀ (vs : List Value) (i : Nat) (w : World) (c : Array Value), w.heap[b]? = some (.cells c t fr) →
    (∀ k, k < c.size → ¬ (fr.1 ≤ k ∧ k < fr.2)) → off + i + vs.length ≤ c.size → (∀ v ∈ vs, v.cellV = true) →
    ∃ c' : Array Value, (storeCells ⟨b, off, none⟩ vs i).run P w = .ok () (setW w b (.cells c' t fr)) ∧ c'.size = c.size ∧
      ∀ k : Nat, c'[k]? = if off + i ≤ k ∧ k < off + i + vs.length then vs[k - (off + i)]? else c[k]? := by
  intro vs
  induction vs with
  | nil =>
    intro i w c hb hf hl hv
    refine ⟨c, ?_, rfl, fun k => by rw [if_neg (by simp)]⟩
    have : setW w b (.cells c t fr) = w := by
      unfold setW
      have : w.heap.setIfInBounds b (.cells c t fr) = w.heap := by
        apply Array.ext_getElem?
        intro j
        rw [Array.getElem?_setIfInBounds]
        by_cases e : b = j
        · subst e
          rw [if_pos rfl, if_pos (Array.getElem?_eq_some_iff.1 hb).1, hb]
        · rw [if_neg e]
      rw [this]
    rw [this]
    rfl
  | cons v vs ih =>
    intro i w c hb hf hl hv
    simp only [List.length_cons] at hl
    have h1 := run_store1 P (k := off + i) hb (by omega) (hf _ (by omega)) (hv v (by simp))
    have hlt : b < w.heap.size := (Array.getElem?_eq_some_iff.1 hb).1
    obtain ⟨c', g1, g2, g3⟩ := ih (i + 1) (setW w b (.cells (c.setIfInBounds (off + i) v) t fr)) (c.setIfInBounds (off + i) v) (setW_self _ _ hlt) (fun k hk => hf k (by simpa using hk)) (by simp; omega)
      (fun x hx => hv x (by simp [hx]))
    rw [setW_setW] at g1
    refine ⟨c', ?_, by rw [g2]; simp, fun k => ?_⟩
    · unfold storeCells
      rw [Sem.run_bind, add_none, h1]
      exact g1
    · rw [g3 k]
      by_cases e : k = off + i
      · subst e
        rw [if_neg (by omega), if_pos (by simp only [List.length_cons]; omega), Array.getElem?_setIfInBounds, if_pos rfl, if_pos (by omega)]
        simp
      · by_cases e2 : off + (i + 1) ≤ k ∧ k < off + (i + 1) + vs.length
        · rw [if_pos e2, if_pos (by simp only [List.length_cons]; omega)]
          rw [show k - (off + i) = (k - (off + (i + 1))) + 1 from by omega]
          simp
        · rw [if_neg e2, if_neg (by simp only [List.length_cons]; omega)]
          rw [Array.getElem?_setIfInBounds, if_neg (by omega)]

end Go.Dm
end

section
namespace Go.Dm
variable {C : Ctx} {ρ : Ren} {h : Heap} {w : World} {n : Nat} {e : E} {a : Act}

/-- a step from one memory to the next -/
structure Stp (ρ : Ren) (h : Heap) (w : World) (ρ' : Ren) (h' : Heap) (w' : World) : Prop extends Keeps ρ h w w' where
  le : ρ.le ρ'
  next : h.next ≤ h'.next
  from_ : ∀ id o i, h'.get id = some o → ρ' id = some i → i.b < w.heap.size → ∃ id' o' i', h.get id' = some o' ∧ ρ id' = some i' ∧ i'.b = i.b
  new : ∀ id i, ρ' id = some i → ρ id = none → h.next ≤ id
  dead : ∀ id, id < h.next → h.get id = none → h'.get id = none

theorem Stp.refl (ρ : Ren) (h : Heap) (w : World) : Stp ρ h w ρ h w :=
  ⟨Keeps.refl _ _ _, Ren.le_refl _, Nat.le_refl _, fun id o i hg hi _ => ⟨id, o, i, hg, hi, rfl⟩, (fun id i h1 h2 => by rw [h2] at h1; cases h1), fun _ _ h => h⟩

theorem Stp.trans {ρ' ρ'' : Ren} {h' h'' : Heap} {w' w'' : World} (a : Stp ρ h w ρ' h' w') (b : Stp ρ' h' w' ρ'' h'' w'') : Stp ρ h w ρ'' h'' w'' := by
  refine ⟨a.toKeeps.trans b.toKeeps a.from_, Ren.le_trans a.le b.le, Nat.le_trans a.next b.next, fun id o i hg hi hl => ?_, fun id i h1 h2 => ?_, fun id h1 h2 => b.dead id (Nat.lt_of_lt_of_le h1 a.next) (a.dead id h1 h2)⟩
  · obtain ⟨id', o', i', h1, h2, h3⟩ := b.from_ id o i hg hi (Nat.lt_of_lt_of_le hl a.size)
    obtain ⟨id2, o2, i2, g1, g2, g3⟩ := a.from_ id' o' i' h1 h2 (by omega)
    exact ⟨id2, o2, i2, g1, g2, by omega⟩
  · cases e : ρ' id with
    | none => exact Nat.le_trans a.next (b.new id i h1 e)
    | some j => exact a.new id j e h2

theorem HL.set (H : HL ρ h w) {id : Nat} {o o' : DObj} {i : BI} {ro : Obj} (hg : h.get id = some o) (hi : ρ id = some i) (ho : OR ρ i o' ro) :
    HL ρ (h.put id o') (setW w i.b ro) := by
  have hlt := H.lt hg hi
  have back : ∀ j x, (h.put id o').get j = some x → ∃ y, h.get j = some y := fun j x hj => by
    rw [Heap.get_put] at hj
    by_cases e : j = id
    · subst e; exact ⟨o, hg⟩
    · rw [if_neg e] at hj; exact ⟨x, hj⟩
  refine ⟨fun j x hj => ?_, fun j k x y p q hj hk hp hq hpq => ?_⟩
  · rw [Heap.get_put] at hj
    by_cases e : j = id
    · subst e
      rw [if_pos rfl] at hj; cases hj
      exact ⟨i, ro, hi, setW_self _ _ hlt, ho⟩
    · rw [if_neg e] at hj
      obtain ⟨i', ro', h1, h2, h3⟩ := H.live j x hj
      refine ⟨i', ro', h1, ?_, h3⟩
      rw [setW_ne _ _ _ fun eb => e (H.inj _ _ _ _ _ _ hj hg h1 hi eb)]
      exact h2
  · obtain ⟨x', hx⟩ := back j x hj
    obtain ⟨y', hy⟩ := back k y hk
    exact H.inj _ _ _ _ _ _ hx hy hp hq hpq

theorem HR.set (ok : C.Ok) (H : HR C ρ h w) {id : Nat} {o o' : DObj} {i : BI} {ro : Obj} (hg : h.get id = some o) (hi : ρ id = some i) (ho : OR ρ i o' ro) :
    HR C ρ (h.put id o') (setW w i.b ro) := by
  refine ⟨H.toHL.set hg hi ho, fun j hj => H.next j (by rwa [Heap.next_put] at hj), H.base, by rw [setW_size]; exact H.low, ?_⟩
  refine ok.same w _ H.old rfl rfl rfl (by rw [setW_size]; exact H.low) fun b hb => setW_ne _ _ _ ?_
  have := H.base id i hi
  omega

theorem Stp.set {id : Nat} {o o' : DObj} {i : BI} (ro : Obj) (hg : h.get id = some o) (hi : ρ id = some i) :
    Stp ρ h w ρ (h.put id o') (setW w i.b ro) := by
  refine ⟨⟨rfl, rfl, rfl, by rw [setW_size]; exact Nat.le_refl _, fun b hb hn => setW_ne _ _ _ fun e => hn id o i hg hi e.symm⟩, Ren.le_refl _, by rw [Heap.next_put]; exact Nat.le_refl _, ?_, (fun j p h1 h2 => by rw [h2] at h1; cases h1), fun j _ hj => ?_⟩
  · intro j x p hj hp _
    rw [Heap.get_put] at hj
    by_cases e : j = id
    · subst e; exact ⟨j, o, i, hg, hi, by rw [hi] at hp; cases hp; rfl⟩
    · rw [if_neg e] at hj; exact ⟨j, x, p, hj, hp, rfl⟩
  · rw [Heap.get_put, if_neg (fun e => by rw [e, hg] at hj; cases hj)]; exact hj

theorem ones_all : ∀ {l : List DV}, ones l = true → ∀ d ∈ l, d.one = true
  | [], _, d, h => by simp at h
  | x :: l, h, d, hd => by
    rw [ones, Bool.and_eq_true] at h
    rcases List.mem_cons.1 hd with rfl | hd
    · exact h.1
    · exact ones_all h.2 d hd

theorem VRs.mem {ρ : Ren} : ∀ {a : List DV} {b : List Value}, VRs ρ a b → ∀ v ∈ b, ∃ d ∈ a, VR ρ d v
  | _, _, .nil, v, h => by simp at h
  | _, _, .cons d u ds us hd hs, v, h => by
    rcases List.mem_cons.1 h with rfl | h
    · exact ⟨d, by simp, hd⟩
    · obtain ⟨x, hx, hv⟩ := hs.mem v h
      exact ⟨x, by simp [hx], hv⟩

theorem VRs.cellV {ρ : Ren} {a : List DV} {b : List Value} (h : VRs ρ a b) (ho : ones a = true) : ∀ v ∈ b, v.cellV = true := fun v hv => by
  obtain ⟨d, hd, hr⟩ := h.mem v hv
  rw [← hr.one]; exact ones_all ho d hd

/-- a row of cells is written -/
theorem storeN_sim (ok : C.Ok) (H : HR C ρ h w) {id off : Nat} {vs : List DV} {us : List Value} {h' : Heap} {i : BI} (hs : storeN h id off vs = some h') (hi : ρ id = some i) (hv : VRs ρ vs us) :
    ∃ w', (storeCells ⟨i.b, off, none⟩ us).run C.P w = .ok () w' ∧ HR C ρ h' w' ∧ Stp ρ h w ρ h' w' := by
  unfold storeN at hs
  split at hs
  · rename_i c m t g hg
    cases hb : (Nat.ble (off + vs.length) m && ones vs) with
    | false => rw [hb] at hs; cases hs
    | true =>
      rw [hb] at hs
      cases hs
      rw [Bool.and_eq_true] at hb
      have hle : off + vs.length ≤ m := Nat.le_of_ble_eq_true hb.1
      obtain ⟨c', fr, hw, h1, h2, h3, h4, h5, h6⟩ := H.cell hg hi
      have hfr := h4 rfl
      have hl := hv.length
      obtain ⟨c2, r1, r2, r3⟩ := run_storeCells_sim C.P i.b off t fr us 0 w c' hw (fun k hk => by omega) (by omega) (hv.cellV hb.2)
      refine ⟨_, r1, H.set ok hg hi ?_, Stp.set _ hg hi⟩
      refine ⟨c2, fr, rfl, by rw [r2, h1], by omega, fun e => by rw [r2]; exact h3 e, fun _ => by rw [r2]; exact hfr, h5, fun k hk => ?_⟩
      rw [r3 k]
      by_cases hin : off ≤ k ∧ k < off + vs.length
      · rw [putN_in hin, if_pos (by omega)]
        have hx : (vs[k - off]?) = some vs[k - off] := List.getElem?_eq_getElem (by omega)
        obtain ⟨v, hv1, hv2⟩ := hv.get hx
        exact ⟨_, v, hx, by simpa using hv1, ones_all hb.2 _ (List.getElem_mem _), hv2⟩
      · rw [putN_out hin, if_neg (by omega)]
        exact h6 k hk
  · cases hs

end Go.Dm
end

section
namespace Go.Dm
variable {C : Ctx} {ρ : Ren} {h : Heap} {w : World} {n : Nat} {e : E} {a : Act}

theorem BS.eqb_eq {a b : BS} (h : a.eqb b = true) : a = b := by
  cases a; cases b
  simp only [BS.eqb, Bool.and_eq_true] at h
  obtain ⟨h1, h2⟩ := h
  rw [Nat.eq_of_beq_eq_true h1, Nat.eq_of_beq_eq_true h2]

theorem bitsCell_sim {x y : DV} {x' y' : Value} (hq : bitsCell x y = true) (hx : VR ρ x x') (hy : VR ρ y y') (n : Nat) : Instr.sameBits n x' y' = true := by
  unfold bitsCell at hq
  split at hq
  · cases hx; cases hy
    rw [Bool.and_eq_true, kEq_iff, eqI_iff] at hq
    obtain ⟨rfl, h2⟩ := hq
    have := of_decide_eq_true h2; subst this
    unfold Instr.sameBits; simp
  · rename_i a b
    cases hx with
    | str _ h1 => cases hy with
      | str _ h2 =>
        have := BS.eqb_eq hq; subst this
        have : Instr.sameBits n (.string a.ba) (.string a.ba) = (a.ba == a.ba) := by unfold Instr.sameBits; rfl
        rw [this]
        show (a.ba.data == a.ba.data) = true
        exact beq_self_eq_true _
  · cases hx; cases hy
    unfold Instr.sameBits; exact hq
  · cases hq

theorem bitsCells_sim (n : Nat) : ∀ {xs ys : List DV} {xs' ys' : List Value}, bitsCells xs ys = true → VRs ρ xs xs' → VRs ρ ys ys' →
    xs'.length = ys'.length ∧ ((xs'.zip ys').all fun (x, y) => Instr.sameBits n x y) = true
  | _, _, _, _, _, .nil, .nil => ⟨rfl, rfl⟩
  | _, _, _, _, h, .nil, .cons _ _ _ _ _ _ => by cases h
  | _, _, _, _, h, .cons _ _ _ _ _ _, .nil => by cases h
  | _, _, _, _, h, .cons _ _ _ _ h1 h2, .cons _ _ _ _ h3 h4 => by
    rw [bitsCells, Bool.and_eq_true] at h
    have h5 := bitsCell_sim h.1 h1 h3 n
    obtain ⟨h6, h7⟩ := bitsCells_sim n h.2 h2 h4
    exact ⟨by simp [h6], by rw [List.zip_cons_cons, List.all_cons, h7]; exact (Bool.and_true _).trans h5⟩

theorem sameBits_sim {x y : DV} {x' y' : Value} (hq : sameBitsD x y = true) (hx : VR ρ x x') (hy : VR ρ y y') (n : Nat) : Instr.sameBits (n + 1) x' y' = true := by
  unfold sameBitsD at hq
  split at hq
  · obtain ⟨p, rfl, h1⟩ := VR.agg_inv hx
    obtain ⟨q, rfl, h2⟩ := VR.agg_inv hy
    obtain ⟨h3, h4⟩ := bitsCells_sim n hq h1 h2
    unfold Instr.sameBits
    simp only [Bool.and_eq_true, beq_iff_eq]
    exact ⟨by simpa using h3, by simpa using h4⟩
  · exact bitsCell_sim hq hx hy _

theorem run_keyThatStays (P : Program) {o k : Value} (hs : Instr.sameBits 10000 o k = true) : (Instr.keyThatStays o k).run P w = .ok k w := by
  unfold Instr.keyThatStays
  rw [if_pos hs]; rfl

theorem run_setObj (P : Program) {b : Nat} {es : Array MapEntry} {ck : Nat} (hb : w.heap[b]? = some (.map es ck)) (o : Obj) : (setObj b o).run P w = .ok () (setW w b o) := by
  unfold setObj
  simp [Sem.run, hb, setW]

theorem ERs.get : ∀ {l : List DEntry} {l' : List MapEntry}, ERs ρ l l' → ∀ {i : Nat} {d : DEntry}, l[i]? = some d → ∃ m, l'[i]? = some m ∧ VR ρ d.key m.key ∧ VR ρ d.val m.val ∧ d.born = m.born
  | _, _, .nil, i, d, hi => by simp at hi
  | _, _, .cons d e ds es h1 h2 h3 hs, 0, d', hi => by simp at hi; subst hi; exact ⟨e, rfl, h1, h2, h3⟩
  | _, _, .cons d e ds es h1 h2 h3 hs, i + 1, d', hi => by simpa using hs.get (i := i) (by simpa using hi)

theorem ERs.push {l : List DEntry} {l' : List MapEntry} (h : ERs ρ l l') {d : DEntry} {m : MapEntry} (hk : VR ρ d.key m.key) (hv : VR ρ d.val m.val) (hb : d.born = m.born) :
    ERs ρ (l ++ [d]) (l' ++ [m]) := by
  induction h with
  | nil => exact .cons _ _ _ _ hk hv hb .nil
  | cons d e ds es h1 h2 h3 hs ih => exact .cons _ _ _ _ h1 h2 h3 ih

theorem ERs.modify : ∀ {l : List DEntry} {l' : List MapEntry}, ERs ρ l l' → ∀ (i : Nat) {d : DEntry} {m : MapEntry} (f : MapEntry → MapEntry), l'[i]? = some m → VR ρ d.key (f m).key → VR ρ d.val (f m).val → d.born = (f m).born →
    ERs ρ (setNth l i d) (l'.modify i f)
  | _, _, .nil, i, d, m, f, hi, hk, hv, hb => by simp at hi
  | _, _, .cons d e ds es h1 h2 h3 hs, 0, d', m, f, hi, hk, hv, hb => by
    simp at hi; subst hi
    rw [List.modify_cons, if_pos rfl]
    exact .cons _ _ _ _ hk hv hb hs
  | _, _, .cons d e ds es h1 h2 h3 hs, i + 1, d', m, f, hi, hk, hv, hb => by
    simp only [List.modify_cons]
    exact .cons _ _ _ _ h1 h2 h3 (hs.modify i f (by simpa using hi) hk hv hb)

end Go.Dm
end

section
namespace Go.Dm
variable {C : Ctx} {ρ : Ren} {h : Heap} {w : World} {n : Nat} {e : E} {a : Act}

theorem findD_lt {S : St} {kt : TypeId} {u : TypeDesc} {k : DV} : ∀ {es : List DEntry} {j i : Nat} {v : DV}, findD S kt u k es j = some (some (i, v)) → j ≤ i ∧ i < j + es.length ∧ (es[i - j]?).map (·.val) = some v
  | [], j, i, v, h => by simp [findD] at h
  | e :: es, j, i, v, h => by
    unfold findD at h
    split at h
    · simp only [Option.some.injEq, Prod.mk.injEq] at h
      obtain ⟨rfl, rfl⟩ := h
      refine ⟨Nat.le_refl _, by simp, by simp⟩
    · obtain ⟨h1, h2, h3⟩ := findD_lt h
      refine ⟨by omega, by simp only [List.length_cons]; omega, ?_⟩
      rw [show i - j = (i - (j + 1)) + 1 from by omega]
      simpa using h3
    · cases h

theorem mapUpdateD_sim (ok : C.Ok) (H : HR C ρ h w) {t : TypeId} {x k v : DV} {h' : Heap} {x' k' v' : Value} (hq : mapUpdateD C.S h t x k v = some h') (hx : VR ρ x x') (hk : VR ρ k k') (hv : VR ρ v v') :
    ∃ w', (Instr.mapUpdate t x' k' v').run C.P w = .ok () w' ∧ HR C ρ h' w' ∧ Stp ρ h w ρ h' w' := by
  unfold mapUpdateD at hq
  split at hq
  · rename_i kt el r hu
    split at hq
    · rename_i u es clock hku hg
      cases hko : keyOk C.S kt u k with
      | false => rw [hko] at hq; cases hq
      | true =>
        rw [hko] at hq
        simp only [cond_true] at hq
        cases hx with
        | map _ i hi =>
          obtain ⟨es', hw, he⟩ := H.toHL.map hg hi
          have hU := run_underlying (w := w) (ok.und hu)
          unfold Instr.mapUpdate
          rw [Sem.run_bind, hU]
          simp only [Result.andThen]
          rw [Sem.run_bind, run_getObj C.P hw]
          simp only [Result.andThen]
          rw [Sem.run_bind, keyOk_sim ok _ hku hko hk]
          simp only [Result.andThen]
          split at hq
          · rename_i j v0 hf
            obtain ⟨r', h5, h6⟩ := findKey_sim (w := w) ok hku hk hf he
            obtain ⟨u0, rfl, h7⟩ := h6
            rw [Sem.run_bind, h5]
            simp only [Result.andThen]
            split at hq
            · rename_i e0 he0
              obtain ⟨m0, hm0, m1, m2, m3⟩ := he.get he0
              cases hsb : sameBitsD e0.key k with
              | false => rw [hsb] at hq; cases hq
              | true =>
                rw [hsb] at hq
                cases hq
                have hm : es'[j]? = some m0 := by simpa using hm0
                rw [hm]
                simp only [Option.map_some, Option.getD_some]
                rw [Sem.run_bind, run_keyThatStays C.P (sameBits_sim hsb m1 hk 9999)]
                simp only [Result.andThen]
                rw [run_setObj C.P hw]
                refine ⟨_, rfl, H.set ok hg hi ⟨_, rfl, ?_⟩, Stp.set _ hg hi⟩
                rw [Array.toList_modify]
                exact he.modify j _ hm0 hk hv m3
            · cases hq
          · rename_i hf
            cases hq
            obtain ⟨r', h5, h6⟩ := findKey_sim (w := w) ok hku hk hf he
            cases h6
            rw [Sem.run_bind, h5]
            simp only [Result.andThen]
            rw [run_setObj C.P hw]
            refine ⟨_, rfl, H.set ok hg hi ⟨_, rfl, ?_⟩, Stp.set _ hg hi⟩
            rw [Array.toList_push]
            exact he.push hk hv rfl
          · cases hq
    · cases hq
  · cases hq

theorem mapEntryD_sim (ok : C.Ok) (H : HR C ρ h w) {t : TypeId} {x k v : DV} {h' : Heap} {x' k' : Value} (hq : mapEntryD C.S h t x k = some (v, h')) (hx : VR ρ x x') (hk : VR ρ k k') :
    ∃ u w', (Instr.mapEntry t x' k').run C.P w = .ok u w' ∧ VR ρ v u ∧ HR C ρ h' w' ∧ Stp ρ h w ρ h' w' := by
  unfold mapEntryD at hq
  split at hq
  · rename_i kt el r hu
    split at hq
    · rename_i u es clock z hku hg hz
      obtain ⟨z', hz1, hz2⟩ := ofVal_sim (ρ := ρ) ok hz
      cases hko : keyOk C.S kt u k with
      | false => rw [hko] at hq; cases hq
      | true =>
        rw [hko] at hq
        simp only [cond_true] at hq
        cases hx with
        | map _ i hi =>
          obtain ⟨es', hw, he⟩ := H.toHL.map hg hi
          have hU := run_underlying (w := w) (ok.und hu)
          unfold Instr.mapEntry
          rw [Sem.run_bind, hU]
          simp only [Result.andThen]
          rw [Sem.run_bind, run_getObj C.P hw]
          simp only [Result.andThen]
          rw [Sem.run_bind, keyOk_sim ok _ hku hko hk]
          simp only [Result.andThen]
          split at hq
          · rename_i j v0 hf
            obtain ⟨r', h5, h6⟩ := findKey_sim (w := w) ok hku hk hf he
            obtain ⟨u0, rfl, h7⟩ := h6
            rw [Sem.run_bind, h5]
            simp only [Result.andThen]
            split at hq
            · rename_i e0 he0
              obtain ⟨m0, hm0, m1, m2, m3⟩ := he.get he0
              cases hsb : sameBitsD e0.key k with
              | false => rw [hsb] at hq; cases hq
              | true =>
                rw [hsb] at hq
                cases hq
                have hm : es'[j]? = some m0 := by simpa using hm0
                rw [hm]
                simp only [Option.map_some, Option.getD_some]
                rw [Sem.run_bind, run_keyThatStays C.P (sameBits_sim hsb m1 hk 9999)]
                simp only [Result.andThen]
                rw [Sem.run_bind, run_setObj C.P hw]
                simp only [Result.andThen]
                refine ⟨_, _, rfl, .tuple _ [u0, goInt m0.born] (.cons _ _ _ _ h7 (.cons _ _ _ _ (by rw [m3]; exact .int _ _) .nil)), H.set ok hg hi ⟨_, rfl, ?_⟩, Stp.set _ hg hi⟩
                rw [Array.toList_modify]
                exact he.modify j _ hm0 hk m2 m3
            · cases hq
          · rename_i hf
            cases hq
            obtain ⟨r', h5, h6⟩ := findKey_sim (w := w) ok hku hk hf he
            cases h6
            rw [Sem.run_bind, h5]
            simp only [Result.andThen]
            rw [Sem.run_bind, hz2]
            simp only [Result.andThen]
            rw [Sem.run_bind, run_setObj C.P hw]
            simp only [Result.andThen]
            refine ⟨_, _, rfl, .tuple _ [z', goInt clock] (.cons _ _ _ _ hz1 (.cons _ _ _ _ (.int _ _) .nil)), H.set ok hg hi ⟨_, rfl, ?_⟩, Stp.set _ hg hi⟩
            rw [Array.toList_push]
            exact he.push hk hz1 rfl
          · cases hq
    · cases hq
  · cases hq

end Go.Dm
end

section
namespace Go.Dm
variable {C : Ctx} {ρ : Ren} {h : Heap} {w : World} {n : Nat} {e : E} {a : Act}

theorem findBorn_sim {b : Nat} : ∀ {es : List DEntry} {es' : List MapEntry} {j i : Nat} {d : DEntry}, findBorn b es j = some (i, d) → ERs ρ es es' →
    j ≤ i ∧ es'.findIdx? (fun e => (e.born : Int) == (b : Int)) = some (i - j) ∧ es[i - j]? = some d
  | [], _, j, i, d, h, _ => by cases h
  | x :: es, _, j, i, d, h, .cons _ m _ ms h1 h2 h3 hs => by
    unfold findBorn at h
    rw [beqD] at h
    by_cases hb : x.born = b
    · rw [decide_eq_true hb] at h
      cases h
      refine ⟨Nat.le_refl _, ?_, by simp⟩
      rw [List.findIdx?_cons, if_pos (by rw [← h3, hb]; simp)]
      simp
    · rw [decide_eq_false hb] at h
      obtain ⟨g1, g2, g3⟩ := findBorn_sim (es := es) h hs
      refine ⟨by omega, ?_, ?_⟩
      · rw [List.findIdx?_cons, if_neg (by rw [← h3]; simp; omega), g2]
        simp only [Option.map_some]
        congr 1
        omega
      · rw [show i - j = (i - (j + 1)) + 1 from by omega]
        simpa using g3

theorem run_asInt (P : Program) (k : IntKind) (n : Int) : (asInt (.int k n)).run P w = .ok n w := rfl

theorem entryStoreD_sim (ok : C.Ok) (H : HR C ρ h w) {t : TypeId} {x s v : DV} {h' : Heap} {x' s' v' : Value} (hq : entryStoreD h x s v = some h') (hx : VR ρ x x') (hs : VR ρ s s') (hv : VR ρ v v') :
    ∃ w', (Instr.entryStore t x' s' v').run C.P w = .ok () w' ∧ HR C ρ h' w' ∧ Stp ρ h w ρ h' w' := by
  unfold entryStoreD at hq
  split at hq
  · rename_i r b hb
    obtain ⟨k, rfl⟩ := natOf_sim hb hs
    split at hq
    · rename_i es clock hg
      split at hq
      · rename_i i0 d hf
        cases hq
        cases hx with
        | map _ i hi =>
          obtain ⟨es', hw, he⟩ := H.toHL.map hg hi
          obtain ⟨-, g2, g3⟩ := findBorn_sim hf he
          simp only [Nat.sub_zero] at g2 g3
          unfold Instr.entryStore
          show ∃ w', Sem.run C.P (getObj i.b >>= _) w = _ ∧ _
          rw [Sem.run_bind, run_getObj C.P hw]
          simp only [Result.andThen]
          rw [Sem.run_bind, run_asInt]
          simp only [Result.andThen]
          have g4 : es'.findIdx? (fun e => (e.born : Int) == (b : Int)) = some i0 := by
            cases es'
            simpa using g2
          rw [g4]
          simp only
          rw [run_setObj C.P hw]
          refine ⟨_, rfl, H.set ok hg hi ⟨_, rfl, ?_⟩, Stp.set _ hg hi⟩
          obtain ⟨m0, hm0, m1, m2, m3⟩ := he.get g3
          rw [Array.toList_modify]
          exact he.modify i0 _ hm0 m1 hv m3
      · cases hq
    · cases hq
  · cases hq

end Go.Dm
end

section
namespace Go.Dm
variable {C : Ctx} {ρ : Ren} {h : Heap} {w : World} {n : Nat} {e : E} {a : Act}

/-- a capacity is drawn -/
theorem run_appendCap (P : Program) (need old : Nat) (t : TypeId) :
    ∃ cap k, (choose (.appendCap need old t)).run P w = .ok cap { w with drawn := k } ∧ need ≤ cap := by
  refine ⟨_, w.drawn + 1, rfl, ?_⟩
  show need ≤ need + _
  omega

theorem Stp.drew (ρ : Ren) (h : Heap) (w : World) (k : Nat) : Stp ρ h w ρ h { w with drawn := k } :=
  ⟨Keeps.drew _ _ _ _, Ren.le_refl _, Nat.le_refl _, fun id o i hg hi _ => ⟨id, o, i, hg, hi, rfl⟩, (fun id i h1 h2 => by rw [h2] at h1; cases h1), fun _ _ h => h⟩

/-- a new block, as a step -/
theorem Stp.add {h' : Heap} {id : Nat} {i : BI} {b : DObj} (ro : Obj) (hf : ρ id = none) (hi : i.b = w.heap.size)
    (hh : ∀ j, h'.get j = if j = id then some b else h.get j) (hn : h.next ≤ h'.next) (hge : h.next ≤ id) : Stp ρ h w (ρ.add id i) h' (pushW w ro) := by
  refine ⟨Keeps.push _ _ _ _, Ren.le_add hf, hn, fun j o p hg hp hl => ?_, fun j p h1 h2 => ?_, fun j hj hg => by rw [hh, if_neg (by omega)]; exact hg⟩
  · by_cases e : j = id
    · subst e
      rw [Ren.add_self] at hp; cases hp
      omega
    · rw [hh, if_neg e] at hg
      rw [Ren.add_ne e] at hp
      exact ⟨j, o, p, hg, hp, rfl⟩
  · by_cases e : j = id
    · omega
    · rw [Ren.add_ne e, h2] at h1; cases h1

end Go.Dm
end

section
namespace Go.Dm
variable {C : Ctx} {ρ : Ren} {h : Heap} {w : World} {n : Nat} {e : E} {a : Act}

theorem bytesD_len : ∀ (k m : Nat), (bytesD k m).length = k
  | 0, _ => rfl
  | k + 1, m => by rw [bytesD, List.length_cons, bytesD_len k]
theorem ones_bytesD : ∀ (k m : Nat), ones (bytesD k m) = true
  | 0, _ => rfl
  | k + 1, m => by rw [bytesD, ones, ones_bytesD k]; rfl

theorem bytesF_sim : ∀ (k m : Nat), VRs ρ (bytesD k m) ((bytesF k m).map fun b => Value.int .u8 b.toNat)
  | 0, _ => .nil
  | k + 1, m => by
    have h1 : (UInt8.ofNat (m % 256)).toNat = m % 256 := by
      rw [UInt8.toNat_ofNat']; omega
    show VRs ρ (DV.int .u8 (.ofNat (m % 256)) :: bytesD k (m / 256)) (Value.int .u8 (((UInt8.ofNat (m % 256)).toNat : Nat) : Int) :: (bytesF k (m / 256)).map fun b => Value.int .u8 b.toNat)
    rw [h1]
    exact .cons _ _ _ _ (.int _ _) (bytesF_sim k (m / 256))

theorem bytesD_sim (s : BS) : VRs ρ (bytesD s.len s.num) (s.ba.data.map fun b => Value.int .u8 b.toNat).toList := by
  rw [Array.toList_map]
  exact bytesF_sim s.len s.num

end Go.Dm
end

section
namespace Go.Dm
variable {C : Ctx} {ρ : Ren} {h : Heap} {w : World} {n : Nat} {e : E} {a : Act}

theorem setW_pushW (o o' : Obj) : setW (pushW w o) w.heap.size o' = pushW w o' := by
  unfold setW pushW
  congr 1
  apply Array.ext_getElem?
  intro j
  simp only [Array.getElem?_setIfInBounds, Array.getElem?_push, Array.size_push]
  by_cases e : w.heap.size = j
  · subst e; simp
  · rw [if_neg e, if_neg (fun x => e x.symm), if_neg (fun x => e x.symm)]

theorem run_freeze (P : Program) {b off n : Nat} {c : Array Value} {t : TypeId} {fr : Nat × Nat} (hb : w.heap[b]? = some (.cells c t fr)) (hn : n ≠ 0) :
    (freeze ⟨b, off, none⟩ n).run P w = .ok () (setW w b (.cells c t (if fr.1 == fr.2 then (off, off + n) else (min fr.1 off, max fr.2 (off + n))))) := by
  show Result.ok () (w.freeze ⟨b, off, none⟩ n) = _
  congr 1
  unfold World.freeze setW
  rw [if_neg hn]
  congr 1
  apply Array.ext_getElem?
  intro j
  rw [Array.getElem?_modify, Array.getElem?_setIfInBounds]
  have hlt : b < w.heap.size := (Array.getElem?_eq_some_iff.1 hb).1
  by_cases e : b = j
  · subst e
    rw [if_pos rfl, if_pos rfl, if_pos hlt, hb]
    rfl
  · rw [if_neg e, if_neg e]

theorem convBytesD_sim (ok : C.Ok) (H : HR C ρ h w) {s d t : TypeId} {x v : DV} {a : Value} {h' : Heap} (hs : Dm.und C.S s = some .string) (hd : Dm.und C.S d = some (.slice t))
    (ht : Dm.und C.S t = some (.int .u8)) (hq : convBytesD t h x = some (.val v h')) (ha : VR ρ x a) :
    ∃ u w' ρ', (convert s d a).run C.P w = .ok u w' ∧ VR ρ' v u ∧ HR C ρ' h' w' ∧ Stp ρ h w ρ' h' w' := by
  unfold convBytesD at hq
  split at hq
  · rename_i b
    cases hq
    cases ha with
    | str _ hb =>
      obtain ⟨cap, k, hc, hle⟩ := run_appendCap (w := w) C.P b.ba.size 0 t
      rw [b.ba_size] at hle
      have hbs := bytesD_sim (ρ := ρ) b
      generalize hE : (b.ba.data.map fun b => Value.int .u8 b.toNat) = elems at hbs
      have hl : elems.size = b.len := by
        have := hbs.length
        rw [bytesD_len] at this
        simpa using this.symm
      have hf : ρ h.next = none := H.next _ (Nat.le_refl _)
      have H1 : HR C ρ h { w with drawn := k } := H.drew ok k
      let w1 : World := { w with drawn := k }
      let row : Array Value := elems ++ Array.replicate (cap - b.len) (.int .u8 0)
      have hsz : row.size = cap := by simp [row, hl]; omega
      let bi : BI := ⟨w.heap.size, cap⟩
      have hrun : (convert s d (.string b.ba)).run C.P w = .ok (.slice (some ⟨w.heap.size, 0, none⟩) b.len cap) (pushW w1 (.cells row t (cap, cap + 1))) := by
        unfold convert
        rw [Sem.run_bind, run_underlying (ok.und hs)]
        simp only [Result.andThen]
        rw [Sem.run_bind, run_underlying (ok.und hd)]
        simp only [Result.andThen]
        rw [Sem.run_bind, run_underlying (ok.und ht)]
        simp only [Result.andThen]
        unfold Conv.stringToBytes
        rw [Sem.run_bind, hc]
        simp only [Result.andThen]
        rw [Sem.run_bind, hE, b.ba_size, run_newRow]
        simp only [Result.andThen]
        have hnew : (pushW w1 (.cells row t (0, 0))).heap[w.heap.size]? = some (.cells row t (0, 0)) := pushW_new (w := w1) _
        unfold markStringish
        rw [Sem.run_bind, Sem.run_bind, run_shape C.P hnew]
        simp only [Result.andThen]
        rw [run_freeze C.P hnew (by decide)]
        simp only [hsz]
        show Result.ok _ (setW (pushW w1 _) w1.heap.size _) = _
        rw [setW_pushW]
        rfl
      have ho : OR (ρ.add h.next bi) bi (.cells (putN .lf 0 (bytesD b.len b.num)) b.len t true false) (.cells row t (cap, cap + 1)) := by
        refine ⟨row, (cap, cap + 1), rfl, hsz, by omega, (fun e => by cases e), fun _ => .inl (by omega), (fun _ e => by cases e), fun j hj => ?_⟩
        have hj' : j < (bytesD b.len b.num).length := by rw [bytesD_len]; exact hj
        have hx : (bytesD b.len b.num)[j]? = some (bytesD b.len b.num)[j] := List.getElem?_eq_getElem hj'
        obtain ⟨v, g1, g2⟩ := hbs.get hx
        refine ⟨_, v, by rw [putN_in (by omega)]; simp, ?_, ones_all (ones_bytesD _ _) _ (List.getElem_mem _), g2.mono (Ren.le_add hf)⟩
        have : j < elems.size := by omega
        simp only [row]
        rw [Array.getElem?_append_left this]
        simpa using g1
      refine ⟨_, _, ρ.add h.next bi, hrun, ?_, ?_, ?_⟩
      · exact .slice _ _ _ _ _ bi cap Ren.add_self (by omega) (fun _ => by simp [bi]) hle
      · exact H1.add ok hf ho rfl (Heap.get_new h · _) (by rw [Heap.next_new]; omega) (by rw [Heap.next_new]; omega)
      · exact (Stp.drew ρ h w k).trans (Stp.add _ hf rfl (Heap.get_new h · _) (by rw [Heap.next_new]; omega) (Nat.le_refl _))
  · cases hq

end Go.Dm
end

section
namespace Go.Dm
variable {C : Ctx} {ρ : Ren} {h : Heap} {w : World} {n : Nat} {e : E} {a : Act}

theorem copyD_sim (ok : C.Ok) (H : HR C ρ h w) {t : TypeId} {ts : Array TypeId} {d s v : DV} {h' : Heap} {d' s' : Value} {args : Array Value} (t0 : TypeId) (ht : ts[0]? = some t)
    (h0 : args[0]? = some d') (h1 : args[1]? = some s') (hq : copyD C.S h t d s = some (v, h')) (hd : VR ρ d d') (hs : VR ρ s s') :
    ∃ u w', (Builtin.copy_ ts t0 args).run C.P w = .ok u w' ∧ VR ρ v u ∧ HR C ρ h' w' ∧ Stp ρ h w ρ h' w' := by
  unfold copyD at hq
  split at hq
  · rename_i el hu
    split at hq
    · rename_i i hi
      split at hq
      · rename_i id off len _ _ id' off' len' _ _
        cases hd with
        | slice _ _ _ _ _ bi cap hb _ _ _ =>
          cases hs with
          | slice _ _ _ _ _ bj cap' hc _ _ _ =>
            simp only at hq
            split at hq
            · rename_i l hl
              split at hq
              · rename_i h2 hst
                cases hq
                obtain ⟨l', g1, g2, g3⟩ := run_loadCells_sim (C := C) H.toHL hl hc
                obtain ⟨w', r1, r2, r3⟩ := storeN_sim ok H hst hb g1
                refine ⟨goInt (Nat.min len' len), w', ?_, .int _ _, r2, r3⟩
                unfold Builtin.copy_
                simp only [ht, h0, h1]
                rw [Sem.run_bind, run_underlying (ok.und hu)]
                simp only [Result.andThen]
                rw [Sem.run_bind]
                show Result.andThen (.ok len' w) _ = _
                simp only [Result.andThen]
                rw [Sem.run_bind, run_sizeOf' ok hi]
                simp only [Result.andThen]
                rw [Sem.run_bind]
                show Result.andThen ((loadCells ⟨bj.b, off', none⟩ (Nat.min len' len * i.size)).run C.P w) _ = _
                rw [g3]
                simp only [Result.andThen]
                rw [Sem.run_bind, r1]
                rfl
              · cases hq
            · cases hq
      · cases hq
    · cases hq
  · cases hq

end Go.Dm
end

section
namespace Go.Dm
variable {C : Ctx} {ρ : Ren} {h : Heap} {w : World} {n : Nat} {e : E} {a : Act}

theorem newsD_sim (H : HL ρ h w) {sz n : Nat} {x : DV} {x' : Value} {news : List DV} (hq : newsD h sz x = some (n, news)) (hx : VR ρ x x') :
    (Builtin.lenOf x').run C.P w = .ok n w ∧ ∃ us : Array Value, (Builtin.firstCells sz n x').run C.P w = .ok us w ∧ VRs ρ news us.toList := by
  unfold newsD at hq
  split at hq
  · cases hq; cases hx
    exact ⟨rfl, #[], rfl, .nil⟩
  · rename_i id off len _ _
    split at hq
    · rename_i l hl
      cases hq
      cases hx with
      | slice _ _ _ _ _ bi cap hb _ _ _ =>
        obtain ⟨l', g1, g2, g3⟩ := run_loadCells_sim (C := C) H hl hb
        exact ⟨rfl, l'.toArray, g3, g1⟩
    · cases hq
  · rename_i s
    rw [beqD] at hq
    by_cases e : sz = 1
    · rw [decide_eq_true e] at hq
      cases hq
      cases hx with
      | str _ hs =>
        refine ⟨by show Result.ok s.ba.size w = _; rw [s.ba_size], _, rfl, ?_⟩
        have : s.ba.extract 0 s.len = s.ba := by
          rw [← s.ba_size]
          exact ByteArray.extract_zero_size
        rw [this]
        exact bytesD_sim s
    · rw [decide_eq_false e] at hq; cases hq
  · cases hq

end Go.Dm
end

section
namespace Go.Dm
variable {C : Ctx} {ρ : Ren} {h : Heap} {w : World} {n : Nat} {e : E} {a : Act}

/-- what append does behind its first questions -/
noncomputable def appTail (el : TypeId) (size : Nat) (base : Option Addr) (sLen sCap n : Nat) (s x : Value) : Sem Value := do
  if sLen + n ≤ sCap then
    let new ← Builtin.firstCells size n x
    if let some a := base then storeCells (a.add (sLen * size)) new.toList
    pure (.slice base (sLen + n) sCap)
  else
    if ((sLen + n : Nat) : Int) > IntKind.i64.max ∧ (false ∨ (← typeInfo el).bytes = 0) then runtimePanic (.error "growslice: len out of range")
    if Builtin.nextslicecap (sLen + n) sCap * (← typeInfo el).bytes > 2 ^ 48 then (do
      if !(← Builtin.mayShare size sLen n base x) then mark .noRoom
      unsupported (.resourceLimit "append: a slice or a string whose bytes no memory bears"))
    let newCap ← choose (.appendCap (sLen + n) sCap el)
    askRoom (newCap * (← typeInfo el).bytes)
    let old ← Builtin.firstCells size sLen s
    let new ← Builtin.firstCells size n x
    let rest := Builtin.zeroCells (← zeroValue el).cells (newCap - (sLen + n))
    pure (.slice (some (← newRow el (old ++ new ++ rest))) (sLen + n) newCap)

theorem append_head (ok : C.Ok) {t t2 el : TypeId} {ts : Array TypeId} {u2 : TypeDesc} {i : TypeInfo} (t0 : TypeId) {base : Option Addr} {sLen sCap n : Nat} {x' : Value} {args : Array Value} (ht : ts[0]? = some t)
    (ht2 : ts[1]? = some t2) (h0 : args[0]? = some (.slice base sLen sCap)) (h1 : args[1]? = some x') (hu : Dm.und C.S t = some (.slice el)) (hu2 : Dm.und C.S t2 = some u2) (hn : ∀ k, u2 ≠ .int k)
    (hi : C.S.ty el = some i) (hl : (Builtin.lenOf x').run C.P w = .ok n w) :
    (Builtin.append_ ts t0 args).run C.P w = (appTail el i.size base sLen sCap n (.slice base sLen sCap) x').run C.P w := by
  unfold Builtin.append_
  simp only [ht, ht2, h0, h1]
  rw [Sem.run_bind, run_underlying (ok.und hu)]
  simp only [Result.andThen]
  rw [Sem.run_bind, run_sizeOf' ok hi]
  simp only [Result.andThen]
  rw [Sem.run_bind, run_underlying (ok.und hu2)]
  simp only [Result.andThen]
  rw [Sem.run_bind, Sem.run_pure]
  simp only [Result.andThen]
  simp only [Bool.false_eq_true, if_false, Bool.not_false, if_true]
  rw [Sem.run_bind, hl]
  simp only [Result.andThen]
  unfold appTail
  simp only [Bool.false_eq_true]
  rfl

end Go.Dm
end

section
namespace Go.Dm
variable {C : Ctx} {ρ : Ren} {h : Heap} {w : World} {n : Nat} {e : E} {a : Act}

/-- in place -/
theorem appTail_in {el : TypeId} {size : Nat} {b off sLen sCap n : Nat} {s x : Value} {us : Array Value} {w' : World} (hle : sLen + n ≤ sCap) (hf : (Builtin.firstCells size n x).run C.P w = .ok us w)
    (hs : (storeCells ⟨b, off + sLen * size, none⟩ us.toList).run C.P w = .ok () w') :
    (appTail el size (some ⟨b, off, none⟩) sLen sCap n s x).run C.P w = .ok (.slice (some ⟨b, off, none⟩) (sLen + n) sCap) w' := by
  unfold appTail
  rw [if_pos hle, Sem.run_bind, hf]
  simp only [Result.andThen, add_none]
  rw [Sem.run_bind, hs]
  rfl

/-- grown -/
theorem appTail_grow (ok : C.Ok) {el : TypeId} {i : TypeInfo} {base : Option Addr} {sLen sCap n : Nat} {s x z : Value} {us os : Array Value} (hlt : sCap < sLen + n) (hi : C.S.ty el = some i)
   
    (hf : ∀ k, (Builtin.firstCells i.size n x).run C.P { w with drawn := k } = .ok us { w with drawn := k })
    (hg : ∀ k, (Builtin.firstCells i.size sLen s).run C.P { w with drawn := k } = .ok os { w with drawn := k }) (hz : ∀ w, (zeroValue el).run C.P w = .ok z w)
    (hn : ((sLen + n : Nat) : Int) ≤ IntKind.i64.max) (hc : Builtin.nextslicecap (sLen + n) sCap * i.bytes ≤ 2 ^ 48) :
    ∃ cap k, sLen + n ≤ cap ∧ (appTail el i.size base sLen sCap n s x).run C.P w = .ok (.slice (some ⟨w.heap.size, 0, none⟩) (sLen + n) cap)
      (pushW { w with drawn := k } (.cells (os ++ us ++ Builtin.zeroCells z.cells (cap - (sLen + n))) el)) := by
  obtain ⟨cap, k, hc1, hc2⟩ := run_appendCap (w := w) C.P (sLen + n) sCap el
  refine ⟨cap, k, hc2, ?_⟩
  unfold appTail
  rw [if_neg (by omega), Sem.run_bind, run_typeInfo' ok hi]
  simp only [Result.andThen]
  rw [if_neg (by rintro ⟨h1, h2⟩; omega)]
  rw [Sem.run_bind, run_typeInfo' ok hi]
  simp only [Result.andThen]
  rw [if_neg (by omega)]
  rw [Sem.run_bind, hc1]
  simp only [Result.andThen]
  rw [Sem.run_bind, run_typeInfo' ok hi]
  simp only [Result.andThen]
  rw [Sem.run_bind, run_askRoom]
  simp only [Result.andThen]
  rw [Sem.run_bind, hg]
  simp only [Result.andThen]
  rw [Sem.run_bind, hf]
  simp only [Result.andThen]
  rw [Sem.run_bind, hz]
  simp only [Result.andThen]
  rfl

end Go.Dm
end

section
namespace Go.Dm

theorem growBy_le (m : Nat) : ∀ (r c : Nat), c ≤ 2 * m + 192 → Builtin.growBy m r c ≤ 2 * m + 192
  | 0, c, h => h
  | r + 1, c, h => by
    unfold Builtin.growBy
    by_cases e : c ≥ m
    · rw [if_pos e]; exact h
    · rw [if_neg e]; exact growBy_le m r _ (by omega)
theorem nextslicecap_le {m c : Nat} (h : c < m) : Builtin.nextslicecap m c ≤ 2 * m + 192 := by
  unfold Builtin.nextslicecap
  split
  · omega
  · split
    · omega
    · exact growBy_le m 4 c (by omega)
theorem room_ok {m c b : Nat} (h : c < m) (hm : m ≤ 33554432) (hb : b ≤ 65536) : Builtin.nextslicecap m c * b ≤ 2 ^ 48 := by
  have h1 := nextslicecap_le h
  have h2 : Builtin.nextslicecap m c * b ≤ 67109056 * 65536 := Nat.mul_le_mul (by omega) hb
  omega

end Go.Dm
end

section
namespace Go.Dm
variable {C : Ctx} {ρ : Ren} {h : Heap} {w : World} {n : Nat} {e : E} {a : Act}

/-- what an operation with an effect brings -/
def ESim (C : Ctx) (ρ : Ren) (h : Heap) (w : World) (v : DV) (h' : Heap) (s : Sem Value) : Prop :=
  ∃ u w' ρ', s.run C.P w = .ok u w' ∧ VR ρ' v u ∧ HR C ρ' h' w' ∧ Stp ρ h w ρ' h' w'

theorem zeroCells_eq (z : Array Value) (n : Nat) : Builtin.zeroCells z n = (Array.range (n * z.size)).map (z[· % z.size]!) := rfl

theorem zeroCells_size (z : Array Value) (n : Nat) : (Builtin.zeroCells z n).size = n * z.size := by
  rw [zeroCells_eq]; simp

/-- a grown row: a new block -/
theorem grow_sim (ok : C.Ok) (H : HR C ρ h w) {el : TypeId} {cs : List DV} {cs' : List Value} {o o2 : DObj} {i : TypeInfo} {z : Array Value} {need cap k : Nat} {h' : Heap} (hr : rowD el cs true = some o) (hoo : ∀ (ρ : Ren) (i : BI) (ro : Obj), OR ρ i o ro → OR ρ i o2 ro)
    (hc : VRs ρ cs cs') (hl : cs.length = need * i.size) (hz : z.size = i.size) (h1 : 1 ≤ i.size) (hcap : need ≤ cap) (hh : ∀ j, h'.get j = if j = h.next then some o2 else h.get j) (hn : h'.next = h.next + 1) :
    VR (ρ.add h.next ⟨w.heap.size, cap * i.size⟩) (.slice h.next 0 need need i.size) (.slice (some ⟨w.heap.size, 0, none⟩) need cap) ∧
    HR C (ρ.add h.next ⟨w.heap.size, cap * i.size⟩) h' (pushW { w with drawn := k } (.cells (cs'.toArray ++ Builtin.zeroCells z (cap - need)) el)) ∧
    Stp ρ h w (ρ.add h.next ⟨w.heap.size, cap * i.size⟩) h' (pushW { w with drawn := k } (.cells (cs'.toArray ++ Builtin.zeroCells z (cap - need)) el)) := by
  have hf : ρ h.next = none := H.next _ (Nat.le_refl _)
  have H1 : HR C ρ h { w with drawn := k } := H.drew ok k
  have hs : cap * i.size = need * i.size + (cap - need) * i.size := by rw [← Nat.add_mul]; congr 1; omega
  have ho : OR (ρ.add h.next ⟨w.heap.size, cap * i.size⟩) ⟨w.heap.size, cap * i.size⟩ o2 (.cells (cs'.toArray ++ Builtin.zeroCells z (cap - need)) el (0, 0)) := by
    have := rowD_sim (ρ := ρ.add h.next ⟨w.heap.size, cap * i.size⟩) hr (hc.mono (Ren.le_add hf)) ((cap - need) * i.size) (fun e => by cases e) (Builtin.zeroCells z (cap - need)).toList
      (by simp [zeroCells_size, hz]) ⟨w.heap.size, cap * i.size⟩ (by show cap * i.size = _; rw [hl, hs])
    have e : (cs' ++ (Builtin.zeroCells z (cap - need)).toList).toArray = cs'.toArray ++ Builtin.zeroCells z (cap - need) := by
      apply Array.ext'; simp
    rw [e] at this
    exact hoo _ _ _ this
  refine ⟨.slice _ _ _ _ _ _ _ Ren.add_self (by omega) (fun _ => by show 0 + cap * i.size = cap * i.size; omega) hcap, ?_, ?_⟩
  · exact H1.add ok hf ho rfl hh (by omega) (by omega)
  · exact (Stp.drew ρ h w k).trans (Stp.add _ hf rfl hh (by omega) (Nat.le_refl _))

end Go.Dm
end

section
namespace Go.Dm
variable {C : Ctx} {ρ : Ren} {h : Heap} {w : World} {n : Nat} {e : E} {a : Act}

theorem HL.ofDrew (H : HL ρ h w) (k : Nat) : HL ρ h { w with drawn := k } := ⟨H.live, H.inj⟩

/-- in place, the capacity known -/
theorem app_in (ok : C.Ok) (H : HR C ρ h w) {el : TypeId} {size id off len cap g n cap' : Nat} {bi : BI} {h' : Heap} {news : List DV} {us : Array Value} {s x' : Value} (hb : ρ id = some bi)
    (hle : len + n ≤ cap) (hc : cap ≤ cap') (hex : g = 0 → cap' = cap) (hgr : g ≠ 0 → off + cap' * g = bi.sz) (hf : (Builtin.firstCells size n x').run C.P w = .ok us w) (hv : VRs ρ news us.toList)
    (hs : storeN h id (off + len * size) news = some h') :
    ESim C ρ h w (.slice id off (len + n) cap g) h' (appTail el size (some ⟨bi.b, off, none⟩) len cap' n s x') := by
  obtain ⟨w', r1, r2, r3⟩ := storeN_sim ok H hs hb hv
  exact ⟨_, w', ρ, appTail_in (by omega) hf r1, .slice _ _ _ _ _ bi cap' hb hex hgr hc, r2, r3⟩

end Go.Dm
end

section
namespace Go.Dm
variable {C : Ctx} {ρ : Ren} {h : Heap} {w : World} {n : Nat} {e : E} {a : Act}

/-- a block gets a new name and a new row -/
theorem HR.move (ok : C.Ok) (H : HR C ρ h w) {id : Nat} {o o' : DObj} {i : BI} {ro : Obj} (hg : h.get id = some o) (hi : ρ id = some i) (ho : OR (ρ.add h.next i) i o' ro) :
    HR C (ρ.add h.next i) ((h.del id).new o') (setW w i.b ro) ∧ Stp ρ h w (ρ.add h.next i) ((h.del id).new o') (setW w i.b ro) := by
  have hf : ρ h.next = none := H.next _ (Nat.le_refl _)
  have hlt := H.toHL.lt hg hi
  have hne : id ≠ h.next := fun e => by rw [e, hf] at hi; cases hi
  have hget : ∀ j, ((h.del id).new o').get j = if j = h.next then some o' else if j = id then none else h.get j := fun j => by
    rw [Heap.get_new, Heap.next_del, Heap.get_del]
  have hnext : ((h.del id).new o').next = h.next + 1 := by rw [Heap.next_new, Heap.next_del]
  have old : ∀ j x, ((h.del id).new o').get j = some x → j ≠ h.next → j ≠ id ∧ h.get j = some x := fun j x hj hn => by
    rw [hget, if_neg hn] at hj
    by_cases e : j = id
    · rw [if_pos e] at hj; cases hj
    · rw [if_neg e] at hj; exact ⟨e, hj⟩
  refine ⟨⟨⟨fun j x hj => ?_, fun j k x y p q hj hk hp hq hpq => ?_⟩, fun j hj => ?_, fun j p hp => ?_, by rw [setW_size]; exact H.low, ?_⟩, ⟨rfl, rfl, rfl, by rw [setW_size]; exact Nat.le_refl _, ?_⟩, Ren.le_add hf, by omega, ?_, ?_, ?_⟩
  · by_cases e : j = h.next
    · subst e
      rw [hget, if_pos rfl] at hj; cases hj
      exact ⟨i, ro, Ren.add_self, setW_self _ _ hlt, ho⟩
    · obtain ⟨e2, g⟩ := old j x hj e
      obtain ⟨i', ro', h1, h2, h3⟩ := H.live j x g
      refine ⟨i', ro', by rw [Ren.add_ne e]; exact h1, ?_, h3.mono (Ren.le_add hf)⟩
      rw [setW_ne _ _ _ fun eb => e2 (H.inj _ _ _ _ _ _ g hg h1 hi eb)]
      exact h2
  · by_cases ej : j = h.next
    · by_cases ek : k = h.next
      · rw [ej, ek]
      · obtain ⟨e2, g⟩ := old k y hk ek
        subst ej
        rw [Ren.add_self] at hp; cases hp
        rw [Ren.add_ne ek] at hq
        exact absurd (H.inj _ _ _ _ _ _ g hg hq hi hpq.symm) e2
    · obtain ⟨e2, g⟩ := old j x hj ej
      rw [Ren.add_ne ej] at hp
      by_cases ek : k = h.next
      · subst ek
        rw [Ren.add_self] at hq; cases hq
        exact absurd (H.inj _ _ _ _ _ _ g hg hp hi hpq) e2
      · obtain ⟨e3, g'⟩ := old k y hk ek
        rw [Ren.add_ne ek] at hq
        exact H.inj _ _ _ _ _ _ g g' hp hq hpq
  · rw [Ren.add_ne (by omega)]; exact H.next j (by omega)
  · by_cases e : j = h.next
    · subst e; rw [Ren.add_self] at hp; cases hp; exact H.base id i hi
    · rw [Ren.add_ne e] at hp; exact H.base j p hp
  · refine ok.same w _ H.old rfl rfl rfl (by rw [setW_size]; exact H.low) fun b hb => setW_ne _ _ _ ?_
    have := H.base id i hi
    omega
  · exact fun b hb hn => setW_ne _ _ _ fun e => hn id o i hg hi e.symm
  · intro j x p hj hp _
    by_cases e : j = h.next
    · subst e; rw [Ren.add_self] at hp; cases hp; exact ⟨id, o, i, hg, hi, rfl⟩
    · obtain ⟨-, g⟩ := old j x hj e
      rw [Ren.add_ne e] at hp
      exact ⟨j, x, p, g, hp, rfl⟩
  · intro j p h1 h2
    by_cases e : j = h.next
    · omega
    · rw [Ren.add_ne e, h2] at h1; cases h1
  · intro j hj hg'
    rw [hget, if_neg (by omega)]
    split
    · rfl
    · exact hg'

end Go.Dm
end

section
namespace Go.Dm
variable {C : Ctx} {ρ : Ren} {h : Heap} {w : World} {n : Nat} {e : E} {a : Act}

theorem HR.del (H : HR C ρ h w) (id : Nat) : HR C ρ (h.del id) w := by
  have g : ∀ j x, (h.del id).get j = some x → h.get j = some x := fun j x hj => by
    rw [Heap.get_del] at hj
    by_cases e : j = id
    · rw [if_pos e] at hj; cases hj
    · rwa [if_neg e] at hj
  exact ⟨⟨fun j x hj => H.live j x (g j x hj), fun j k x y p q hj hk => H.inj j k x y p q (g j x hj) (g k y hk)⟩, fun j hj => H.next j (by rwa [Heap.next_del] at hj), H.base, H.low, H.old⟩
theorem Stp.del (ρ : Ren) (h : Heap) (w : World) (id : Nat) : Stp ρ h w ρ (h.del id) w := by
  refine ⟨Keeps.refl _ _ _, Ren.le_refl _, by rw [Heap.next_del]; exact Nat.le_refl _, fun j x p hj hp _ => ?_, (fun j p h1 h2 => by rw [h2] at h1; cases h1), fun j _ hj => ?_⟩
  · rw [Heap.get_del] at hj
    by_cases e : j = id
    · rw [if_pos e] at hj; cases hj
    · rw [if_neg e] at hj; exact ⟨j, x, p, hj, hp, rfl⟩
  · rw [Heap.get_del]
    split
    · rfl
    · exact hj

end Go.Dm
end

section
namespace Go.Dm
variable {C : Ctx} {ρ : Ren} {h : Heap} {w : World} {n : Nat} {e : E} {a : Act}

/-- not in place, the old row forgotten or kept -/
theorem app_grow (ok : C.Ok) {h0 : Heap} (H0 : HR C ρ h0 w) (S0 : Stp ρ h w ρ h0 w) (hnx : h0.next = h.next) {el : TypeId} {i : TypeInfo} {base : Option Addr} {len n cap' : Nat} {h' : Heap}
    {os ns : List DV} {os' us : Array Value} {s' x' : Value} {z : DV} {o o2 : DObj} (hlt : cap' < len + n) (hmax : len + n ≤ 33554432) (hi : C.S.ty el = some i) (hbt : i.bytes ≤ 65536) (hz : zeroD C.S el = some z)
    (hzl : z.cellsL.length = i.size) (h1 : 1 ≤ i.size) (ho : ∀ k, (Builtin.firstCells i.size len s').run C.P { w with drawn := k } = .ok os' { w with drawn := k })
    (hn : ∀ k, (Builtin.firstCells i.size n x').run C.P { w with drawn := k } = .ok us { w with drawn := k }) (hov : VRs ρ os os'.toList) (hnv : VRs ρ ns us.toList)
    (hl : (os ++ ns).length = (len + n) * i.size) (hr : rowD el (os ++ ns) true = some o) (hoo : ∀ (ρ : Ren) (i : BI) (ro : Obj), OR ρ i o ro → OR ρ i o2 ro) (hh : ∀ j, h'.get j = if j = h0.next then some o2 else h0.get j) (hn' : h'.next = h0.next + 1) :
    ESim C ρ h w (.slice h.next 0 (len + n) (len + n) i.size) h' (appTail el i.size base len cap' n s' x') := by
  obtain ⟨z', hz1, hz2⟩ := ofVal_sim (ρ := ρ) ok hz
  have hzs : z'.cells.size = i.size := by rw [hz1.cells_size, hzl]
  obtain ⟨cap, k, g1, g2⟩ := appTail_grow (base := base) ok hlt hi hn ho hz2 (by show ((len + n : Nat) : Int) ≤ 9223372036854775807; omega) (room_ok hlt hmax hbt)
  obtain ⟨a1, a2, a3⟩ := grow_sim (k := k) ok H0 hr hoo (hov.append hnv) hl hzs h1 g1 hh hn'
  have e : (os'.toList ++ us.toList).toArray = os' ++ us := by apply Array.ext'; simp
  rw [e] at a2 a3
  rw [hnx] at a1 a2 a3
  exact ⟨_, _, _, g2, a1, a2, S0.trans a3⟩

end Go.Dm
end

section
namespace Go.Dm
variable {C : Ctx} {ρ : Ren} {h : Heap} {w : World} {n : Nat} {e : E} {a : Act}

theorem run_loadCells_k {id off n : Nat} {l : List DV} {i : BI} (P : Program) (H : HL ρ h w) (hl : loadN h id off n = some l) (hi : ρ id = some i) :
    ∃ l' : List Value, VRs ρ l l' ∧ l.length = n ∧ ∀ k, (loadCells ⟨i.b, off, none⟩ n).run P { w with drawn := k } = .ok l'.toArray { w with drawn := k } := by
  obtain ⟨l', h1, h2, h3, h4⟩ := loadN_sim H hl hi
  refine ⟨l', h1, h2, fun k => ?_⟩
  have hlen : l'.length = n := by rw [← h1.length, h2]
  have := run_loadCells_list (P := P) (w := { w with drawn := k }) ⟨i.b, off, none⟩ l' (fun j v hj => by rw [add_none]; exact h3 j v hj)
  rwa [hlen] at this

end Go.Dm
end

section
namespace Go.Dm
variable {C : Ctx} {ρ : Ren} {h : Heap} {w : World} {n : Nat} {e : E} {a : Act}

theorem newsD_k (P : Program) (H : HL ρ h w) {sz n : Nat} {x : DV} {x' : Value} {news : List DV} (hq : newsD h sz x = some (n, news)) (hx : VR ρ x x') :
    (Builtin.lenOf x').run P w = .ok n w ∧ ∃ us : Array Value, (∀ k, (Builtin.firstCells sz n x').run P { w with drawn := k } = .ok us { w with drawn := k }) ∧ VRs ρ news us.toList := by
  unfold newsD at hq
  split at hq
  · cases hq; cases hx
    exact ⟨rfl, #[], fun _ => rfl, .nil⟩
  · rename_i id off len _ _
    split at hq
    · rename_i l hl
      cases hq
      cases hx with
      | slice _ _ _ _ _ bi cap hb _ _ _ =>
        obtain ⟨l', g1, g2, g3⟩ := run_loadCells_k P H hl hb
        exact ⟨rfl, l'.toArray, g3, g1⟩
    · cases hq
  · rename_i s
    rw [beqD] at hq
    by_cases e : sz = 1
    · rw [decide_eq_true e] at hq
      cases hq
      cases hx with
      | str _ hs =>
        refine ⟨by show Result.ok s.ba.size w = _; rw [s.ba_size], _, fun _ => rfl, ?_⟩
        have : s.ba.extract 0 s.len = s.ba := by
          rw [← s.ba_size]
          exact ByteArray.extract_zero_size
        rw [this]
        exact bytesD_sim s
    · rw [decide_eq_false e] at hq; cases hq
  · cases hq

end Go.Dm
end

section
namespace Go.Dm
variable {C : Ctx} {ρ : Ren} {h : Heap} {w : World} {n : Nat} {e : E} {a : Act}

theorem getN_ex {c : T DV} : ∀ {n off : Nat}, (∀ k, k < n → ∃ d, c.get (off + k) = some d) → ∃ l, getN c off n = some l
  | 0, off, _ => ⟨[], rfl⟩
  | n + 1, off, hk => by
    obtain ⟨d, hd⟩ := hk 0 (by omega)
    obtain ⟨l, hl⟩ := getN_ex (c := c) (n := n) (off := off + 1) fun k h => by
      obtain ⟨d, hd⟩ := hk (k + 1) (by omega)
      exact ⟨d, by rw [show off + 1 + k = off + (k + 1) from by omega]; exact hd⟩
    exact ⟨d :: l, by unfold getN; rw [show off = off + 0 from rfl, hd]; simp only [Nat.add_zero]; rw [hl]⟩

theorem ones_of : ∀ {l : List DV}, (∀ d ∈ l, d.one = true) → ones l = true
  | [], _ => rfl
  | d :: l, hh => by
    unfold ones
    rw [hh d (by simp), ones_of fun x hx => hh x (by simp [hx])]
    rfl

theorem ones_app {l m : List DV} (h1 : ones l = true) (h2 : ones m = true) : ones (l ++ m) = true :=
  ones_of fun d hd => (List.mem_append.1 hd).elim (fun h => ones_mem h1 d h) (fun h => ones_mem h2 d h)

theorem appendD_sim (ok : C.Ok) (H : HR C ρ h w) {t t2 : TypeId} {ts : Array TypeId} {s x v : DV} {h' : Heap} {s' x' : Value} {args : Array Value} (t0 : TypeId) (ht : ts[0]? = some t)
    (ht2 : ts[1]? = some t2) (h0 : args[0]? = some s') (h1 : args[1]? = some x') (hq : appendD C.S h t t2 s x = some (v, h')) (hs : VR ρ s s') (hx : VR ρ x x') :
    ESim C ρ h w v h' (Builtin.append_ ts t0 args) := by
  unfold appendD at hq
  split at hq
  · rename_i el u2 hu hu2
    split at hq
    · rename_i i z hi hz
      split at hq
      · rename_i n news hnw
        have hn : ∀ k, u2 ≠ .int k := by
          intro k e; subst e; cases hnw
        have hnw' : newsD h i.size x = some (n, news) := by
          cases u2 <;> first | exact hnw | exact absurd rfl (hn _)
        obtain ⟨f1, us, f2, f3⟩ := newsD_k C.P H.toHL hnw' hx
        have f2w : (Builtin.firstCells i.size n x').run C.P w = .ok us w := f2 w.drawn
        have head := fun (base : Option Addr) (sLen sCap : Nat) (e : s' = .slice base sLen sCap) =>
          append_head ok t0 ht ht2 (by rw [h0, e]) h1 hu hu2 hn hi f1
        have hd : ∀ (base : Option Addr) (sLen sCap : Nat), s' = .slice base sLen sCap → ESim C ρ h w v h' (appTail el i.size base sLen sCap n s' x') → ESim C ρ h w v h' (Builtin.append_ ts t0 args) := by
          rintro base sLen sCap e ⟨u, w', ρ', g1, g2⟩
          exact ⟨u, w', ρ', by rw [head base sLen sCap e, ← e]; exact g1, g2⟩
        clear head
        cases hb : (Nat.ble 1 i.size && Nat.ble i.bytes 65536 && Nat.ble 1 i.bytes && Nat.ble n 16777216 && ones news && Nat.beq news.length (n * i.size) && Nat.beq z.cellsL.length i.size) with
        | false => rw [hb] at hq; cases hq
        | true =>
          rw [hb] at hq
          simp only [cond_true] at hq
          simp only [Bool.and_eq_true, bleD, beqD, decide_eq_true_eq] at hb
          obtain ⟨⟨⟨⟨⟨⟨b1, b2⟩, b3⟩, b4⟩, b5⟩, b6⟩, b7⟩ := hb
          split at hq
          · cases hs
            refine hd _ _ _ rfl ?_
            rw [beqD] at hq
            by_cases en : n = 0
            · rw [decide_eq_true en] at hq
              cases hq
              subst en
              refine ⟨_, w, ρ, ?_, .nilslice, H, Stp.refl _ _ _⟩
              unfold appTail
              rw [if_pos (by omega), Sem.run_bind, f2w]
              rfl
            · rw [decide_eq_false en] at hq
              simp only [cond_false] at hq
              split at hq
              · rename_i o hr
                cases hq
                have := app_grow (base := none) (len := 0) (cap' := 0) (s' := .slice none 0 0) (os := []) (os' := #[]) ok H (Stp.refl ρ h w) rfl (by omega) (by omega) hi b2 hz b7 b1 (fun _ => rfl) f2 .nil f3 (by simpa using b6) hr (fun _ _ _ h => h) (Heap.get_new h · _) (Heap.next_new _ _)
                simpa using this
              · cases hq
          · rename_i id off len cap g
            cases hs with
            | slice _ _ _ _ _ bi cap' hbi hex hgr hc =>
              refine hd _ _ _ rfl ?_
              rw [bleD] at hq
              by_cases hle : len + n ≤ cap
              · rw [decide_eq_true hle] at hq
                simp only [cond_true] at hq
                split at hq
                · rename_i h2 hst
                  cases hq
                  exact app_in ok H hbi hle hc hex hgr f2w f3 hst
                · cases hq
              · rw [decide_eq_false hle] at hq
                simp only [cond_false] at hq
                cases hb2 : (Nat.ble (len + n) 16777216 && Nat.ble len cap) with
                | false => rw [hb2] at hq; cases hq
                | true =>
                  rw [hb2] at hq
                  simp only [cond_true] at hq
                  simp only [Bool.and_eq_true, bleD, decide_eq_true_eq] at hb2
                  split at hq
                  · rename_i c m e' gr frz hg
                    rw [beqD] at hq
                    by_cases g0 : g = 0
                    · rw [decide_eq_true g0] at hq
                      simp only [cond_true] at hq
                      rw [bleD] at hq
                      by_cases hm : off + len * i.size ≤ m
                      · rw [decide_eq_true hm] at hq
                        simp only [cond_true] at hq
                        split at hq
                        · rename_i old hold
                          cases hon : ones old with
                          | false => rw [hon] at hq; cases hq
                          | true =>
                            rw [hon] at hq
                            simp only [cond_true] at hq
                            split at hq
                            · rename_i o hr
                              cases hq
                              have hld : loadN h id off (len * i.size) = some old := by
                                unfold loadN
                                rw [hg]
                                simp only [bleD, hm, decide_true, cond_true]
                                exact hold
                              obtain ⟨l', g1, g2, g3⟩ := run_loadCells_k C.P H.toHL hld hbi
                              have := hex g0
                              refine app_grow (base := some ⟨bi.b, off, none⟩) (s' := .slice (some ⟨bi.b, off, none⟩) len cap') (os' := l'.toArray) ok H (Stp.refl ρ h w) rfl (by omega) (by omega) hi b2 hz b7 b1 g3 f2 g1 f3 ?_ hr (fun _ _ _ h => h) (Heap.get_new h · _) (Heap.next_new _ _)
                              rw [List.length_append, g2, b6, Nat.add_mul]
                            · cases hq
                        · cases hq
                      · rw [decide_eq_false hm] at hq; cases hq
                    · rw [decide_eq_false g0] at hq
                      simp only [cond_false] at hq
                      cases hb3 : (Nat.beq off 0 && Nat.beq el e' && gr && !frz && Nat.beq (len * i.size) m && Nat.beq g i.size) with
                      | false => rw [hb3] at hq; cases hq
                      | true =>
                        rw [hb3] at hq
                        simp only [cond_true] at hq
                        cases hq
                        simp only [Bool.and_eq_true, beqD, decide_eq_true_eq, Bool.not_eq_true'] at hb3
                        obtain ⟨⟨⟨⟨⟨c1, c2⟩, c3⟩, c4⟩, c5⟩, c6⟩ := hb3
                        subst c1 c2 c3 c4 c6
                        obtain ⟨c', fr, k1, k2, k3, k4, k5, k6, k7⟩ := H.toHL.cell hg hbi
                        have hsz := hgr g0
                        have hml : m + news.length = (len + n) * i.size := by rw [← c5, b6, Nat.add_mul]
                        by_cases hin : len + n ≤ cap'
                        · have hle2 : (len + n) * i.size ≤ c'.size := by rw [k2, ← hsz, Nat.zero_add]; exact Nat.mul_le_mul_right _ hin
                          have hul := f3.length
                          obtain ⟨c2, r1, r2, r3⟩ := run_storeCells_sim C.P bi.b m el fr us.toList 0 w c' k1 (fun k hk => by have := k5 rfl; omega) (by omega) (f3.cellV b5)
                          have ho : OR (ρ.add h.next bi) bi (.cells (putN c m news) ((len + n) * i.size) el true false) (.cells c2 el fr) := by
                            refine ⟨c2, fr, rfl, by rw [r2, k2], by omega, fun e => (by cases e), fun _ => by rw [r2]; exact k5 rfl, fun _ e => (by cases e), fun k hk => ?_⟩
                            rw [r3 k]
                            by_cases hik : m ≤ k ∧ k < m + news.length
                            · rw [putN_in hik, if_pos (by omega)]
                              have hx : (news[k - m]?) = some news[k - m] := List.getElem?_eq_getElem (by omega)
                              obtain ⟨v, hv1, hv2⟩ := f3.get hx
                              exact ⟨_, v, hx, by simpa using hv1, ones_all b5 _ (List.getElem_mem _), hv2.mono (Ren.le_add (H.next _ (Nat.le_refl _)))⟩
                            · rw [putN_out hik, if_neg (by omega)]
                              obtain ⟨d, v, q1, q2, q3, q4⟩ := k7 k (by omega)
                              exact ⟨d, v, q1, q2, q3, q4.mono (Ren.le_add (H.next _ (Nat.le_refl _)))⟩
                          obtain ⟨m1, m2⟩ := HR.move ok H hg hbi ho
                          refine ⟨_, _, _, appTail_in hin f2w (by rw [Nat.zero_add, c5]; exact r1), ?_, m1, m2⟩
                          exact .slice _ _ _ _ _ bi cap' Ren.add_self (fun e => absurd e g0) (fun _ => hsz) hin
                        · obtain ⟨old, hold⟩ := getN_ex (c := c) (n := m) (off := 0) fun k hk => by
                            obtain ⟨d, v, q1, -⟩ := k7 k hk
                            exact ⟨d, by rw [Nat.zero_add]; exact q1⟩
                          have hld : loadN h id 0 (len * i.size) = some old := by
                            unfold loadN
                            rw [hg, c5]
                            simp only [bleD, Nat.zero_add, Nat.le_refl, decide_true, cond_true]
                            exact hold
                          obtain ⟨l', g1, g2, g3⟩ := run_loadCells_k C.P H.toHL hld hbi
                          obtain ⟨s1, s2⟩ := getN_spec hold
                          have hon : ones old = true := ones_of fun d hd => by
                            obtain ⟨k, hk⟩ := List.getElem?_of_mem hd
                            have hkn : k < m := by have := (List.getElem?_eq_some_iff.1 hk).1; omega
                            obtain ⟨d', v', q1, q2, q3, q4⟩ := k7 k hkn
                            have := s2 k hkn
                            rw [Nat.zero_add, q1, hk] at this; cases this
                            exact q3
                          have hlen : (old ++ news).length = (len + n) * i.size := by rw [List.length_append, s1, hml]
                          have hr : rowD el (old ++ news) true = some (.cells (putN .lf 0 (old ++ news)) (old ++ news).length el true false) := by
                            unfold rowD
                            rw [ones_app hon b5]
                            rfl
                          refine app_grow (base := some ⟨bi.b, 0, none⟩) (s' := .slice (some ⟨bi.b, 0, none⟩) len cap') (os' := l'.toArray) ok (H.del id) (Stp.del ρ h w id) (Heap.next_del _ _) (by omega) (by omega) hi b2 hz b7 b1 g3 f2 g1 f3 hlen hr ?_ (fun j => by rw [Heap.get_new]) (Heap.next_new _ _)
                          intro ρ i2 ro hor
                          obtain ⟨c3, fr3, t1, t2, t3, t4, t5, t6, t7⟩ := hor
                          rw [hlen] at t3 t4 t7
                          refine ⟨c3, fr3, t1, t2, t3, t4, t5, t6, fun k hk => ?_⟩
                          obtain ⟨d, v, u1, u2, u3, u4⟩ := t7 k hk
                          refine ⟨d, v, ?_, u2, u3, u4⟩
                          rw [putN_get, if_pos (by omega), Nat.sub_zero] at u1
                          by_cases hik : m ≤ k ∧ k < m + news.length
                          · rw [putN_in hik, ← u1, List.getElem?_append_right (by omega), s1]
                          · rw [putN_out hik, ← u1, List.getElem?_append_left (by omega)]
                            have := s2 k (by omega)
                            rw [Nat.zero_add] at this
                            exact this
                  · cases hq
          · cases hq
      · cases hq
    · cases hq
  · cases hq

end Go.Dm
end

section
namespace Go.Dm

/-! what code does that only goes on, leaves a block, or returns (no panic): a small calculus of its own, in which recover answers nil -/

/-- a frame of this kind, with these callers, recovers nothing -/
def RecNil (kd : CallKind) (cs : List Frame) : Prop := ∀ fr : Frame, fr.kind = kd → fr.roundOf = none → tryRecover fr cs = none

theorem RecNil.normal (cs : List Frame) : RecNil .normal cs := fun fr h _ => by
  unfold tryRecover
  rw [h]

theorem RecNil.deferred {c : Frame} (cs : List Frame) (h : c.mode = .returning) : RecNil .deferred (c :: cs) := fun fr hk _ => by
  unfold tryRecover
  rw [hk]
  simp only [h]

/-- one operation -/
def OpSem (P : Program) (o : Oper) (a : Act) (w : World) (K : Act → World → Prop) : Prop :=
  match (execOp a.eval o).run P w with
  | .ok (.value v) w' => K (a.put o.dst v) w'
  | .ok .skip w' => K (a.put o.dst undef) w'
  | .ok (.defer d) w' => K ({ a with defers := d :: a.defers }.put o.dst undef) w'
  | .ok (.enter f args) w' => Calls P f args w' fun e w'' => ∃ v, e = .returned v ∧ K (a.put o.dst v) w''
  | .ok .recover w' => K (a.put o.dst .nilIface) w'
  | _ => False

theorem OpSem.mono {P : Program} {o : Oper} {a : Act} {w : World} {K K' : Act → World → Prop} (h : OpSem P o a w K) (hk : ∀ a w, K a w → K' a w) : OpSem P o a w K' := by
  unfold OpSem at *
  split at h
  · exact hk _ _ h
  · exact hk _ _ h
  · exact hk _ _ h
  · exact h.mono fun e w' ⟨v, h1, h2⟩ => ⟨v, h1, hk _ _ h2⟩
  · exact hk _ _ h
  · exact h.elim

/-- operations in a given order -/
def OpsSem (P : Program) (ops : Array Oper) (K : Act → World → Prop) : List Nat → Act → World → Prop
  | [], a, w => K a w
  | i :: l, a, w => ∃ o, ops[i]? = some o ∧
    ((Region.wanted o (yielded ops a.tmps) = true ∧ OpSem P o a w (OpsSem P ops K l)) ∨
     (Region.wanted o (yielded ops a.tmps) = false ∧ OpsSem P ops K l (a.put o.dst undef) w))

theorem ops_run {P : Program} {ops : Array Oper} {K : Act → World → Prop} (l : List Nat) : ∀ (a : Act) (w : World), OpsSem P ops K l a w →
    ∀ (b : Frame) (k : List Item) (cs : List Frame), RecNil b.kind cs →
      ∃ a' w', K a' w' ∧ Steps P (lone (b.at a (.inRegion ops l :: k)) cs w) (lone (b.at a' k) cs w') := by
  induction l with
  | nil => exact fun a w h b k cs _ => ⟨a, w, h, .one step_region_end⟩
  | cons i l ih =>
    intro a w h b k cs hb
    obtain ⟨o, ho, h | h⟩ := h
    · obtain ⟨hw, h⟩ := h
      have hg := stepG_op (P := P) (b := b) (k := k) (cs := cs) (w := w) (rest := l) ho hw
      have hfin : ∀ v, (b.at a (.inRegion ops (i :: l) :: k)).finish v = b.at (a.put o.dst v) (.inRegion ops l :: k) := fun v => by
        rw [Frame.finish_at, ho]; rfl
      unfold OpSem at h
      split at h
      · rename_i v w' hr
        obtain ⟨a', w2, hk, hs⟩ := ih _ _ h b k cs hb
        exact ⟨a', w2, hk, .head (step_lone_go (by rw [hg, ← hfin]; simp [stepG.apply, hr])) hs⟩
      · rename_i w' hr
        obtain ⟨a', w2, hk, hs⟩ := ih _ _ h b k cs hb
        exact ⟨a', w2, hk, .head (step_lone_go (by rw [hg, ← hfin]; simp [stepG.apply, hr])) hs⟩
      · rename_i d w' hr
        obtain ⟨a', w2, hk, hs⟩ := ih _ _ h b k cs hb
        refine ⟨a', w2, hk, .head (step_lone_go ?_) hs⟩
        have e : ({ b.at a (.inRegion ops (i :: l) :: k) with defers := d :: a.defers } : Frame).finish undef =
            b.at ({ a with defers := d :: a.defers }.put o.dst undef) (.inRegion ops l :: k) := by
          have := Frame.finish_at b { a with defers := d :: a.defers } ops i l k undef
          rw [ho] at this; exact this
        rw [hg]
        simp only [stepG.apply, Sem.runT_eq, hr, GStep.bare_after]
        exact congrArg (fun fr => GStep.go { frame := fr, callers := cs, status := .running, dying := none } w') e
      · rename_i f args w' hr
        obtain ⟨e, w2, fr, hR, hsteps, -, hleave⟩ := h (b.at a (.inRegion ops (i :: l) :: k) :: cs)
        obtain ⟨v, rfl, hK⟩ := hR
        obtain ⟨a', w3, hk, hs⟩ := ih _ _ hK b k cs hb
        have h1 : step P (lone (b.at a (.inRegion ops (i :: l) :: k)) cs w) = .next (lone (Frame.enter P f args .normal) (b.at a (.inRegion ops (i :: l) :: k) :: cs) w') :=
          step_lone_go (by rw [hg]; simp [stepG.apply, hr, Frame.at])
        have h2 := step_leave_returned (c := b.at a (.inRegion ops (i :: l) :: k)) (cs := cs) hleave
        rw [hfin] at h2
        exact ⟨a', w3, hk, .head h1 (Steps.trans hsteps (.head h2 hs))⟩
      · rename_i w' hr
        obtain ⟨a', w2, hk, hs⟩ := ih _ _ h b k cs hb
        refine ⟨a', w2, hk, .head (step_lone_go ?_) hs⟩
        have htr := hb (b.at a (.inRegion ops (i :: l) :: k)) rfl rfl
        rw [hg, ← hfin]
        simp only [Frame.at] at htr ⊢
        simp [stepG.apply, hr, htr]
      · exact h.elim
    · obtain ⟨hw, h⟩ := h
      obtain ⟨a', w2, hk, hs⟩ := ih _ _ h b k cs hb
      have h1 := step_op_skip (P := P) (b := b) (a := a) (k := k) (cs := cs) (w := w) (ops := ops) (i := i) (rest := l) (by simp [ho]; simpa using hw)
      simp only [ho, Option.bind_some] at h1
      exact ⟨a', w2, hk, .head h1 hs⟩

/-- where a run of code arrives -/
def Arr (P : Program) (m : Machine) (b : Frame) (k : List Item) (cs : List Frame) (a : Act) (w : World) : X → Prop
  | .normal => Steps P m (lone (b.at a k) cs w)
  | .exit id => ∀ k', exitTo id k = some k' → Steps P m (lone (b.at a k') cs w)
  | .ret => ∃ todo, Steps P m (lone { b.at a todo with mode := .returning } cs w)

theorem Arr.of_steps {P : Program} {m m₁ : Machine} {b : Frame} {k : List Item} {cs : List Frame} {a : Act} {w : World} {x : X} (h : Steps P m m₁) (h' : Arr P m₁ b k cs a w x) :
    Arr P m b k cs a w x := by
  cases x with
  | normal => exact h.trans h'
  | exit id => exact fun k' hk => h.trans (h' k' hk)
  | ret => obtain ⟨todo, hs⟩ := h'; exact ⟨todo, h.trans hs⟩

/-- past an item that is no block -/
theorem Arr.pass {P : Program} {m : Machine} {b : Frame} {i : Item} {k : List Item} {cs : List Frame} {a : Act} {w : World} {x : X} (hx : x ≠ .normal)
    (hi : ∀ id, exitTo id (i :: k) = exitTo id k) (h : Arr P m b (i :: k) cs a w x) : Arr P m b k cs a w x := by
  cases x with
  | normal => exact absurd rfl hx
  | exit id => exact fun k' hk => h k' (by rw [hi]; exact hk)
  | ret => exact h

/-- all that lies on the stack of things to do -/
def ItemsSem (P : Program) (l : List Item) (a : Act) (w : World) (Q : X → Act → World → Prop) : Prop :=
  ∀ (b : Frame) (k : List Item) (cs : List Frame), RecNil b.kind cs → ∃ x a' w', Q x a' w' ∧ Arr P (lone (b.at a (l ++ k)) cs w) b k cs a' w' x

/-- what code comes to; of a loop: what it comes to when it is under way -/
def CodeSem (P : Program) (c : Code) (a : Act) (w : World) (Q : X → Act → World → Prop) : Prop :=
  match c with
  | .loop body => ItemsSem P [.code body, .inLoop body] a w Q
  | c => ItemsSem P [.code c] a w Q

theorem ItemsSem.mono {P : Program} {l : List Item} {a : Act} {w : World} {Q Q' : X → Act → World → Prop} (h : ItemsSem P l a w Q) (hq : ∀ x a w, Q x a w → Q' x a w) : ItemsSem P l a w Q' :=
  fun b k cs hb => let ⟨x, a', w', h1, h2⟩ := h b k cs hb; ⟨x, a', w', hq _ _ _ h1, h2⟩

theorem CodeSem.mono {P : Program} {c : Code} {a : Act} {w : World} {Q Q' : X → Act → World → Prop} (h : CodeSem P c a w Q) (hq : ∀ x a w, Q x a w → Q' x a w) : CodeSem P c a w Q' := by
  unfold CodeSem at *
  split at h <;> exact ItemsSem.mono h hq

theorem CodeSem.items {P : Program} {c : Code} {a : Act} {w : World} {Q : X → Act → World → Prop} (h : CodeSem P c a w Q) : ItemsSem P [.code c] a w Q := by
  unfold CodeSem at h
  split at h
  · rename_i body
    intro b k cs hb
    obtain ⟨x, a', w', h1, h2⟩ := h b k cs hb
    exact ⟨x, a', w', h1, .of_steps (.one step_loop) h2⟩
  · exact h

section
variable {P : Program} {a : Act} {w : World} {Q : X → Act → World → Prop}

theorem sem_skip (h : Q .normal a w) : CodeSem P .skip a w Q := fun _ _ _ _ => ⟨.normal, a, w, h, .one step_skip⟩
theorem sem_label {l : Nat} (h : Q .normal a w) : CodeSem P (.label l) a w Q := fun _ _ _ _ => ⟨.normal, a, w, h, .one step_label⟩
theorem sem_exit {id : Nat} (h : Q (.exit id) a w) : CodeSem P (.exit id) a w Q := fun _ _ _ _ => ⟨.exit id, a, w, h, fun _ hk => .one (step_exit hk)⟩
theorem sem_ret (h : Q .ret a w) : CodeSem P .ret a w Q := fun _ _ _ _ => ⟨.ret, a, w, h, _, .one step_ret⟩

theorem sem_region {id : Nat} {ops : Array Oper} (h : OpsSem P ops (Q .normal) (List.range ops.size) a w) : CodeSem P (.region id ops false) a w Q := fun b k cs hb => by
  obtain ⟨a', w', h1, h2⟩ := ops_run _ _ _ h b k cs hb
  exact ⟨.normal, a', w', h1, .head step_region h2⟩

theorem sem_draw {id : Nat} {ops : Array Oper} (h : ∀ t, OpsSem P ops (Q .normal) (Region.schedule (P.follows .mixedOrders) ops t) a { w with drawn := w.drawn + 1 }) :
    CodeSem P (.region id ops true) a w Q := fun b k cs hb => by
  obtain ⟨a', w', h1, h2⟩ := ops_run _ _ _ (h (w.tape w.drawn (.order b.fn id))) b k cs hb
  exact ⟨.normal, a', w', h1, .head step_region_draw h2⟩

theorem sem_seq {x y : Code} (h : CodeSem P x a w fun e a' w' => match e with | .normal => CodeSem P y a' w' Q | e => Q e a' w') : CodeSem P (.seq x y) a w Q := fun b k cs hb => by
  obtain ⟨e, a', w', h1, h2⟩ := h.items b (.code y :: k) cs hb
  cases e with
  | normal =>
    obtain ⟨e2, a2, w2, h3, h4⟩ := h1.items b k cs hb
    exact ⟨e2, a2, w2, h3, .of_steps (.head step_seq h2) h4⟩
  | exit id => exact ⟨_, a', w', h1, .of_steps (.one step_seq) (Arr.pass (by simp) (fun _ => rfl) h2)⟩
  | ret => exact ⟨_, a', w', h1, .of_steps (.one step_seq) (Arr.pass (by simp) (fun _ => rfl) h2)⟩

theorem sem_cond {c : Operand} {x y : Code} {t : Bool} (hc : a.eval c = .bool t) (h : CodeSem P (if t then x else y) a w Q) : CodeSem P (.cond c x y) a w Q := fun b k cs hb => by
  obtain ⟨e, a', w', h1, h2⟩ := h.items b k cs hb
  exact ⟨e, a', w', h1, .of_steps (.one (step_cond hc)) h2⟩

theorem step_scope {body : Code} {b : Frame} {k : List Item} {cs : List Frame} :
    step P (lone (b.at a (.code (.scope body) :: k)) cs w) = .next (lone (b.at a (.code body :: .inScope body :: k)) cs w) :=
  step_lone_go (by simp [stepG, stepG.exec, Frame.at])
theorem step_inScope' {body : Code} {b : Frame} {k : List Item} {cs : List Frame} : step P (lone (b.at a (.inScope body :: k)) cs w) = .next (lone (b.at a k) cs w) :=
  step_lone_go (by simp [stepG, stepG.exec, Frame.at])

theorem sem_scope {body : Code} (h : CodeSem P body a w Q) : CodeSem P (.scope body) a w Q := fun b k cs hb => by
  obtain ⟨e, a', w', h1, h2⟩ := h.items b (.inScope body :: k) cs hb
  cases e with
  | normal => exact ⟨.normal, a', w', h1, .head step_scope (Steps.trans h2 (.one step_inScope'))⟩
  | exit id => exact ⟨_, a', w', h1, .of_steps (.one step_scope) (Arr.pass (by simp) (fun _ => rfl) h2)⟩
  | ret => exact ⟨_, a', w', h1, .of_steps (.one step_scope) (Arr.pass (by simp) (fun _ => rfl) h2)⟩

theorem sem_block {id : Nat} {body : Code} (h : CodeSem P body a w fun e a' w' => match e with | .exit j => if j = id then Q .normal a' w' else Q (.exit j) a' w' | e => Q e a' w') :
    CodeSem P (.block id body) a w Q := fun b k cs hb => by
  obtain ⟨e, a', w', h1, h2⟩ := h.items b (.inBlock id :: k) cs hb
  cases e with
  | normal => exact ⟨.normal, a', w', h1, .head step_block (Steps.trans h2 (.one step_inBlock))⟩
  | exit j =>
    simp only at h1
    by_cases e : j = id
    · rw [if_pos e] at h1
      exact ⟨.normal, a', w', h1, .head step_block (h2 k (by simp [exitTo, e]))⟩
    · rw [if_neg e] at h1
      refine ⟨.exit j, a', w', h1, fun k' hk => .head step_block (h2 k' ?_)⟩
      have : (id == j) = false := by simp; exact fun h => e h.symm
      simp [exitTo, this, hk]
  | ret => exact ⟨_, a', w', h1, .of_steps (.one step_block) h2⟩

theorem sem_loop {body : Code} (h : CodeSem P body a w fun e a' w' => match e with | .normal => CodeSem P (.loop body) a' w' Q | e => Q e a' w') : CodeSem P (.loop body) a w Q := fun b k cs hb => by
  obtain ⟨e, a', w', h1, h2⟩ := h.items b (.inLoop body :: k) cs hb
  cases e with
  | normal =>
    obtain ⟨e2, a2, w2, h3, h4⟩ := (show ItemsSem P [.code body, .inLoop body] a' w' Q from h1) b k cs hb
    exact ⟨e2, a2, w2, h3, .of_steps (Steps.trans h2 (.one step_inLoop)) h4⟩
  | exit id => exact ⟨_, a', w', h1, Arr.pass (by simp) (fun _ => rfl) h2⟩
  | ret => exact ⟨_, a', w', h1, Arr.pass (by simp) (fun _ => rfl) h2⟩

end
end Go.Dm
end
