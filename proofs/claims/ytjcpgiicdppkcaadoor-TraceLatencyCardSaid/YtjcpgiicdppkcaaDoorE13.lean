import Derived.Test.YtjcpgiicdppkcaaDoorE9N
import Derived.IntWalk
import Derived.Still
namespace Go.Eng
set_option linter.unusedSimpArgs false
set_option linter.unusedVariables false
open Go.RowKit
def InR (k : IntKind) (n : Int) : Prop := k.wrap n = n
theorem InR_i64 (n : Int) (h : -9223372036854775808 ≤ n ∧ n ≤ 9223372036854775807) : InR .i64 n := IntWalk.i64_in n h
theorem InR_u64 (n : Int) (h : 0 ≤ n ∧ n ≤ 18446744073709551615) : InR .u64 n := IntWalk.u64_in n h
theorem InR_u8 (n : Int) (h : 0 ≤ n ∧ n ≤ 255) : InR .u8 n := IntWalk.u8_in n h
theorem InR_i32 (n : Int) (h : -2147483648 ≤ n ∧ n ≤ 2147483647) : InR .i32 n := IntWalk.i32_in n h
theorem InR_u32 (n : Int) (h : 0 ≤ n ∧ n ≤ 4294967295) : InR .u32 n := IntWalk.u32_in n h
def brVC (b : Bool) (A B : Prop) : Prop := (b = true → A) ∧ (b = false → B)
theorem brVC_true (A B : Prop) : brVC true A B = A := by simp [brVC]
theorem brVC_false (A B : Prop) : brVC false A B = B := by simp [brVC]
theorem brVC_congr {b b' : Bool} {A B : Prop} (h : b = b') : brVC b A B = brVC b' A B := by rw [h]
def pickV (t : Bool) (a b : V) : V :=
  match a, b with
  | .bool x, .bool y => .bool (bif t then x else y)
  | a, b => if t then a else b
theorem pickV_eq (t : Bool) (a b : V) : pickV t a b = if t then a else b := by
  unfold pickV
  split
  · cases t <;> rfl
  · rfl
def sliceT (P : Program) (t : TypeId) : Option TypeId := match P.underlying t with
  | some (.slice e) => some e
  | _ => none
theorem sliceT_spec {P : Program} {t e : TypeId} (h : sliceT P t = some e) : P.underlying t = some (.slice e) := by
  unfold sliceT at h; split at h
  · cases h; assumption
  · cases h
def arrT (P : Program) (t : TypeId) : Option (Nat × TypeId) := match P.underlying t with
  | some (.array n e) => some (n, e)
  | _ => none
theorem arrT_spec {P : Program} {t e : TypeId} {n : Nat} (h : arrT P t = some (n, e)) : P.underlying t = some (.array n e) := by
  unfold arrT at h; split at h
  · cases h; assumption
  · cases h
inductive BK where | int (k : IntKind) | bool | str | other
def basicT (P : Program) (t : TypeId) : BK := match P.underlying t with
  | some (.int k) => .int k
  | some .bool => .bool
  | some .string => .str
  | _ => .other
theorem basicT_int {P : Program} {t : TypeId} {k : IntKind} (h : basicT P t = .int k) : P.underlying t = some (.int k) := by
  unfold basicT at h; split at h <;> cases h; assumption
theorem basicT_bool {P : Program} {t : TypeId} (h : basicT P t = .bool) : P.underlying t = some .bool := by
  unfold basicT at h; split at h <;> cases h; assumption
theorem basicT_str {P : Program} {t : TypeId} (h : basicT P t = .str) : P.underlying t = some .string := by
  unfold basicT at h; split at h <;> cases h; assumption
def loadVC (P : Program) (t : TypeId) (bx : Nat → Option Box) (x : V) (K : V → Prop) : Prop :=
  match x, aggT P t with
  | .elt cs off, some true => match sizeT P t with | some n => off + n ≤ cs.length ∧ K (.agg ((cs.drop off).take n)) | none => False
  | .elt cs off, some false => match cs[off]? with | some c => K c | none => False
  | .loc i off, some true => match bx i, sizeT P t with | some B, some n => B.ty < 1000000000 ∧ off + n ≤ B.cells.length ∧ K (.agg ((B.cells.drop off).take n)) | _, _ => False
  | .loc i off, some false => match bx i with | some B => B.ty < 1000000000 ∧ (match B.cells[off]? with | some c => K c | none => False) | none => False
  | _, _ => False
def intVC (op : BinOp) (k : IntKind) (a b : Int) (K : V → Prop) : Prop :=
  match op with
  | .add => InR k (a + b) ∧ K (.int k (a + b))
  | .sub => InR k (a - b) ∧ K (.int k (a - b))
  | .mul => InR k (a * b) ∧ K (.int k (a * b))
  | .quo => b ≠ 0 ∧ InR k (a.tdiv b) ∧ K (.int k (a.tdiv b))
  | .rem => b ≠ 0 ∧ K (.int k (a.tmod b))
  | .eql => K (.bool (a == b))
  | .neq => K (.bool (a != b))
  | .lss => K (.bool (decide (a < b)))
  | .leq => K (.bool (decide (a ≤ b)))
  | .gtr => K (.bool (decide (b < a)))
  | .geq => K (.bool (decide (b ≤ a)))
  | .and => K (.int k (bitI .and k a b))
  | .or => K (.int k (bitI .or k a b))
  | .xor => K (.int k (bitI .xor k a b))
  | .andNot => K (.int k (bitI .andNot k a b))
  | _ => False
def strVC (op : BinOp) (s t : List UInt8) (K : V → Prop) : Prop :=
  match op with
  | .add => s.length + t.length ≤ maxLen ∧ K (.str (s ++ t))
  | .eql => K (.bool (s == t))
  | .neq => K (.bool (!(s == t)))
  | .lss => K (.bool (Op.bytesLess s t))
  | .leq => K (.bool (Op.bytesLess s t || s == t))
  | .gtr => K (.bool (!(Op.bytesLess s t || s == t)))
  | .geq => K (.bool (!Op.bytesLess s t))
  | _ => False
def eqT (P : Program) (t : TypeId) : Option (List CK) :=
  if P.eqGuardType P.depth t = false ∧ aggT P t = some true then layT P 20 t else none
def kindsOK (ks : List CK) : List V → Prop
  | [] => ks = []
  | c :: cs => match ks with
    | k :: ks => kindV c = some k ∧ kindsOK ks cs
    | [] => False
theorem kindsOK_spec : ∀ {cs : List V} {ks : List CK}, kindsOK ks cs → cs.map kindV = ks.map some
  | [], ks, h => by simp only [kindsOK] at h; subst h; rfl
  | c :: cs, ks, h => by
    cases ks with
    | nil => simp only [kindsOK] at h
    | cons k ks => simp only [kindsOK] at h; simp [h.1, kindsOK_spec h.2]
def binVC (P : Program) (op : BinOp) (xT : TypeId) (a b : V) (K : V → Prop) : Prop :=
  match a, b with
  | .int k x, .int k' y => k = k' ∧ intVC op k x y K
  | .str s, .str t => strVC op s t K
  | .bool x, .bool y => match op, basicT P xT with
    | .eql, .bool => K (.bool (x == y))
    | .neq, .bool => K (.bool (!(x == y)))
    | _, _ => False
  | .agg cs, .agg ds => match op, eqT P xT with
    | .eql, some ks => kindsOK ks cs ∧ kindsOK ks ds ∧ K (.bool (eqV cs ds))
    | .neq, some ks => kindsOK ks cs ∧ kindsOK ks ds ∧ K (.bool (!eqV cs ds))
    | _, _ => False
  | _, _ => False
def unVC (op : UnOp) (x : V) (K : V → Prop) : Prop :=
  match op, x with
  | .not, .bool b => K (.bool (!b))
  | .neg, .int k n => InR k (0 - n) ∧ K (.int k (0 - n))
  | _, _ => False
def bytesOf : List V → Option (List UInt8)
  | [] => some []
  | .int .u8 n :: vs => if 0 ≤ n ∧ n < 256 then (bytesOf vs).map (UInt8.ofNat n.toNat :: ·) else none
  | _ :: _ => none
def convVC (P : Program) (s d : TypeId) (x : V) (K : V → Prop) : Prop :=
  match x, basicT P s, basicT P d with
  | .int _ n, .int _, .int k => InR k n ∧ K (.int k n)
  | .str l, .str, .str => K (.str l)
  | .str l, .str, .other => match sliceT P d with
    | some e => (match basicT P e with | .int .u8 => K (.list (bytesV l)) | _ => False)
    | none => False
  | .list rows, .other, .str => match sliceT P s with
    | some e => (match basicT P e with | .int .u8 => ∃ l, rows = bytesV l ∧ K (.str l) | _ => False)
    | none => False
  | _, _, _ => False
def bndVC (st : St) (x : Option Operand) (d : Nat) (K : Nat → Prop) : Prop :=
  match x with
  | none => K d
  | some x => match st.eval x with
    | .int _ i => 0 ≤ i ∧ K i.toNat
    | _ => False
theorem bndVC_spec {st : St} {x : Option Operand} {d : Nat} {K : Nat → Prop} (h : bndVC st x d K) : ∃ n, bndV st.eval x d = some n ∧ K n := by
  unfold bndVC at h
  split at h
  · exact ⟨d, rfl, h⟩
  · split at h
    · rename_i k i hx
      exact ⟨i.toNat, by simp [bndV, hx, h.1], h.2⟩
    · exact h.elim
def sliceVC (P : Program) (t : TypeId) (st : St) (x : V) (lo hi mx : Option Operand) (dst : Option Nat) (K : V → Option (Nat × TypeId) → Prop) : Prop :=
  match x, mx with
  | .str s, none => (match basicT P t with
    | .str => bndVC st lo 0 fun l => bndVC st hi s.length fun h => l ≤ h ∧ h ≤ s.length ∧ K (.str ((s.take h).drop l)) none
    | _ => False)
  | .list rows, none => (match sliceT P t with
    | some e => (match sizeT P e with
      | some n => rowsOK n rows ∧ bndVC st lo 0 fun l => bndVC st hi rows.length fun h => l ≤ h ∧ h ≤ rows.length ∧ K (.list ((rows.take h).drop l)) none
      | none => False)
    | none => False)
  | .list rows, some m => (match sliceT P t, hi with
    | some e, some hi => (match sizeT P e with
      | some n => rowsOK n rows ∧ bndVC st lo 0 fun l => bndVC st (some hi) rows.length fun h => bndVC st (some m) rows.length fun h' => h' = h ∧ l ≤ h ∧ h ≤ rows.length ∧ K (.list ((rows.take h).drop l)) (some (dst.getD 0, e))
      | none => False)
    | _, _ => False)
  | _, _ => False
def faddrVC (P : Program) (s : TypeId) (i : Nat) (x : V) (K : V → Prop) : Prop :=
  match fieldT P s i with
  | some (off, t) => (match sizeT P t with
    | some n => n ≠ 0 ∧ (match x with
      | .loc j a => K (.loc j (a + off))
      | .elt cs a => K (.elt cs (a + off))
      | _ => False)
    | none => False)
  | none => False
def fieldVC (P : Program) (s : TypeId) (i : Nat) (x : V) (K : V → Prop) : Prop :=
  match fieldT P s i, x with
  | some (off, t), .agg cs => (match aggT P t, sizeT P t with
    | some true, some n => K (.agg ((cs.drop off).take n))
    | some false, _ => (match cs[off]? with | some c => K c | none => False)
    | _, _ => False)
  | _, _ => False
def iaddrVC (P : Program) (t : TypeId) (x i : V) (K : V → Prop) : Prop :=
  match x, i with
  | .list rows, .int _ i => (match sliceT P t with
    | some e => (match sizeT P e with
      | some n => rowsOK n rows ∧ (0 ≤ i ∧ i < rows.length) ∧ K (.elt (rows.getD i.toNat .any).cellsL 0)
      | none => False)
    | none => False)
  | .loc j a, .int _ i => (match arrT P t with
    | some (len, e) => (match sizeT P e with | some n => (0 ≤ i ∧ i < (len : Int)) ∧ K (.loc j (a + i.toNat * n)) | none => False)
    | none => False)
  | .elt cs a, .int _ i => (match arrT P t with
    | some (len, e) => (match sizeT P e with | some n => (0 ≤ i ∧ i < (len : Int)) ∧ K (.elt cs (a + i.toNat * n)) | none => False)
    | none => False)
  | _, _ => False
def indexVC (P : Program) (t : TypeId) (x i : V) (K : V → Prop) : Prop :=
  match x, i with
  | .str s, .int _ i => (match basicT P t with
    | .str => (0 ≤ i ∧ i < s.length) ∧ K (.int .u8 (s.getD i.toNat 0).toNat)
    | _ => False)
  | .agg cs, .int _ i => (match arrT P t with
    | some (len, e) => (match aggT P e, sizeT P e with
      | some false, some n => (0 ≤ i ∧ i < (len : Int)) ∧ (match cs[i.toNat * n]? with | some c => K c | none => False)
      | _, _ => False)
    | none => False)
  | _, _ => False
def buildVC (P : Program) (t : TypeId) (st : St) (parts : List (Nat × Operand)) (K : V → Prop) : Prop :=
  match zeroT P t, placesT P t with
  | some zv, some place => zv.csize.isSome = true ∧ (match fillV place zv.cellsL (parts.map fun x => (x.1, st.eval x.2)) with
    | some out => K (.agg out)
    | none => False)
  | _, _ => False
def idxOK : List (Nat × Operand) → Nat → Bool
  | [], _ => true
  | (i, _) :: r, n => i == n && idxOK r (n + 1)
theorem idxOK_spec : ∀ {l : List (Nat × Operand)} {n : Nat}, idxOK l n = true → l.map (·.1) = List.range' n l.length
  | [], _, _ => rfl
  | (i, _) :: r, n, h => by
    simp only [idxOK, Bool.and_eq_true, beq_iff_eq] at h
    simp [List.range'_succ, h.1, idxOK_spec h.2]
def bsliceVC (P : Program) (t : TypeId) (st : St) (len : Nat) (parts : List (Nat × Operand)) (dst : Option Nat) (K : V → Option (Nat × TypeId) → Prop) : Prop :=
  match sliceT P t with
  | some e => (match sizeT P e, zeroT P e with
    | some sz, some zv => (sz ≠ 0 ∧ zv.csize = some sz ∧ parts.length = len ∧ len * sz ≤ 16777216 ∧ idxOK parts 0 = true) ∧ rowsOK sz (parts.map fun x => st.eval x.2) ∧ K (.list (parts.map fun x => st.eval x.2)) (some (dst.getD 0, e))
    | _, _ => False)
  | none => False
def nilVC (x : V) (K : V → Prop) : Prop :=
  match x with
  | .loc i off => K (.loc i off)
  | .elt cs off => K (.elt cs off)
  | _ => False
def ifaceOK (P : Program) (t : TypeId) : Bool := match P.underlying t with
  | some (.interface _) => false
  | some _ => true
  | none => false
def lenVC (P : Program) (t : TypeId) (x : V) (K : V → Prop) : Prop :=
  match x with
  | .list rows => (match sliceT P t with | some _ => K (.int .i64 rows.length) | none => False)
  | .str s => (match basicT P t with | .str => K (.int .i64 s.length) | _ => False)
  | _ => False
def callVC (P : Program) (f : FuncId) (args : List V) (K : V → Prop) : Prop := isGo P f = true ∧ V.noLocL args = true ∧ ∃ res, Fn P f args [] res [] ∧ K res
theorem callVC_congr {P : Program} {f : FuncId} {args args' : List V} {K : V → Prop} (h : args = args') : callVC P f args K = callVC P f args' K := by rw [h]
def builtinVC (P : Program) (b : Builtin) (args : List V) (tys : List TypeId) (K : V → Prop) : Prop :=
  match b, args, tys with
  | .len, [x], [t] => lenVC P t x K
  | .max, [.int k a, .int k' b], [_, _] => k = k' ∧ K (.int k (max a b))
  | .min, [.int k a, .int k' b], [_, _] => k = k' ∧ K (.int k (min a b))
  | _, _, _ => False
def assignVC (P : Program) (o : Oper) (st : St) (x : Operand) (K : V → Option (Nat × TypeId) → Prop) : Prop :=
  match x with
  | .const (.slice none 0 0) => (match sliceT P o.type with
    | some e => K (.list []) (some (o.dst.getD 0, e))
    | none => K (.list []) none)
  | x => K (st.eval x) (st.tokOf x)
def lookupVC (P : Program) (t : TypeId) (bx : Nat → Option Box) (m x : V) (ok : Bool) (K : V → Prop) : Prop :=
  match m, mapT P t with
  | .mref i, some (kt, et) => (match bx i, keyT P kt, zeroT P et with
    | some B, some (ag, ks), some zv => 1000000000 ≤ B.ty ∧ KeyT P kt ∧ keyOK ag ks x ∧ keysOK ag ks B.cells ∧
        K (if ok then .tup [(mapGet B.cells x).getD zv, .bool (mapGet B.cells x).isSome] else (mapGet B.cells x).getD zv)
    | _, _, _ => False)
  | _, _ => False
def valVC (P : Program) (o : Oper) (st : St) (K : V → Option (Nat × TypeId) → Prop) : Prop :=
  match o.op with
  | .move x => K (st.eval x) (st.tokOf x)
  | .assign x => assignVC P o st x K
  | .pick c x y => (match st.eval c with | .bool t => K (pickV t (st.eval x) (st.eval y)) none | _ => False)
  | .load t x => loadVC P t st.box (st.eval x) (K · none)
  | .binOp op xT x y _ => binVC P op xT (st.eval x) (st.eval y) (K · none)
  | .unOp op _ x => unVC op (st.eval x) (K · none)
  | .convert s d x => convVC P s d (st.eval x) (K · none)
  | .makeInterface t x => ifaceOK P t = true ∧ K (.iface t (st.eval x)) none
  | .makeFunc f first cap => K (.fn f (first.toList.map st.eval) (cap.toList.map st.eval)) none
  | .slice t x lo hi mx => sliceVC P t st (st.eval x) lo hi mx o.dst K
  | .fieldAddr s x i => faddrVC P s i (st.eval x) (K · none)
  | .field s x i => fieldVC P s i (st.eval x) (K · none)
  | .indexAddr t x i => iaddrVC P t (st.eval x) (st.eval i) (K · none)
  | .index t x i => indexVC P t (st.eval x) (st.eval i) (K · none)
  | .extract x i => (match st.eval x with | .tup vs => (match vs[i]? with | some v => K v none | none => False) | _ => False)
  | .build t parts => buildVC P t st parts.toList (K · none)
  | .buildSlice t len parts => bsliceVC P t st len parts.toList o.dst K
  | .nilCheck x => nilVC (st.eval x) (K · none)
  | .lookup t m x ok => lookupVC P t st.box (st.eval m) (st.eval x) ok (K · none)
  | .call { callee := .value f, args, .. } => (match st.eval f with
    | .fn (.func g) first cap => callVC P g (first ++ args.toList.map st.eval ++ cap) (K · none)
    | _ => False)
  | .call { callee := .builtin b, args, argTypes } => builtinVC P b (args.toList.map st.eval) argTypes.toList (K · none)
  | _ => False
def QVT (P : Program) (o : Oper) (ρ : Operand → V) (τ : Operand → Option (Nat × TypeId)) (bx : Nat → Option Box) (v : V) (tk : Option (Nat × TypeId)) : Prop :=
  (∃ fr, QV P o ρ bx v fr ∧ ∀ t e, tk = some (t, e) → fr = some e) ∨ ∃ x, (o.op = .move x ∨ o.op = .assign x) ∧ v = ρ x ∧ tk = τ x
theorem QVT.of {P : Program} {o : Oper} {ρ : Operand → V} {τ : Operand → Option (Nat × TypeId)} {bx : Nat → Option Box} {v : V} (h : QV P o ρ bx v none) : QVT P o ρ τ bx v none :=
  .inl ⟨none, h, fun _ _ h => by cases h⟩
theorem qv_const_nil {P : Program} {o : Oper} {ρ : Operand → V} {bx : Nat → Option Box} (ho : o.op = .assign (.const (.slice none 0 0))) (e : TypeId) : QV P o ρ bx (.list []) (some e) :=
  QV.of_run fun a w pr lam _ _ _ => by
    refine ⟨.slice none 0 0, w, pr, by simp [execOp, ho, Act.eval], Ext.refl w pr, ?_, fun _ _ => Own.full⟩
    simp only [R]
    exact ⟨none, 0, rfl, Nat.le_refl _, by simp [maxLen], .inl ⟨trivial, rfl⟩⟩
section
variable {P : Program} {o : Oper} {st : St}
theorem loadVC_sound {t : TypeId} {x : Operand} {K : V → Prop} (ho : o.op = .load t x) (h : loadVC P t st.box (st.eval x) K) : ∃ v, QV P o st.eval st.box v none ∧ K v := by
  unfold loadVC at h
  split at h
  · rename_i cs off hx ha
    split at h
    · rename_i n hs; exact ⟨_, qv_load_elt_agg ho hx ha hs h.1, h.2⟩
    · exact h.elim
  · rename_i cs off hx ha
    split at h
    · rename_i c hc; exact ⟨_, qv_load_elt_one ho hx ha hc, h⟩
    · exact h.elim
  · rename_i i off hx ha
    split at h
    · rename_i B n hb hs; exact ⟨_, qv_load_loc_agg ho hx hb ha hs h.2.1 h.1, h.2.2⟩
    · exact h.elim
  · rename_i i off hx ha
    split at h
    · rename_i B hb
      obtain ⟨hpl, h⟩ := h
      split at h
      · rename_i c hc; exact ⟨_, qv_load_loc_one ho hx hb ha hc hpl, h⟩
      · exact h.elim
    · exact h.elim
  · exact h.elim
theorem binVC_sound {op : BinOp} {xT yT : TypeId} {x y : Operand} {K : V → Prop} (ho : o.op = .binOp op xT x y yT) (h : binVC P op xT (st.eval x) (st.eval y) K) : ∃ v, QV P o st.eval st.box v none ∧ K v := by
  unfold binVC at h
  split at h
  · rename_i k a k' b hx hy
    obtain ⟨rfl, h⟩ := h
    have key : ∀ v, binI op k a b = some v → K v → ∃ v, QV P o st.eval st.box v none ∧ K v := fun v hv hk => ⟨v, qv_bin_int ho hx hy hv, hk⟩
    cases op <;> simp only [intVC] at h
    case add => exact key (.int k (k.wrap (a + b))) rfl (by have := h.1; unfold InR at this; rw [this]; exact h.2)
    case sub => exact key (.int k (k.wrap (a - b))) rfl (by have := h.1; unfold InR at this; rw [this]; exact h.2)
    case mul => exact key (.int k (k.wrap (a * b))) rfl (by have := h.1; unfold InR at this; rw [this]; exact h.2)
    case quo => exact key (.int k (k.wrap (a.tdiv b))) (by simp only [binI, if_neg h.1]) (by have := h.2.1; unfold InR at this; rw [this]; exact h.2.2)
    case rem => exact key (.int k (a.tmod b)) (by simp only [binI, if_neg h.1]) h.2
    all_goals first | exact h.elim | exact key _ rfl h
  · rename_i s t hx hy
    have key : ∀ v, binS op s t = some v → K v → ∃ v, QV P o st.eval st.box v none ∧ K v := fun v hv hk => ⟨v, qv_bin_str ho hx hy hv, hk⟩
    cases op <;> simp only [strVC] at h
    case add => exact key _ (by simp only [binS, if_pos h.1]) h.2
    all_goals first | exact h.elim | exact key _ rfl h
  · rename_i a b hx hy
    split at h
    · rename_i hT; exact ⟨_, qv_bin_bool ho hx hy (basicT_bool hT) rfl, h⟩
    · rename_i hT; exact ⟨_, qv_bin_bool ho hx hy (basicT_bool hT) rfl, h⟩
    · exact h.elim
  · rename_i cs ds hx hy
    have key : ∀ ks, eqT P xT = some ks → P.eqGuardType P.depth xT = false ∧ aggT P xT = some true ∧ layT P 20 xT = some ks := by
      intro ks hk
      unfold eqT at hk
      split at hk
      · rename_i hc; exact ⟨hc.1, hc.2, hk⟩
      · cases hk
    split at h
    · rename_i ks hT
      obtain ⟨k1, k2, k3⟩ := key ks hT
      exact ⟨_, qv_bin_agg ho hx hy k1 k2 k3 (kindsOK_spec h.1) (kindsOK_spec h.2.1) rfl, h.2.2⟩
    · rename_i ks hT
      obtain ⟨k1, k2, k3⟩ := key ks hT
      exact ⟨_, qv_bin_agg ho hx hy k1 k2 k3 (kindsOK_spec h.1) (kindsOK_spec h.2.1) rfl, h.2.2⟩
    · exact h.elim
  · exact h.elim
theorem sliceVC_sound {t : TypeId} {x : Operand} {lo hi mx : Option Operand} {K : V → Option (Nat × TypeId) → Prop} (ho : o.op = .slice t x lo hi mx) (h : sliceVC P t st (st.eval x) lo hi mx o.dst K) :
    ∃ v tk, QVT P o st.eval st.tokOf st.box v tk ∧ K v tk := by
  unfold sliceVC at h
  split at h
  · rename_i s hx
    split at h
    · rename_i hT
      obtain ⟨l, hl, h⟩ := bndVC_spec h
      obtain ⟨hh, hl2, h1, h2, h3⟩ := bndVC_spec h
      exact ⟨_, none, .of (qv_slice_str ho hx (basicT_str hT) hl hl2 h1 h2), h3⟩
    · exact h.elim
  · rename_i rows hx
    split at h
    · rename_i e hT
      split at h
      · rename_i n hs
        obtain ⟨hr, h⟩ := h
        obtain ⟨l, hl, h⟩ := bndVC_spec h
        obtain ⟨hh, hl2, h1, h2, h3⟩ := bndVC_spec h
        exact ⟨_, none, .of (qv_slice_list ho hx (sliceT_spec hT) hs hr hl hl2 h1 h2), h3⟩
      · exact h.elim
    · exact h.elim
  · rename_i rows m hx
    split at h
    · rename_i e hi' hT
      split at h
      · rename_i n hs
        obtain ⟨hr, h⟩ := h
        obtain ⟨l, hl, h⟩ := bndVC_spec h
        obtain ⟨hh, hl2, h⟩ := bndVC_spec h
        obtain ⟨h', hl3, rfl, h1, h2, h3⟩ := bndVC_spec h
        exact ⟨_, _, .inl ⟨some e, qv_slice3_list ho hx (sliceT_spec hT) hs hr hl hl2 hl3 h1 h2, fun t e' he => by cases he; rfl⟩, h3⟩
      · exact h.elim
    · exact h.elim
  · exact h.elim
theorem iaddrVC_sound {t : TypeId} {x ix : Operand} {K : V → Prop} (ho : o.op = .indexAddr t x ix) (h : iaddrVC P t (st.eval x) (st.eval ix) K) : ∃ v, QV P o st.eval st.box v none ∧ K v := by
  unfold iaddrVC at h
  split at h
  · rename_i rows k i hx hi
    split at h
    · rename_i e hT
      split at h
      · rename_i n hs
        obtain ⟨hr, ⟨h0, h1⟩, hk⟩ := h
        have hlt : i.toNat < rows.length := by omega
        have hg : rows[i.toNat]? = some (rows.getD i.toNat .any) := by simp [List.getD, List.getElem?_eq_getElem hlt]
        exact ⟨_, qv_indexAddr_list ho hx hi (sliceT_spec hT) hs hr h0 hg, hk⟩
      · exact h.elim
    · exact h.elim
  · rename_i j a k i hx hi
    split at h
    · rename_i len e hT
      split at h
      · rename_i n hs; exact ⟨_, qv_indexAddr_loc ho hx hi (arrT_spec hT) hs h.1.1 h.1.2, h.2⟩
      · exact h.elim
    · exact h.elim
  · rename_i cs a k i hx hi
    split at h
    · rename_i len e hT
      split at h
      · rename_i n hs; exact ⟨_, qv_indexAddr_elt ho hx hi (arrT_spec hT) hs h.1.1 h.1.2, h.2⟩
      · exact h.elim
    · exact h.elim
  · exact h.elim
theorem indexVC_sound {t : TypeId} {x ix : Operand} {K : V → Prop} (ho : o.op = .index t x ix) (h : indexVC P t (st.eval x) (st.eval ix) K) : ∃ v, QV P o st.eval st.box v none ∧ K v := by
  unfold indexVC at h
  split at h
  · rename_i s k i hx hi
    split at h
    · rename_i hT
      obtain ⟨⟨h0, h1⟩, hk⟩ := h
      have hlt : i.toNat < s.length := by omega
      have hg : s[i.toNat]? = some (s.getD i.toNat 0) := by simp [List.getD, List.getElem?_eq_getElem hlt]
      exact ⟨_, qv_index_str ho hx hi (basicT_str hT) h0 hg, hk⟩
    · exact h.elim
  · rename_i cs k i hx hi
    split at h
    · rename_i len e hT
      split at h
      · rename_i n ha hs
        obtain ⟨⟨h0, h1⟩, hk⟩ := h
        split at hk
        · rename_i c hc; exact ⟨_, qv_index_arr_one ho hx hi (arrT_spec hT) ha hs h0 h1 hc, hk⟩
        · exact hk.elim
      · exact h.elim
    · exact h.elim
  · exact h.elim
theorem fieldVC_sound {s : TypeId} {x : Operand} {i : Nat} {K : V → Prop} (ho : o.op = .field s x i) (h : fieldVC P s i (st.eval x) K) : ∃ v, QV P o st.eval st.box v none ∧ K v := by
  unfold fieldVC at h
  split at h
  · rename_i off t cs hf hx
    split at h
    · rename_i n ha hs; exact ⟨_, qv_field_agg ho hx hf ha hs, h⟩
    · rename_i ha
      split at h
      · rename_i c hc; exact ⟨_, qv_field_one ho hx hf ha hc, h⟩
      · exact h.elim
    · exact h.elim
  · exact h.elim
theorem bytesV_of : ∀ {rows : List V} {l : List UInt8}, rows = bytesV l → rows = bytesV l := fun h => h
theorem convVC_sound {s d : TypeId} {x : Operand} {K : V → Prop} (ho : o.op = .convert s d x) (h : convVC P s d (st.eval x) K) : ∃ v, QV P o st.eval st.box v none ∧ K v := by
  unfold convVC at h
  split at h
  · rename_i k n k1 k2 hx hs hd
    exact ⟨_, qv_conv_int ho hx (basicT_int hs) (basicT_int hd), by have := h.1; unfold InR at this; rw [this]; exact h.2⟩
  · rename_i l hx hs hd; exact ⟨_, qv_conv_str ho hx (basicT_str hs) (basicT_str hd), h⟩
  · rename_i l hx hs hd
    split at h
    · rename_i e hT
      split at h
      · rename_i he; exact ⟨_, qv_conv_str_bytes ho hx (basicT_str hs) (sliceT_spec hT) (basicT_int he), h⟩
      · exact h.elim
    · exact h.elim
  · rename_i rows hx hs hd
    split at h
    · rename_i e hT
      split at h
      · rename_i he
        obtain ⟨l, rfl, h⟩ := h
        exact ⟨_, qv_conv_bytes_str ho hx (sliceT_spec hT) (basicT_int he) (basicT_str hd), h⟩
      · exact h.elim
    · exact h.elim
  · exact h.elim
theorem valVC_sound {K : V → Option (Nat × TypeId) → Prop} (h : valVC P o st K) : ∃ v tk, QVT P o st.eval st.tokOf st.box v tk ∧ K v tk := by
  have one : (∃ v, QV P o st.eval st.box v none ∧ K v none) → ∃ v tk, QVT P o st.eval st.tokOf st.box v tk ∧ K v tk := fun ⟨v, q, k⟩ => ⟨v, none, .of q, k⟩
  unfold valVC at h
  split at h
  · rename_i x ho; exact ⟨_, _, .inr ⟨x, .inl ho, rfl, rfl⟩, h⟩
  · rename_i x ho
    unfold assignVC at h
    split at h
    · split at h
      · rename_i e hT; exact ⟨_, _, .inl ⟨some e, qv_const_nil ho e, fun t e' he => by cases he; rfl⟩, h⟩
      · exact ⟨_, none, .inl ⟨some 0, qv_const_nil ho 0, fun t e' he => by cases he⟩, h⟩
    · exact ⟨_, _, .inr ⟨x, .inr ho, rfl, rfl⟩, h⟩
  · rename_i c x y ho
    split at h
    · rename_i t hc
      refine one ⟨_, qv_pick ho hc, ?_⟩
      rw [← pickV_eq]; exact h
    · exact h.elim
  · rename_i ho; exact one (loadVC_sound ho h)
  · rename_i ho; exact one (binVC_sound ho h)
  · rename_i op xT x ho
    unfold unVC at h
    split at h
    · rename_i b hx; exact one ⟨_, qv_not ho hx, h⟩
    · rename_i k n hx; exact one ⟨_, qv_neg ho hx, by have := h.1; unfold InR at this; rw [this]; exact h.2⟩
    · exact h.elim
  · rename_i ho; exact one (convVC_sound ho h)
  · rename_i t x ho
    obtain ⟨h1, h2⟩ := h
    unfold ifaceOK at h1
    split at h1
    · cases h1
    · rename_i d hne hu
      exact one ⟨_, qv_makeIface ho hu (by cases d <;> first | rfl | exact absurd rfl (hne _)), h2⟩
    · cases h1
  · rename_i f first cap ho; exact one ⟨_, qv_makeFunc ho, h⟩
  · rename_i ho; exact sliceVC_sound ho h
  · rename_i s x i ho
    unfold faddrVC at h
    split at h
    · rename_i off t hf
      split at h
      · rename_i n hs
        obtain ⟨hn, h⟩ := h
        split at h
        · rename_i j a hx; exact one ⟨_, qv_fieldAddr_loc ho hx hf hs hn, h⟩
        · rename_i cs a hx; exact one ⟨_, qv_fieldAddr_elt ho hx hf hs hn, h⟩
        · exact h.elim
      · exact h.elim
    · exact h.elim
  · rename_i ho; exact one (fieldVC_sound ho h)
  · rename_i ho; exact one (iaddrVC_sound ho h)
  · rename_i ho; exact one (indexVC_sound ho h)
  · rename_i x i ho
    split at h
    · rename_i vs hx
      split at h
      · rename_i v hv; exact one ⟨_, qv_extract ho hx hv, h⟩
      · exact h.elim
    · exact h.elim
  · rename_i t parts ho
    unfold buildVC at h
    split at h
    · rename_i zv place hz hp
      obtain ⟨hn, h⟩ := h
      obtain ⟨n, hn⟩ := Option.isSome_iff_exists.1 hn
      split at h
      · rename_i out hf; exact one ⟨_, qv_build ho hz hn hp hf, h⟩
      · exact h.elim
    · exact h.elim
  · rename_i t len parts ho
    unfold bsliceVC at h
    split at h
    · rename_i e hT
      split at h
      · rename_i sz zv hs hz
        obtain ⟨⟨h1, h2, h3, h4, h5⟩, h6, h7⟩ := h
        refine ⟨_, _, .inl ⟨some e, qv_buildSlice ho (sliceT_spec hT) hs h1 hz h2 (by simpa using h3) h4 ?_ h6, fun t e' he => by cases he; rfl⟩, h7⟩
        rw [idxOK_spec h5, List.range_eq_range', h3]
      · exact h.elim
    · exact h.elim
  · rename_i x ho
    unfold nilVC at h
    split at h
    · rename_i i off hx; exact one ⟨_, qv_nilCheck_loc ho hx, h⟩
    · rename_i cs off hx; exact one ⟨_, qv_nilCheck_elt ho hx, h⟩
    · exact h.elim
  · rename_i t m x ok ho
    unfold lookupVC at h
    split at h
    · rename_i i kt et hm hT
      split at h
      · rename_i B ag ks zv hb hk hz
        exact one ⟨_, qv_lookup ho hm hb h.1 hT hk h.2.1 h.2.2.1 h.2.2.2.1 hz, h.2.2.2.2⟩
      · exact h.elim
    · exact h.elim
  · rename_i f args tys ho
    split at h
    · rename_i g first cap hx
      obtain ⟨h1, h2, res, h3, h4⟩ := h
      exact one ⟨res, qv_call ho hx h1 h2 h3, h4⟩
    · exact h.elim
  · rename_i b args tys ho
    unfold builtinVC at h
    split at h
    · rename_i x t ha ht
      have ea : ∃ y, args = #[y] ∧ st.eval y = x := by
        obtain ⟨l⟩ := args
        match l, ha with
        | [y], ha => simp at ha; exact ⟨y, rfl, ha⟩
      have et : tys = #[t] := by obtain ⟨l⟩ := tys; simpa using ht
      obtain ⟨y, rfl, hy⟩ := ea
      subst et
      unfold lenVC at h
      split at h
      · split at h
        · rename_i e hT; exact one ⟨_, qv_len_list ho hy (sliceT_spec hT), h⟩
        · exact h.elim
      · split at h
        · rename_i hT; exact one ⟨_, qv_len_str ho hy (basicT_str hT), h⟩
        · exact h.elim
      · exact h.elim
    · rename_i k a k' b t u ha ht
      obtain ⟨rfl, h⟩ := h
      have ea : ∃ y z, args = #[y, z] ∧ st.eval y = .int k a ∧ st.eval z = .int k b := by
        obtain ⟨l⟩ := args
        match l, ha with
        | [y, z], ha => simp at ha; exact ⟨y, z, rfl, ha⟩
        | [], ha => simp at ha
        | [_], ha => simp at ha
        | _ :: _ :: _ :: _, ha => simp at ha
      have et : tys = #[t, u] := by obtain ⟨l⟩ := tys; simpa using ht
      obtain ⟨y, z, rfl, hy, hz⟩ := ea
      subst et
      exact one ⟨_, qv_max ho hy hz, h⟩
    · rename_i k a k' b t u ha ht
      obtain ⟨rfl, h⟩ := h
      have ea : ∃ y z, args = #[y, z] ∧ st.eval y = .int k a ∧ st.eval z = .int k b := by
        obtain ⟨l⟩ := args
        match l, ha with
        | [y, z], ha => simp at ha; exact ⟨y, z, rfl, ha⟩
        | [], ha => simp at ha
        | [_], ha => simp at ha
        | _ :: _ :: _ :: _, ha => simp at ha
      have et : tys = #[t, u] := by obtain ⟨l⟩ := tys; simpa using ht
      obtain ⟨y, z, rfl, hy, hz⟩ := ea
      subst et
      exact one ⟨_, qv_min ho hy hz, h⟩
    · exact h.elim
  · exact h.elim
end
end Go.Eng
namespace Go.Eng
open Go.RowKit
def St.newBox (st : St) (cs : List V) (ty : TypeId) : St := { st with nb := st.nb + 1, box := upd st.box st.nb (some ⟨cs, ty⟩) }
def boxVC (st : St) (e : TypeId) (v : V) (dst : Option Nat) (K : St → Prop) : Prop :=
  e < 1000000000 ∧ v.csize.isSome = true ∧ st.box st.nb = none ∧ K ((st.newBox v.cellsL e).put dst (.loc st.nb 0) none)
def storeVC (P : Program) (t : TypeId) (st : St) (x y : V) (dst : Option Nat) (K : St → Prop) : Prop :=
  match x with
  | .loc i off => (match st.box i, sizeT P t with
    | some B, some n => B.ty < 1000000000 ∧ y.csize = some n ∧ off + n ≤ B.cells.length ∧ dst = none ∧ K (st.setBox i ⟨B.cells.take off ++ y.cellsL ++ B.cells.drop (off + n), B.ty⟩)
    | _, _ => False)
  | _ => False
def appendVC (P : Program) (st : St) (ss : Nat) (x : V) (t u : TypeId) (dst : Option Nat) (K : St → Prop) : Prop :=
  match st.env ss, st.tok ss, sliceT P t with
  | .list rows, some (tk, e), some e' => (match sizeT P e, bytesT P e, zeroT P e with
    | some sz, some by', some zv => (e = e' ∧ srcT P u = true ∧ zv.csize = some sz ∧ by' ≠ 0) ∧ rowsOK sz rows ∧ (match x with
      | .list rows2 => rowsOK sz rows2 ∧ (rows.length + rows2.length) * by' ≤ 140737488355328 ∧ K ((st.clear tk).put dst (.list (rows ++ rows2)) (some (tk, e)))
      | .str l => sz = 1 ∧ (rows.length + l.length) * by' ≤ 140737488355328 ∧ K ((st.clear tk).put dst (.list (rows ++ bytesV l)) (some (tk, e)))
      | _ => False)
    | _, _, _ => False)
  | _, _, _ => False
def mkMapVC (st : St) (t : TypeId) (dst : Option Nat) (K : St → Prop) : Prop :=
  st.box st.nb = none ∧ K ((st.newBox [] (1000000000 + t)).put dst (.mref st.nb) none)
def mapPutVC (P : Program) (t : TypeId) (st : St) (m x y : V) (dst : Option Nat) (K : St → Prop) : Prop :=
  match m, mapT P t with
  | .mref i, some (kt, _) => (match st.box i, keyT P kt with
    | some B, some (ag, ks) => 1000000000 ≤ B.ty ∧ KeyT P kt ∧ keyOK ag ks x ∧ keysOK ag ks B.cells ∧ dst = none ∧ K (st.setBox i ⟨mapPut B.cells x y, B.ty⟩)
    | _, _ => False)
  | _, _ => False
def callAVC (P : Program) (dr : Bool) (st : St) (f : V) (args : List V) (dst : Option Nat) (K : St → Prop) : Prop :=
  match f with
  | .fn (.func g) first cap => callVC P g (first ++ args ++ cap) (fun v => K (st.put dst v none)) ∨ (dr = false ∧ callBVC P g (first ++ args ++ cap) st dst K)
  | _ => False
def opVC (P : Program) (dr : Bool) (o : Oper) (st : St) (K : St → Prop) : Prop :=
  match o.op with
  | .box e x => boxVC st e (st.eval x) o.dst K
  | .alloc e => (match zeroT P e with | some v => boxVC st e v o.dst K | none => False)
  | .store t x y => storeVC P t st (st.eval x) (st.eval y) o.dst K
  | .call { callee := .builtin .append, args, argTypes } => (match args.toList, argTypes.toList with
    | [.tmp ss, x], [t, u] => appendVC P st ss (st.eval x) t u o.dst K
    | _, _ => False)
  | .makeMap t none => mkMapVC st t o.dst K
  | .mapUpdate t m x y => mapPutVC P t st (st.eval m) (st.eval x) (st.eval y) o.dst K
  | .call { callee := .value f, args, .. } => callAVC P dr st (st.eval f) (args.toList.map st.eval) o.dst K
  | _ => valVC P o st fun v tk => K (st.put o.dst v tk)
def dstOK (n : Nat) (o : Oper) : Bool := match o.dst with | some d => decide (d < n) | none => true
section
variable {P : Program} {n' : Nat} {dr : Bool} {o : Oper} {st : St} {K : St → Prop}
theorem dstOK_spec {n : Nat} (h : dstOK n o = true) : ∀ d, o.dst = some d → d < n := by
  intro d hd
  simpa [dstOK, hd] using h
theorem opok_qvt {v : V} {tk : Option (Nat × TypeId)} (h : QVT P o st.eval st.tokOf st.box v tk) (hd : ∀ d, o.dst = some d → d < n') (hk : K (st.put o.dst v tk)) : OpOK P n' o st K := by
  rcases h with ⟨fr, hq, ht⟩ | ⟨x, hx, rfl, rfl⟩
  · exact opok_quiet hq ht hd hk
  · exact opok_copy hx hd hk
theorem SRel.nb {F : Fr} {a : Act} {w : World} {pr : Nat → Nat → Prop} {lam : Nat → Option Nat} (h : SRel P F st a w pr lam) (n : Nat) : SRel P F { st with nb := n } a w pr lam :=
  ⟨h.size, h.defers, h.env, h.own, h.coh, h.box, h.inj, h.apart, h.nolam, h.prlt, h.keep, h.prsub, h.prnew, h.lamsub⟩
theorem opok_nb (h : OpOK P n' o st fun st' => K { st' with nb := st'.nb + 1 }) : OpOK P n' o st K := by
  intro F a w pr lam hF hs next Q hn
  exact h F a w pr lam hF hs next Q fun st' a' w' pr' lam' hk hs' => hn _ a' w' pr' lam' hk (hs'.nb _)
theorem put_nb (st : St) (dst : Option Nat) (v : V) (tk : Option (Nat × TypeId)) (n : Nat) : { st.put dst v tk with nb := n } = ({ st with nb := n } : St).put dst v tk := by
  cases dst <;> rfl
theorem opVC_sound (hd : dstOK n' o = true) (h : opVC P dr o st K) : OpOK P n' o st K := by
  have hd' := dstOK_spec hd
  unfold opVC at h
  split at h
  · rename_i e x ho
    obtain ⟨h0, h1, h2, h3⟩ := h
    obtain ⟨n, hn⟩ := Option.isSome_iff_exists.1 h1
    refine opok_nb (opok_box ho rfl hn h2 h0 hd' ?_)
    cases hq : o.dst <;> (rw [hq] at h3; exact h3)
  · rename_i e ho
    split at h
    · rename_i v hz
      obtain ⟨h0, h1, h2, h3⟩ := h
      obtain ⟨n, hn⟩ := Option.isSome_iff_exists.1 h1
      refine opok_nb (opok_alloc ho hz hn h2 h0 hd' ?_)
      cases hq : o.dst <;> (rw [hq] at h3; exact h3)
    · exact h.elim
  · rename_i t x y ho
    unfold storeVC at h
    split at h
    · rename_i i off hx
      split at h
      · rename_i B n hB hs
        exact opok_store ho hx rfl hB h.2.1 hs h.2.2.1 h.1 h.2.2.2.1 h.2.2.2.2
      · exact h.elim
    · exact h.elim
  · rename_i args tys ho
    split at h
    · rename_i ss x t u ha ht
      have ea : args = #[.tmp ss, x] := by obtain ⟨l⟩ := args; simpa using ha
      have et : tys = #[t, u] := by obtain ⟨l⟩ := tys; simpa using ht
      subst ea; subst et
      unfold appendVC at h
      split at h
      · rename_i rows tk e e' hr htk hT
        split at h
        · rename_i sz by' zv hs hb hz
          obtain ⟨⟨rfl, h1, h2, h2b⟩, h3, h4⟩ := h
          have hmax : ∀ m : Nat, m * by' ≤ 140737488355328 → m ≤ maxLen := by
            intro m hm
            have : m * 1 ≤ m * by' := Nat.mul_le_mul_left _ (Nat.one_le_iff_ne_zero.2 h2b)
            simp only [maxLen]; omega
          split at h4
          · rename_i rows2 hx
            obtain ⟨h5, h6, h7⟩ := h4
            exact opok_append_src ho hr htk (sliceT_spec hT) h1 hs hb hz h2 h3 (fun w pr lam xv hxv => Src.list (by rw [hx] at hxv; exact hxv) h5) h6 (hmax _ h6) hd' h7
          · rename_i l hx
            obtain ⟨h5, h6, h7⟩ := h4
            subst h5
            have hl : (bytesV l).length = l.length := by simp [bytesV]
            exact opok_append_src ho hr htk (sliceT_spec hT) h1 hs hb hz h2 h3 (fun w pr lam xv hxv => Src.str (by rw [hx] at hxv; exact hxv)) (by rw [hl]; exact h6) (by rw [hl]; exact hmax _ h6) hd' h7
          · exact h4.elim
        · exact h.elim
      · exact h.elim
    · exact h.elim
  · rename_i t ho
    obtain ⟨h1, h2⟩ := h
    refine opok_nb (opok_makeMap ho h1 hd' ?_)
    cases hq : o.dst <;> (rw [hq] at h2; exact h2)
  · rename_i t m x y ho
    unfold mapPutVC at h
    split at h
    · rename_i i kt et hm hT
      split at h
      · rename_i B ag ks hB hk
        exact opok_mapUpdate ho hm hB h.1 hT hk h.2.1 h.2.2.1 h.2.2.2.1 h.2.2.2.2.1 h.2.2.2.2.2
      · exact h.elim
    · exact h.elim
  · rename_i f args tys ho
    unfold callAVC at h
    split at h
    · rename_i g first cap hf
      rcases h with ⟨h1, h2, res, h3, h4⟩ | ⟨_, h⟩
      · exact opok_qvt (.of (qv_call ho hf h1 h2 h3)) hd' h4
      · exact opok_callB ho hf hd' h
    · exact h.elim
  · obtain ⟨v, tk, hq, hk⟩ := valVC_sound h
    exact opok_qvt hq hd' hk
end
end Go.Eng
namespace Go.Eng
open Go.RowKit
def gdVC (ds : List (Option Nat)) (st : St) (g : Option (Nat × Bool)) (A B : Prop) : Prop :=
  match g with
  | none => A
  | some (j, want) => match ds[j]? with
    | some (some d) => (match st.env d with
      | .bool b => brVC (b == want) A B
      | .un => B
      | _ => False)
    | _ => B
def opsVC (P : Program) (dr : Bool) (ds : List (Option Nat)) : List Oper → St → (St → Prop) → Prop
  | [], st, K => K st
  | o :: os, st, K => gdVC ds st o.guard (opVC P dr o st fun st' => opsVC P dr ds os st' K) (opsVC P dr ds os (st.put o.dst .un none) K)
def gdB (ds : List (Option Nat)) (st : St) (g : Option (Nat × Bool)) : Option Bool :=
  match g with
  | none => some true
  | some (j, want) => match ds[j]? with
    | some (some d) => (match st.env d with
      | .bool b => some (b == want)
      | .un => some false
      | _ => none)
    | _ => some false
theorem brVC_iff (b : Bool) (A B : Prop) : brVC b A B ↔ (b = true ∧ A) ∨ (b = false ∧ B) := by
  cases b <;> simp [brVC]
theorem gdVC_iff {ds : List (Option Nat)} {st : St} {g : Option (Nat × Bool)} {A B : Prop} : gdVC ds st g A B ↔ ((gdB ds st g = some true ∧ A) ∨ (gdB ds st g = some false ∧ B)) := by
  cases g with
  | none => simp [gdVC, gdB]
  | some jw =>
    obtain ⟨j, want⟩ := jw
    simp only [gdVC, gdB]
    cases hd : ds[j]? with
    | none => simp
    | some od =>
      cases od with
      | none => simp
      | some d =>
        simp only
        cases he : st.env d <;> simp [brVC_iff]
section
variable {P : Program} {n' : Nat} {dr : Bool}
theorem wanted_of {F : Fr} {st : St} {a : Act} {w : World} {pr : Nat → Nat → Prop} {lam : Nat → Option Nat} {ops : Array Oper} {o : Oper} {b : Bool} (h : SRel P F st a w pr lam) (hg : gdB (ops.toList.map (·.dst)) st o.guard = some b) :
    Region.wanted o (yielded ops a.tmps) = b := by
  unfold gdB at hg
  unfold Region.wanted
  split at hg
  · rename_i hq; rw [hq]; simpa using hg
  · rename_i j want hq
    rw [hq]
    simp only
    split at hg
    · rename_i d hd
      have hd' : (ops[j]?).bind (·.dst) = some d := by
        rw [List.getElem?_map, Array.getElem?_toList] at hd
        cases ho : ops[j]? with
        | none => rw [ho] at hd; simp at hd
        | some o' => rw [ho] at hd; simpa using hd
      have hr := h.env d
      have hget : ∀ v, a.tmps.getD d undef = v → v ≠ undef → a.tmps[d]? = some v := by
        intro v hv hne
        by_cases hlt : d < a.tmps.size
        · rw [← hv]; simp [hlt]
        · exfalso; apply hne; rw [← hv]; simp [Array.getElem?_eq_none (by omega : a.tmps.size ≤ d)]
      split at hg
      · rename_i b' hb'
        rw [hb'] at hr
        simp only [R] at hr
        have := hget _ hr (by simp [undef])
        simp only [yielded, hd', Option.bind_some, this]
        simpa using hg
      · rename_i hb'
        rw [hb'] at hr
        simp only [R] at hr
        have hy : yielded ops a.tmps j = none := by
          simp only [yielded, hd', Option.bind_some]
          by_cases hlt : d < a.tmps.size
          · have : a.tmps[d]? = some undef := by rw [← hr]; simp [hlt]
            rw [this]; rfl
          · rw [Array.getElem?_eq_none (by omega)]
        rw [hy]
        simpa using hg
      · cases hg
    · rename_i hd
      have hy : yielded ops a.tmps j = none := by
        unfold yielded
        rw [List.getElem?_map, Array.getElem?_toList] at hd
        cases ho : ops[j]? with
        | none => rfl
        | some o' =>
          rw [ho] at hd
          simp only [Option.bind_some]
          cases hq' : o'.dst with
          | none => rfl
          | some d => exact absurd (by rw [Option.map_some, hq']) (hd d)
      rw [hy]
      simpa using hg
theorem SRel.putUn {F : Fr} {st : St} {a : Act} {w : World} {pr : Nat → Nat → Prop} {lam : Nat → Option Nat} (h : SRel P F st a w pr lam) {dst : Option Nat} (hd : ∀ d, dst = some d → d < F.nt) :
    SRel P F (st.put dst .un none) (a.put dst undef) w pr lam := h.put hd (by simp [R]) trivial
theorem opsVC_sound {ops : Array Oper} {K : St → Prop} : ∀ (l : List Oper) (i : Nat) (st : St), (∀ j, l[j]? = ops[i + j]?) → l.all (dstOK n') = true → opsVC P dr (ops.toList.map (·.dst)) l st K →
    ∀ (F : Fr) (a : Act) (w : World) (pr : Nat → Nat → Prop) (lam : Nat → Option Nat), F.nt = n' → SRel P F st a w pr lam → ∀ Q : Exit → Act → World → Prop,
      (∀ st' a' w' pr' lam', K st' → SRel P F st' a' w' pr' lam' → Q .normal a' w') → wpOps P ops Q (List.range' i l.length) a w
  | [], i, st, _, _, h, F, a, w, pr, lam, _, hs, Q, hn => by
    simp only [List.length_nil, List.range'_zero, wpOps]
    exact hn st a w pr lam h hs
  | o :: os, i, st, hl, hall, h, F, a, w, pr, lam, hF, hs, Q, hn => by
    have h0 : ops[i]? = some o := by simpa using (hl 0).symm
    simp only [List.all_cons, Bool.and_eq_true] at hall
    have hl' : ∀ j, os[j]? = ops[i + 1 + j]? := fun j => by have := hl (j + 1); simpa [Nat.add_assoc, Nat.add_comm 1 j] using this
    simp only [List.length_cons, List.range'_succ, wpOps, h0]
    simp only [opsVC] at h
    rcases gdVC_iff.1 h with ⟨hg, h⟩ | ⟨hg, h⟩
    · rw [wanted_of hs hg]
      simp only [if_true]
      left
      exact opVC_sound hall.1 h F a w pr lam hF hs _ _ fun st' a' w' pr' lam' hk hs' => opsVC_sound os (i + 1) st' hl' hall.2 hk F a' w' pr' lam' hF hs' Q hn
    · rw [wanted_of hs hg]
      simp only [Bool.false_eq_true, if_false]
      exact opsVC_sound os (i + 1) _ hl' hall.2 h F _ w pr lam hF (hs.putUn (by rw [hF]; exact dstOK_spec hall.1)) Q hn
theorem QVT.congr {o : Oper} {ρ ρ' : Operand → V} {τ τ' : Operand → Option (Nat × TypeId)} {bx : Nat → Option Box} {v : V} {tk : Option (Nat × TypeId)} (h : QVT P o ρ τ bx v tk)
    (he : ∀ x ∈ o.op.operands, ρ' x = ρ x ∧ τ' x = τ x) : QVT P o ρ' τ' bx v tk := by
  rcases h with ⟨fr, hq, ht⟩ | ⟨x, hx, rfl, rfl⟩
  · refine .inl ⟨fr, fun a w pr lam h1 h2 => hq a w pr lam h1 fun x hx => ?_, ht⟩
    rw [← (he x hx).1]; exact h2 x hx
  · have hm : x ∈ o.op.operands := by rcases hx with hx | hx <;> simp [hx, Op.operands]
    exact .inr ⟨x, hx, ((he x hm).1).symm, ((he x hm).2).symm⟩
theorem put_comm (st : St) {x y : Option Nat} (v u : V) (tv tu : Option (Nat × TypeId)) (h : ∀ d, x = some d → y ≠ some d) : (st.put x v tv).put y u tu = (st.put y u tu).put x v tv := by
  cases x with
  | none => rfl
  | some d =>
    cases y with
    | none => rfl
    | some e =>
      have hne : d ≠ e := fun hde => h d rfl (by rw [hde])
      simp only [St.put]
      congr 1
      funext s
      simp only [upd]
      by_cases h1 : s = d
      · have h2 : ¬ s = e := fun h2 => hne (h1.symm.trans h2)
        rw [if_neg h2, if_pos h1, if_pos h1]
      · rw [if_neg h1]
        by_cases h2 : s = e
        · rw [if_pos h2, if_neg h1]
        · rw [if_neg h2, if_neg h1]
theorem put_eval {st : St} {dst : Option Nat} {v : V} {tk : Option (Nat × TypeId)} {ops : Array Oper} {o : Oper} (h : ∀ d, dst = some d → d ∉ o.looksAt ops) :
    (∀ x ∈ o.op.operands, (st.put dst v tk).eval x = st.eval x ∧ (st.put dst v tk).tokOf x = st.tokOf x) ∧ gdB (ops.toList.map (·.dst)) (st.put dst v tk) o.guard = gdB (ops.toList.map (·.dst)) st o.guard := by
  cases dst with
  | none => exact ⟨fun _ _ => ⟨rfl, rfl⟩, rfl⟩
  | some d =>
    have hd := h d rfl
    simp only [Oper.looksAt, List.mem_append, not_or] at hd
    constructor
    · intro x hx
      cases x with
      | tmp t =>
        have hne : t ≠ d := by
          rintro rfl
          apply hd.1
          rw [List.mem_filterMap]
          exact ⟨.tmp t, by simpa using hx, rfl⟩
        simp only [St.eval, St.tokOf, St.env_put, St.tok_put, upd, if_neg hne, and_self]
      | const v => exact ⟨rfl, rfl⟩
      | global g => exact ⟨rfl, rfl⟩
      | func f => exact ⟨rfl, rfl⟩
    · unfold gdB
      cases hg : o.guard with
      | none => rfl
      | some gw =>
        obtain ⟨j, want⟩ := gw
        simp only
        cases hds : (ops.toList.map (·.dst))[j]? with
        | none => rfl
        | some od =>
          cases od with
          | none => rfl
          | some d' =>
            simp only
            have hne : d' ≠ d := by
              rintro rfl
              apply hd.2
              rw [hg]
              rw [List.getElem?_map, Array.getElem?_toList] at hds
              cases ho : ops[j]? with
              | none => rw [ho] at hds; simp at hds
              | some o' =>
                rw [ho] at hds
                simp at hds
                simp only [ho, Option.bind_some, hds]
                simp
            simp only [St.env_put, upd, if_neg hne]
theorem OpOK.mono {o : Oper} {st : St} {K K' : St → Prop} (h : OpOK P n' o st K) (hk : ∀ st, K st → K' st) : OpOK P n' o st K' :=
  fun F a w pr lam hF hs next Q hn => h F a w pr lam hF hs next Q fun st' a' w' pr' lam' k r => hn st' a' w' pr' lam' (hk st' k) r
def quietOp (o : Oper) : Bool := match o.op with
  | .box .. | .alloc _ | .store .. | .mapUpdate .. | .makeMap .. => false
  | .call { callee := .builtin .append, .. } => false
  | _ => true
def ancB (ops : Array Oper) : Nat → Nat → Nat → Bool
  | 0, _, _ => false
  | fuel + 1, j, i => match ops[j]? with
    | some o => o.after.toList.any fun e => Region.binds .any e && (e.on == i || ancB ops fuel e.on i)
    | none => false
def pinned (ops : Array Oper) (k : Nat) : Bool :=
  (List.range ops.size).all fun i => i == k || (if i < k then ancB ops ops.size k i else ancB ops ops.size i k)
def Cl (ops : Array Oper) (listed : Array Bool) : Prop :=
  ∀ (j : Nat) (oj : Oper), ops[j]? = some oj → listed.getD j false = true → ∀ e ∈ oj.after, Region.binds .any e = true → listed.getD e.on false = true
theorem anc_listed {ops : Array Oper} {listed : Array Bool} (hc : Cl ops listed) {i : Nat} : ∀ (fuel j : Nat), ancB ops fuel j i = true →
    (∀ oj, ops[j]? = some oj → ∀ e ∈ oj.after, Region.binds .any e = true → listed.getD e.on false = true) → listed.getD i false = true
  | 0, _, h, _ => by simp [ancB] at h
  | fuel + 1, j, h, hj => by
    simp only [ancB] at h
    split at h
    · rename_i o ho
      rw [List.any_eq_true] at h
      obtain ⟨e, he, h⟩ := h
      simp only [Bool.and_eq_true, Bool.or_eq_true, beq_iff_eq] at h
      have hl := hj o ho e (by simpa using he) h.1
      rcases h.2 with h2 | h2
      · rw [← h2]; exact hl
      · exact anc_listed hc fuel e.on h2 fun oj hoj e' he' hb' => hc e.on oj hoj hl e' he' hb'
    · cases h
theorem unlisted_of {listed : Array Bool} {i : Nat} (h : listed.getD i true = false) : listed.getD i false = false := by
  rcases Nat.lt_or_ge i listed.size with h' | h'
  · simpa [h'] using h
  · simp [Array.getElem?_eq_none h'] at h
theorem pinned_alone {ops : Array Oper} {listed : Array Bool} (hc : Cl ops listed) {i j : Nat} (hp : pinned ops j = true) (hi : i ∈ Region.ready .any ops listed) (hj : j ∈ Region.ready .any ops listed) : i = j := by
  apply Classical.byContradiction
  intro hne
  obtain ⟨ui, oi, hoi, ai⟩ := mem_ready.1 hi
  obtain ⟨uj, oj, hoj, aj⟩ := mem_ready.1 hj
  unfold pinned at hp
  rw [List.all_eq_true] at hp
  have hlt : i < ops.size := (Array.getElem?_eq_some_iff.1 hoi).1
  have h := hp i (by simpa using hlt)
  simp only [Bool.or_eq_true, beq_iff_eq, hne, false_or] at h
  split at h
  · have := anc_listed hc _ j h (fun o ho e he hb => by rw [hoj] at ho; cases ho; exact aj e he hb)
    rw [unlisted_of ui] at this; cases this
  · have := anc_listed hc _ i h (fun o ho e he hb => by rw [hoi] at ho; cases ho; exact ai e he hb)
    rw [unlisted_of uj] at this; cases this
theorem Cl.step {ops : Array Oper} {listed : Array Bool} (hc : Cl ops listed) {i : Nat} (hi : i ∈ Region.ready .any ops listed) : Cl ops (listed.setIfInBounds i true) := by
  intro j oj hoj hl e he hb
  obtain ⟨ui, oi, hoi, ai⟩ := mem_ready.1 hi
  by_cases hji : j = i
  · subst hji
    rw [hoi] at hoj; cases hoj
    exact getD_set_true (ai e he hb)
  · rw [getD_set_ne false (Ne.symm hji)] at hl
    exact getD_set_true (hc j oj hoj hl e he hb)
def qStep (P : Program) (n' : Nat) (ops : Array Oper) (i : Nat) (K : St → Prop) (st : St) : Prop :=
  match ops[i]? with
  | none => K st
  | some o => (gdB (ops.toList.map (·.dst)) st o.guard = some true ∧ ((∃ v tk, QVT P o st.eval st.tokOf st.box v tk ∧ K (st.put o.dst v tk)) ∨ (quietOp o = false ∧ OpOK P n' o st K))) ∨
      (gdB (ops.toList.map (·.dst)) st o.guard = some false ∧ K (st.put o.dst .un none))
theorem qStep_mono {ops : Array Oper} {i : Nat} {K K' : St → Prop} {st : St} (hk : ∀ st, K st → K' st) (h : qStep P n' ops i K st) : qStep P n' ops i K' st := by
  unfold qStep at *
  split
  · rename_i ho; rw [ho] at h; exact hk _ h
  · rename_i o ho
    rw [ho] at h
    rcases h with ⟨h1, ⟨v, tk, h2, h3⟩ | ⟨h2, h3⟩⟩ | ⟨h1, h2⟩
    · exact .inl ⟨h1, .inl ⟨v, tk, h2, hk _ h3⟩⟩
    · exact .inl ⟨h1, .inr ⟨h2, h3.mono hk⟩⟩
    · exact .inr ⟨h1, hk _ h2⟩
def sAny (P : Program) (n' : Nat) (ops : Array Oper) (Q : St → Prop) : Nat → Array Bool → St → Prop
  | 0, listed, st => Region.ready .any ops listed = [] ∧ Q st
  | fuel + 1, listed, st => (Region.ready .any ops listed = [] → Q st) ∧ ∀ i ∈ Region.ready .any ops listed, qStep P n' ops i (sAny P n' ops Q fuel (listed.setIfInBounds i true)) st
theorem wpAny_of_sAny {ops : Array Oper} {K : St → Prop} (hall : ∀ (i : Nat) (o : Oper), ops[i]? = some o → dstOK n' o = true) {F : Fr} (hF : F.nt = n') {Q : Exit → Act → World → Prop}
    (hn : ∀ st' a' w' pr' lam', K st' → SRel P F st' a' w' pr' lam' → Q .normal a' w') : ∀ (fuel : Nat) (listed : Array Bool) (st : St) (a : Act) (w : World) (pr : Nat → Nat → Prop) (lam : Nat → Option Nat), SRel P F st a w pr lam →
      sAny P n' ops K fuel listed st → wpAny P .any ops Q fuel listed a w
  | 0, _, st, a, w, pr, lam, hs, h => ⟨h.1, hn st a w pr lam h.2 hs⟩
  | fuel + 1, listed, st, a, w, pr, lam, hs, h => by
    refine ⟨fun h0 => hn st a w pr lam (h.1 h0) hs, fun i hi => ?_⟩
    have hq := h.2 i hi
    unfold qStep at hq
    unfold wpOp
    split
    · rename_i ho; rw [ho] at hq; exact wpAny_of_sAny hall hF hn fuel _ st a w pr lam hs hq
    · rename_i o ho
      rw [ho] at hq
      have hd := dstOK_spec (hall i o ho)
      rcases hq with ⟨hg, ⟨v, tk, hv, hk⟩ | ⟨_, hk⟩⟩ | ⟨hg, hk⟩
      · rw [wanted_of hs hg]
        simp only [if_true]
        left
        exact opok_qvt (K := fun st' => sAny P n' ops K fuel (listed.setIfInBounds i true) st') hv hd hk F a w pr lam hF hs _ _ fun st' a' w' pr' lam' hk' hs' => wpAny_of_sAny hall hF hn fuel _ st' a' w' pr' lam' hs' hk'
      · rw [wanted_of hs hg]
        simp only [if_true]
        left
        exact hk F a w pr lam hF hs _ _ fun st' a' w' pr' lam' hk' hs' => wpAny_of_sAny hall hF hn fuel _ st' a' w' pr' lam' hs' hk'
      · rw [wanted_of hs hg]
        simp only [Bool.false_eq_true, if_false]
        exact wpAny_of_sAny hall hF hn fuel _ _ _ w pr lam (hs.putUn (by rw [hF]; exact hd)) hk
def Yld (P : Program) (ops : Array Oper) (o : Oper) (v : V) (tk : Option (Nat × TypeId)) (st : St) : Prop :=
  (gdB (ops.toList.map (·.dst)) st o.guard = some true ∧ QVT P o st.eval st.tokOf st.box v tk) ∨ (gdB (ops.toList.map (·.dst)) st o.guard = some false ∧ v = .un ∧ tk = none)
theorem Yld.step {ops : Array Oper} {i : Nat} {o : Oper} {v : V} {tk : Option (Nat × TypeId)} {st : St} {K : St → Prop} (ho : ops[i]? = some o) (hy : Yld P ops o v tk st) (hk : K (st.put o.dst v tk)) : qStep P n' ops i K st := by
  unfold qStep
  rw [ho]
  rcases hy with ⟨h1, h2⟩ | ⟨h1, rfl, rfl⟩
  · exact .inl ⟨h1, .inl ⟨v, tk, h2, hk⟩⟩
  · exact .inr ⟨h1, hk⟩
theorem put_box (st : St) (dst : Option Nat) (v : V) (tk : Option (Nat × TypeId)) : (st.put dst v tk).box = st.box := by cases dst <;> rfl
theorem Yld.put {ops : Array Oper} {o : Oper} {v u : V} {tk tu : Option (Nat × TypeId)} {st : St} {dst : Option Nat} (hy : Yld P ops o v tk st) (h : ∀ d, dst = some d → d ∉ o.looksAt ops) : Yld P ops o v tk (st.put dst u tu) := by
  obtain ⟨h1, h2⟩ := put_eval (st := st) (v := u) (tk := tu) h
  unfold Yld
  rw [h2, put_box]
  rcases hy with ⟨q1, q2⟩ | ⟨q1, q2⟩
  · exact .inl ⟨q1, q2.congr h1⟩
  · exact .inr ⟨q1, q2⟩
theorem qStep_put {ops : Array Oper} {j : Nat} {oi oj : Oper} {v : V} {tk : Option (Nat × TypeId)} (hj : ops[j]? = some oj) (hqj : quietOp oj = true) (hap : oi.apart ops oj = true) {K : St → Prop} {st : St} (hy : Yld P ops oi v tk st)
    (h : qStep P n' ops j K (st.put oi.dst v tk)) : qStep P n' ops j (fun st' => Yld P ops oi v tk st' ∧ K (st'.put oi.dst v tk)) st := by
  obtain ⟨h1, h2, h3⟩ := Oper.apart_spec hap
  obtain ⟨e1, e2⟩ := put_eval (st := st) (v := v) (tk := tk) h1
  unfold qStep at *
  rw [hj] at h ⊢
  simp only at h ⊢
  rw [e2, put_box] at h
  rcases h with ⟨q1, ⟨u, tu, q2, q3⟩ | ⟨q2, _⟩⟩ | ⟨q1, q2⟩
  · refine .inl ⟨q1, .inl ⟨u, tu, q2.congr fun x hx => ⟨((e1 x hx).1).symm, ((e1 x hx).2).symm⟩, hy.put h3, ?_⟩⟩
    rw [put_comm st u v tu tk (fun d hd hd' => h2 d hd' hd)]
    exact q3
  · rw [hqj] at q2; cases q2
  · refine .inr ⟨q1, hy.put h3, ?_⟩
    rw [put_comm st _ v _ tk (fun d hd hd' => h2 d hd' hd)]
    exact q2
theorem sAny_first {ops : Array Oper} {Q : St → Prop} {i : Nat} {oi : Oper} {v : V} {tk : Option (Nat × TypeId)} (hi : ops[i]? = some oi)
    (hpin : ∀ (j : Nat) (oj : Oper), ops[j]? = some oj → quietOp oj = false → pinned ops j = true) :
    ∀ (fuel : Nat) (listed : Array Bool) (st : St), Cl ops listed →
      (∀ (j : Nat) (oj : Oper), ops[j]? = some oj → j ≠ i → listed.getD j true = false → (∀ e ∈ oj.after, Region.binds .any e = true → e.on ≠ i) → oi.apart ops oj = true) →
      i ∈ Region.ready .any ops listed → Yld P ops oi v tk st →
      sAny P n' ops Q fuel (listed.setIfInBounds i true) (st.put oi.dst v tk) → sAny P n' ops Q (fuel + 1) listed st := by
  intro fuel
  induction fuel with
  | zero =>
    intro listed st _ _ hr hy H
    refine ⟨fun h => (by rw [h] at hr; cases hr), fun j hj => ?_⟩
    by_cases hji : j = i
    · subst hji; exact hy.step hi H
    · have := ready_mono hj hji
      rw [H.1] at this
      cases this
  | succ fuel ih =>
    intro listed st hcl hfree hr hy H
    refine ⟨fun h => (by rw [h] at hr; cases hr), fun j hj => ?_⟩
    by_cases hji : j = i
    · subst hji; exact hy.step hi H
    · have h1 := H.2 j (ready_mono hj hji)
      obtain ⟨hjun, oj, hoj, hall⟩ := mem_ready.1 hj
      have hnot : ∀ e ∈ oj.after, Region.binds .any e = true → e.on ≠ i := fun e he hb heq => by
        have h1 := hall e he hb
        have h0 := (mem_ready.1 hr).1
        rw [heq] at h1
        rcases Nat.lt_or_ge i listed.size with h' | h'
        · simp [h'] at h0 h1; rw [h0] at h1; cases h1
        · simp [Array.getElem?_eq_none h'] at h1
      have hqj : quietOp oj = true := by
        cases hq : quietOp oj with
        | true => rfl
        | false => exact absurd (pinned_alone hcl (hpin j oj hoj hq) hr hj) (Ne.symm hji)
      have h2 := qStep_put hoj hqj (hfree j oj hoj hji hjun hnot) hy h1
      have hfree' : ∀ (k : Nat) (ok : Oper), ops[k]? = some ok → k ≠ i → (listed.setIfInBounds j true).getD k true = false →
          (∀ e ∈ ok.after, Region.binds .any e = true → e.on ≠ i) → oi.apart ops ok = true := fun k ok hk hki hun hno => by
        refine hfree k ok hk hki ?_ hno
        by_cases hjk : j = k
        · subst hjk; exact hjun
        · rw [getD_set_ne true hjk] at hun; exact hun
      refine qStep_mono (fun st' h3 => ih (listed.setIfInBounds j true) st' (hcl.step hj) hfree' (ready_mono hr (Ne.symm hji)) h3.1 ?_) h2
      rw [Array.setIfInBounds_comm _ _ hji]
      exact h3.2
theorem opVC_quiet {o : Oper} {st : St} {K : St → Prop} (hq : quietOp o = true) (h : opVC P true o st K) : ∃ v tk, QVT P o st.eval st.tokOf st.box v tk ∧ K (st.put o.dst v tk) := by
  unfold opVC at h
  split at h
  · rename_i ho; simp [quietOp, ho] at hq
  · rename_i ho; simp [quietOp, ho] at hq
  · rename_i ho; simp [quietOp, ho] at hq
  · rename_i ho; simp [quietOp, ho] at hq
  · rename_i ho; simp [quietOp, ho] at hq
  · rename_i ho; simp [quietOp, ho] at hq
  · rename_i f args tys ho
    unfold callAVC at h
    split at h
    · rename_i g first cap hf
      rcases h with ⟨h1, h2, res, h3, h4⟩ | ⟨h, _⟩
      · exact ⟨res, none, .of (qv_call ho hf h1 h2 h3), h4⟩
      · cases h
    · exact h.elim
  · exact valVC_sound h
def pinOK (ops : Array Oper) : Bool := (List.range ops.size).all fun j => match ops[j]? with
  | some o => quietOp o || pinned ops j
  | none => true
theorem pinOK_spec {ops : Array Oper} (h : pinOK ops = true) (j : Nat) (oj : Oper) (hj : ops[j]? = some oj) (hq : quietOp oj = false) : pinned ops j = true := by
  unfold pinOK at h
  rw [List.all_eq_true] at h
  have := h j (by simpa using (Array.getElem?_eq_some_iff.1 hj).1)
  rw [hj] at this
  simpa [hq] using this
theorem sAny_lex {ops : Array Oper} {K : St → Prop} (hpin : pinOK ops = true) : ∀ (l : List Oper) (k : Nat) (listed : Array Bool) (st : St), (∀ j, l[j]? = ops[k + j]?) → Cl ops listed → l.all (dstOK n') = true →
    Region.lexFrom .any ops l.length k listed = true → opsVC P true (ops.toList.map (·.dst)) l st K → sAny P n' ops K l.length listed st
  | [], _, _, _, _, _, _, hB, h => ⟨by simpa [Region.lexFrom] using hB, h⟩
  | o :: l, k, listed, st, hl, hcl, hall, hB, h => by
    have h0 : ops[k]? = some o := by simpa using (hl 0).symm
    simp only [List.length_cons, Region.lexFrom, Bool.and_eq_true] at hB
    obtain ⟨⟨hr, hf⟩, hB'⟩ := hB
    simp only [List.all_cons, Bool.and_eq_true] at hall
    have hr' : k ∈ Region.ready .any ops listed := by simpa using hr
    have hl' : ∀ j, l[j]? = ops[k + 1 + j]? := fun j => by have := hl (j + 1); simpa [Nat.add_assoc, Nat.add_comm 1 j] using this
    simp only [opsVC] at h
    cases hq : quietOp o with
    | true =>
      have hst : ∃ v tk, Yld P ops o v tk st ∧ opsVC P true (ops.toList.map (·.dst)) l (st.put o.dst v tk) K := by
        rcases gdVC_iff.1 h with ⟨hg, h⟩ | ⟨hg, h⟩
        · obtain ⟨v, tk, q1, q2⟩ := opVC_quiet hq h
          exact ⟨v, tk, .inl ⟨hg, q1⟩, q2⟩
        · exact ⟨.un, none, .inr ⟨hg, rfl, rfl⟩, h⟩
      obtain ⟨v, tk, hy, hK⟩ := hst
      exact sAny_first h0 (pinOK_spec hpin) l.length listed st hcl (Region.free_spec h0 hf) hr' hy (sAny_lex hpin l (k + 1) _ _ hl' (hcl.step hr') hall.2 hB' hK)
    | false =>
      refine ⟨fun h => (by rw [h] at hr'; cases hr'), fun j hj => ?_⟩
      have hjk := pinned_alone hcl (pinOK_spec hpin k o h0 hq) hj hr'
      subst hjk
      unfold qStep
      rw [h0]
      rcases gdVC_iff.1 h with ⟨hg, h⟩ | ⟨hg, h⟩
      · exact .inl ⟨hg, .inr ⟨hq, (opVC_sound hall.1 h).mono fun st' hk => sAny_lex hpin l (j + 1) _ st' hl' (hcl.step hr') hall.2 hB' hk⟩⟩
      · exact .inr ⟨hg, sAny_lex hpin l (j + 1) _ _ hl' (hcl.step hr') hall.2 hB' h⟩
end
end Go.Eng
namespace Go.Eng
open Go.RowKit
def AWp (P : Program) (n' : Nat) (c : Code) (st : St) (Q : Exit → St → Prop) : Prop :=
  ∀ (F : Fr) (a : Act) (w : World) (pr : Nat → Nat → Prop) (lam : Nat → Option Nat), F.nt = n' → SRel P F st a w pr lam →
    c.wp P (fun ex a' w' => ∃ st' pr' lam', Q ex st' ∧ SRel P F st' a' w' pr' lam') a w
def thenQ (K : St → Prop) (Q : Exit → St → Prop) : Exit → St → Prop
  | .normal, st => K st
  | e, st => Q e st
def blockQ (id : Nat) (Q : Exit → St → Prop) : Exit → St → Prop
  | .exit id', st => if id' = id then Q .normal st else Q (.exit id') st
  | e, st => Q e st
def condVC (v : V) (A B : Prop) : Prop := match v with | .bool b => brVC b A B | _ => False
theorem condVC_bool (b : Bool) (A B : Prop) : condVC (.bool b) A B = brVC b A B := rfl
theorem condVC_congr {v v' : V} {A B : Prop} (h : v = v') : condVC v A B = condVC v' A B := by rw [h]
def regVC (P : Program) (dr : Bool) (ops : Array Oper) (st : St) (K : St → Prop) : Prop := opsVC P dr (ops.toList.map (·.dst)) ops.toList st K
def codeVC (P : Program) (n' : Nat) (hd : List Nat) : Code → St → (Exit → St → Prop) → Prop
  | .skip, st, Q => Q .normal st
  | .label _, st, Q => Q .normal st
  | .region id ops draw, st, Q => if hd.contains id = true then AWp P n' (.region id ops draw) st Q else regVC P draw ops st (Q .normal)
  | .seq a b, st, Q => codeVC P n' hd a st (thenQ (fun st' => codeVC P n' hd b st' Q) Q)
  | .cond c t e, st, Q => condVC (st.eval c) (codeVC P n' hd t st Q) (codeVC P n' hd e st Q)
  | .block id b, st, Q => codeVC P n' hd b st (blockQ id Q)
  | .exit id, st, Q => Q (.exit id) st
  | .ret, st, Q => Q .ret st
  | c, st, Q => AWp P n' c st Q
theorem codeVC_congr {P : Program} {n' : Nat} {hd : List Nat} {c : Code} {st st' : St} {Q : Exit → St → Prop} (h : st = st') : codeVC P n' hd c st Q = codeVC P n' hd c st' Q := by rw [h]
theorem AWp_congr {P : Program} {n' : Nat} {c : Code} {st st' : St} {Q : Exit → St → Prop} (h : st = st') : AWp P n' c st Q = AWp P n' c st' Q := by rw [h]
def codeOK (n' : Nat) (hd : List Nat) : Code → Bool
  | .region id ops draw => hd.contains id || (ops.toList.all (dstOK n') && (!draw || (pinOK ops && Region.lexB .any ops)))
  | .seq a b => codeOK n' hd a && codeOK n' hd b
  | .cond _ a b => codeOK n' hd a && codeOK n' hd b
  | .block _ b => codeOK n' hd b
  | _ => true
theorem AWp.mono {P : Program} {n' : Nat} {c : Code} {st : St} {Q Q' : Exit → St → Prop} (h : AWp P n' c st Q) (hq : ∀ e st, Q e st → Q' e st) : AWp P n' c st Q' :=
  fun F a w pr lam hF hs => wp_mono (h F a w pr lam hF hs) fun e a w ⟨st', pr', lam', q, r⟩ => ⟨st', pr', lam', hq e st' q, r⟩
theorem SRel.drew {P : Program} {F : Fr} {st : St} {a : Act} {w : World} {pr : Nat → Nat → Prop} {lam : Nat → Option Nat} (h : SRel P F st a w pr lam) : SRel P F st a { w with drawn := w.drawn + 1 } pr lam :=
  h.ext (Ext.drew 1)
theorem codeVC_sound {P : Program} {n' : Nat} {hd : List Nat} (hm : P.follows .mixedOrders = true) : ∀ (c : Code) (st : St) (Q : Exit → St → Prop), codeOK n' hd c = true → codeVC P n' hd c st Q → AWp P n' c st Q
  | .skip, st, Q, _, h => fun F a w pr lam _ hs => wp_skip ⟨st, pr, lam, h, hs⟩
  | .label _, st, Q, _, h => fun F a w pr lam _ hs => wp_label ⟨st, pr, lam, h, hs⟩
  | .exit id, st, Q, _, h => fun F a w pr lam _ hs => wp_exit ⟨st, pr, lam, h, hs⟩
  | .ret, st, Q, _, h => fun F a w pr lam _ hs => wp_ret ⟨st, pr, lam, h, hs⟩
  | .seq x y, st, Q, hok, h => by
    simp only [codeOK, Bool.and_eq_true] at hok
    intro F a w pr lam hF hs
    refine wp_seq (wp_mono (codeVC_sound hm x st _ hok.1 h F a w pr lam hF hs) ?_)
    rintro e a' w' ⟨st', pr', lam', q, r⟩
    cases e with
    | normal => exact codeVC_sound hm y st' Q hok.2 q F a' w' pr' lam' hF r
    | exit id => exact ⟨st', pr', lam', q, r⟩
    | goto l => exact ⟨st', pr', lam', q, r⟩
    | ret => exact ⟨st', pr', lam', q, r⟩
    | panic c => exact ⟨st', pr', lam', q, r⟩
    | outgrown => exact ⟨st', pr', lam', q, r⟩
  | .cond c x y, st, Q, hok, h => by
    simp only [codeOK, Bool.and_eq_true] at hok
    intro F a w pr lam hF hs
    simp only [codeVC, condVC] at h
    split at h
    · rename_i b hb
      have hr := hs.eval c
      rw [hb] at hr
      simp only [R] at hr
      exact wp_cond_split hr (fun ht => codeVC_sound hm x st Q hok.1 (h.1 ht) F a w pr lam hF hs) (fun hf => codeVC_sound hm y st Q hok.2 (h.2 hf) F a w pr lam hF hs)
    · exact h.elim
  | .block id b, st, Q, hok, h => by
    intro F a w pr lam hF hs
    refine wp_block (wp_mono (codeVC_sound hm b st _ hok h F a w pr lam hF hs) ?_)
    rintro e a' w' ⟨st', pr', lam', q, r⟩
    cases e with
    | exit id' =>
      simp only [blockQ] at q
      simp only [Exit.inBlock]
      split at q
      · rename_i hid; rw [if_pos hid]; exact ⟨st', pr', lam', q, r⟩
      · rename_i hid; rw [if_neg hid]; exact ⟨st', pr', lam', q, r⟩
    | normal => exact ⟨st', pr', lam', q, r⟩
    | goto l => exact ⟨st', pr', lam', q, r⟩
    | ret => exact ⟨st', pr', lam', q, r⟩
    | panic c => exact ⟨st', pr', lam', q, r⟩
    | outgrown => exact ⟨st', pr', lam', q, r⟩
  | .region id ops draw, st, Q, hok, h => by
    simp only [codeVC] at h
    split at h
    · exact h
    · rename_i hnc
      simp only [codeOK, Bool.or_eq_true, Bool.and_eq_true] at hok
      have hok' := hok.resolve_left hnc
      have hall := hok'.1
      have hdr := hok'.2
      intro F a w pr lam hF hs
      cases draw with
      | false =>
        refine wp_region ?_
        have := opsVC_sound (P := P) (n' := n') (ops := ops) ops.toList 0 st (by simp) hall h F a w pr lam hF hs (fun ex a' w' => ∃ st' pr' lam', Q ex st' ∧ SRel P F st' a' w' pr' lam') (fun st' a' w' pr' lam' k r => ⟨st', pr', lam', k, r⟩)
        rwa [Array.length_toList, ← List.range_eq_range'] at this
      | true =>
        simp only [Bool.not_true, Bool.false_eq_true, false_or] at hdr
        obtain ⟨hq, hlex⟩ := hdr
        simp only [Region.lexB, Bool.and_eq_true] at hlex
        refine wp_region_any hm ?_
        have hcl : Cl ops (Array.replicate ops.size false) := by
          intro j oj _ hj
          by_cases hlt : j < ops.size <;> simp [hlt] at hj
        have hst := sAny_lex (P := P) (n' := n') (ops := ops) (K := Q .normal) hq ops.toList 0 (Array.replicate ops.size false) st (by simp) hcl hall (by simpa using hlex.2) h
        rw [Array.length_toList] at hst
        refine wpAny_of_sAny (n' := n') (fun i o ho => ?_) hF (fun st' a' w' pr' lam' k r => ⟨st', pr', lam', k, r⟩) _ _ st a _ pr lam hs.drew hst
        exact List.all_eq_true.1 hall o (by simpa using Array.mem_of_getElem? ho)
  | .loop _, _, _, _, h => h
  | .rangeFunc _ _ _ _, _, _, _, h => h
  | .scope _, _, _, _, h => h
  | .goto _, _, _, _, h => h
  | .refuse _, _, _, _, h => h
theorem wp_loop_ix {P : Program} {c : Code} {Q : Exit → Act → World → Prop} (I : Nat → Act → World → Prop)
    (round : ∀ k a w, I k a w → c.wp P (Exit.then (fun a' w' => ∃ k', k' < k ∧ I k' a' w') Q) a w) : ∀ (k : Nat) (a : Act) (w : World), I k a w → (Code.loop c).wp P Q a w := by
  intro k a w h₀ b ks cs
  have key : ∀ n a w, I n a w →
      ∃ e a' w', Q e a' w' ∧ Arrives P (lone (b.at a (.code c :: .inLoop c :: ks)) cs w) b ks cs e a' w' := by
    intro n
    induction n using Nat.strongRecOn with
    | _ n ih =>
      intro a w hI
      obtain ⟨e, a₁, w₁, hq, harr⟩ := round n a w hI b (.inLoop c :: ks) cs
      cases e with
      | normal =>
        obtain ⟨k', hlt, hI₁⟩ := hq
        obtain ⟨e₂, a₂, w₂, hq₂, harr₂⟩ := ih k' hlt a₁ w₁ hI₁
        exact ⟨e₂, a₂, w₂, hq₂, .of_steps (Steps.trans harr (.one step_inLoop)) harr₂⟩
      | exit id => exact ⟨_, a₁, w₁, hq, .pass (x := .inLoop c) rfl (fun _ _ => .inl (by simp)) harr⟩
      | goto l => exact ⟨_, a₁, w₁, hq, .pass (x := .inLoop c) rfl (fun _ _ => .inl (by simp)) harr⟩
      | ret => exact ⟨_, a₁, w₁, hq, .pass (x := .inLoop c) rfl (fun _ _ => .inl (by simp)) harr⟩
      | panic ch => exact ⟨_, a₁, w₁, hq, .pass (x := .inLoop c) rfl (fun _ _ => .inl (by simp)) harr⟩
      | outgrown => exact ⟨_, a₁, w₁, hq, .pass (x := .inLoop c) rfl (fun _ _ => .inl (by simp)) harr⟩
  obtain ⟨e, a', w', hq, harr⟩ := key k a w h₀
  exact ⟨e, a', w', hq, .of_steps (.one step_loop) harr⟩
theorem AWp.loop {P : Program} {n' : Nat} {c : Code} {Q : Exit → St → Prop} (I : Nat → St → Prop)
    (round : ∀ k st, I k st → AWp P n' c st (thenQ (fun st' => ∃ k', k' < k ∧ I k' st') Q)) {k : Nat} {st : St} (h : I k st) : AWp P n' (.loop c) st Q := by
  intro F a w pr lam hF hs
  refine wp_loop_ix (fun k a w => ∃ st pr lam, I k st ∧ SRel P F st a w pr lam) ?_ k a w ⟨st, pr, lam, h, hs⟩
  rintro k a w ⟨st, pr, lam, hI, hs⟩
  refine wp_mono (round k st hI F a w pr lam hF hs) ?_
  rintro e a' w' ⟨st', pr', lam', q, r⟩
  cases e with
  | normal => obtain ⟨k', h1, h2⟩ := q; exact ⟨k', h1, st', pr', lam', h2, r⟩
  | exit id => exact ⟨st', pr', lam', q, r⟩
  | goto l => exact ⟨st', pr', lam', q, r⟩
  | ret => exact ⟨st', pr', lam', q, r⟩
  | panic c => exact ⟨st', pr', lam', q, r⟩
  | outgrown => exact ⟨st', pr', lam', q, r⟩
theorem AWp.loopVC {P : Program} (hm : P.follows .mixedOrders = true) {n' : Nat} {hd : List Nat} {c : Code} {Q : Exit → St → Prop} (I : Nat → St → Prop) (hok : codeOK n' hd c = true)
    (round : ∀ k st, I k st → codeVC P n' hd c st (thenQ (fun st' => ∃ k', k' < k ∧ I k' st') Q)) {k : Nat} {st : St} (h : I k st) : AWp P n' (.loop c) st Q :=
  AWp.loop I (fun k st hI => codeVC_sound hm c st _ hok (round k st hI)) h
def St.init (args : List V) (ins : List Box) : St :=
  { nb := ins.length, sl := fun s => (args.getD s .un, none), box := fun i => ins[i]? }
def resOne (st : St) (P : Program) : ResultVar → Option V
  | .tmp t => some (st.env t)
  | .cell a t => match st.env a with
    | .loc i off => (match st.box i, aggT P t with
      | some B, some true => (match sizeT P t with | some n => if B.ty < 1000000000 ∧ off + n ≤ B.cells.length then some (.agg ((B.cells.drop off).take n)) else none | none => none)
      | some B, some false => if B.ty < 1000000000 then B.cells[off]? else none
      | _, _ => none)
    | _ => none
def resAll (st : St) (P : Program) : List ResultVar → Option (List V)
  | [] => some []
  | r :: rs => match resOne st P r, resAll st P rs with
    | some v, some vs => some (v :: vs)
    | _, _ => none
def resV (st : St) (P : Program) (rs : List ResultVar) : Option V :=
  match resAll st P rs with
  | some [v] => some v
  | some vs => some (.tup vs)
  | none => none
def endQ (P : Program) (rs : List ResultVar) (res : V) (outs : List Box) : Exit → St → Prop
  | .ret, st | .normal, st => resV st P rs = some res ∧ (∀ i B, outs[i]? = some B → st.box i = some B)
  | _, _ => False
section
variable {P : Program} {F : Fr} {st : St} {a : Act} {w : World} {pr : Nat → Nat → Prop} {lam : Nat → Option Nat}
theorem resOne_run (h : SRel P F st a w pr lam) {g : ResultVar → Sem Value} (g1 : ∀ t, g (.tmp t) = pure (a.tmps.getD t undef)) (g2 : ∀ p t, g (.cell p t) = do loadVar t (← asAddr (a.tmps.getD p undef)))
    {r : ResultVar} {v : V} (hv : resOne st P r = some v) : ∃ x, (g r).run P w = .ok x w ∧ R ⟨w, pr, lam⟩ v x := by
  cases r with
  | tmp t =>
    simp only [resOne, Option.some.injEq] at hv
    subst hv
    rw [g1]
    exact ⟨_, rfl, h.env t⟩
  | cell p t =>
    rw [g2]
    simp only [resOne] at hv
    split at hv
    · rename_i i off hp
      have hr := h.env p
      rw [hp] at hr
      simp only [R] at hr
      obtain ⟨b, hl, e⟩ := hr
      split at hv
      · rename_i B hB ha
        split at hv
        · rename_i n hs
          split at hv
          · rename_i hfit
            obtain ⟨hpl, hfit⟩ := hfit
            simp only [Option.some.injEq] at hv; subst hv
            obtain ⟨b', q1, hat, _⟩ := h.box i B hB
            obtain ⟨cur, q2, q3, q4⟩ := hat.cells hpl
            obtain rfl : b = b' := by rw [show lam i = some b from hl] at q1; cases q1; rfl
            have hlen : ((cur.toList.drop off).take n).length = n := by
              have := q3.length
              simp at this ⊢; omega
            have hrun : (loadVar t ⟨b, off, none⟩).run P w = .ok (.agg ((cur.toList.drop off).take n).toArray) w :=
              run_loadVar_agg ha (by rw [hlen]; exact hs) (fun j y hy => by
                rw [List.getElem?_take] at hy
                split at hy
                · rw [List.getElem?_drop] at hy
                  simpa [World.cell?, q2] using hy
                · cases hy)
            refine ⟨_, by simp only [e, asAddr, Sem.run_bind, Sem.run_pure, Result.andThen_ok]; exact hrun, ?_⟩
            simp only [R]
            exact ⟨_, rfl, (q3.drop off).take n, fun y hy => q4 y (List.mem_of_mem_drop (List.mem_of_mem_take hy))⟩
          · cases hv
        · cases hv
      · rename_i B hB ha
        split at hv
        · rename_i hpl
          obtain ⟨b', q1, hat, _⟩ := h.box i B hB
          obtain ⟨cur, q2, q3, q4⟩ := hat.cells hpl
          obtain rfl : b = b' := by rw [show lam i = some b from hl] at q1; cases q1; rfl
          obtain ⟨y, hy, hr⟩ := q3.get off v hv
          have hcell : w.cell? ⟨b, off, none⟩ = some y := by simpa [World.cell?, q2] using hy
          exact ⟨y, by simp only [e, asAddr, Sem.run_bind, Sem.run_pure, Result.andThen_ok]; exact run_loadVar_one ha hcell, hr⟩
        · cases hv
      · cases hv
    · cases hv
theorem resAll_run (h : SRel P F st a w pr lam) {g : ResultVar → Sem Value} (g1 : ∀ t, g (.tmp t) = pure (a.tmps.getD t undef)) (g2 : ∀ p t, g (.cell p t) = do loadVar t (← asAddr (a.tmps.getD p undef))) :
    ∀ (rs : List ResultVar) (vs : List V), resAll st P rs = some vs → ∃ xs : List Value, (rs.mapM g).run P w = .ok xs w ∧ RL ⟨w, pr, lam⟩ vs xs
  | [], vs, hv => by
    simp only [resAll, Option.some.injEq] at hv; subst hv
    exact ⟨[], by simp, by simp [RL]⟩
  | r :: rs, vs, hv => by
    simp only [resAll] at hv
    split at hv
    · rename_i v vs' h1 h2
      simp only [Option.some.injEq] at hv; subst hv
      obtain ⟨x, q1, q2⟩ := resOne_run h g1 g2 h1
      obtain ⟨xs, q3, q4⟩ := resAll_run h g1 g2 rs vs' h2
      refine ⟨x :: xs, ?_, by simp only [RL]; exact ⟨x, xs, rfl, q2, q4⟩⟩
      simp only [List.mapM_cons, Sem.run_bind, q1, q3, Result.andThen_ok, Sem.run_pure]
    · cases hv
theorem results_run (h : SRel P F st a w pr lam) {fn : Func} {v : V} (hv : resV st P fn.results.toList = some v) : ∃ x, (results fn a.tmps).run P w = .ok x w ∧ R ⟨w, pr, lam⟩ v x := by
  unfold resV at hv
  cases hr : resAll st P fn.results.toList with
  | none => rw [hr] at hv; cases hv
  | some vs =>
    rw [hr] at hv
    have key : ∀ g : ResultVar → Sem Value, (∀ t, g (.tmp t) = pure (a.tmps.getD t undef)) → (∀ p t, g (.cell p t) = do loadVar t (← asAddr (a.tmps.getD p undef))) →
        ∃ xs : List Value, (do let vs ← fn.results.mapM g; pure (if h : vs.size = 1 then vs[0] else .tuple vs) : Sem Value).run P w = .ok (if h : xs.toArray.size = 1 then xs.toArray[0] else .tuple xs.toArray) w ∧ RL ⟨w, pr, lam⟩ vs xs := by
      intro g g1 g2
      obtain ⟨xs, q1, q2⟩ := resAll_run h g1 g2 _ vs hr
      refine ⟨xs, ?_, q2⟩
      have hmm : (fn.results.mapM g).run P w = .ok xs.toArray w := by
        rw [← Array.toArray_toList (xs := fn.results), List.mapM_toArray]
        simp [q1]
      simp only [Sem.run_bind, hmm, Result.andThen_ok, Sem.run_pure]
    obtain ⟨xs, q1, q2⟩ := key (fun r => match r with | .tmp t => pure (a.tmps.getD t undef) | .cell p t => do loadVar t (← asAddr (a.tmps.getD p undef))) (fun _ => rfl) (fun _ _ => rfl)
    refine ⟨_, q1, ?_⟩
    match vs, xs, q2, hv with
    | [u], [x], q2, hv =>
      simp only [Option.some.injEq] at hv; subst hv
      simp only [RL] at q2
      obtain ⟨y, ys, e, q2, rfl⟩ := q2
      simp only [List.cons.injEq, and_true] at e
      subst e
      simpa using q2
    | [], xs, q2, hv =>
      simp only [Option.some.injEq] at hv; subst hv
      have := q2.length
      have hx : xs = [] := List.eq_nil_of_length_eq_zero (by simpa using this.symm)
      subst hx
      simp only [R]
      exact ⟨[], by simp, by simp [RL]⟩
    | u :: u' :: us, xs, q2, hv =>
      simp only [Option.some.injEq] at hv; subst hv
      have hl := q2.length
      simp only [R]
      refine ⟨xs, ?_, q2⟩
      rw [dif_neg]
      simp at hl ⊢; omega
    | [_], [], q2, _ => have := q2.length; simp at this
    | [_], _ :: _ :: _, q2, _ => have := q2.length; simp at this
end
theorem Fn.of_body {P : Program} (hm : P.follows .mixedOrders = true) {f : FuncId} {fn : Func} {c : Code} {args : List V} {ins outs : List Box} {res : V} {hd : List Nat} (hf : P.funcs[f]? = some fn) (hb : fn.body = some c)
    (hok : codeOK fn.ntmps hd c = true) (hsz : args.length ≤ fn.ntmps) (hnl : res.noLoc = true) (hno : ∀ B ∈ outs, V.noLocL B.cells = true)
    (hio : outs.length ≤ ins.length)
    (h : codeVC P fn.ntmps hd c (St.init args ins) (endQ P fn.results.toList res outs)) : Fn P f args ins res outs := by
  intro w pr lam cargs hlt hargs hins hinj hlam
  have hal := hargs.length
  simp at hal
  have hgl : ∀ g vs, GL g = some vs → (∃ ty, w.heap[g]? = some (.cells vs.toArray ty (0, 0))) ∧ ¬ (∃ i, lam i = some g) ∧ ∀ i, i < vs.length → pr g i := fun g vs hg => by
    obtain ⟨h1, h2⟩ := hlt.glob g vs hg
    refine ⟨h1, fun ⟨i, hi⟩ => ?_, h2⟩
    have hil : i < ins.length := by
      rcases Nat.lt_or_ge i ins.length with q | q
      · exact q
      · rw [hlam i q] at hi; cases hi
    obtain ⟨b, q1, _, q3⟩ := hins i _ (List.getElem?_eq_getElem hil)
    rw [hi] at q1; cases q1
    exact q3 0 (h2 0 (GL_pos g vs hg))
  let F : Fr := { nt := fn.ntmps, lam0 := lam, w0 := w, pr0 := pr, io := fun b => ∃ i, lam i = some b, gl := hgl }
  have hs : SRel P F (St.init args ins) { tmps := cargs ++ Array.replicate (fn.ntmps - cargs.size) undef, defers := [] } w pr lam := by
    refine ⟨?_, rfl, fun s => ?_, (fun s t e hs => by cases hs), (fun s s' t t' e e' g hs => by cases hs), fun i B hB => ?_, ?_, (fun i B b s t e _ _ hs => by cases hs), ?_, hlt.lt, ⟨rfl, rfl, rfl, Nat.le_refl _, fun _ _ _ => rfl⟩, fun _ _ h => h, fun _ _ h => .inl h, fun _ _ h => h⟩
    · show (cargs ++ Array.replicate (fn.ntmps - cargs.size) undef).size = fn.ntmps
      simp; omega
    · show R _ (args.getD s .un) _
      by_cases hlt' : s < args.length
      · have : args.getD s .un = args[s] := by simp [List.getD, List.getElem?_eq_getElem hlt']
        rw [this]
        obtain ⟨x, hx, hr⟩ := hargs.get s _ (List.getElem?_eq_getElem hlt')
        have hx' : cargs[s]? = some x := by simpa using hx
        have hsz' : s < cargs.size := by omega
        have : (cargs ++ Array.replicate (fn.ntmps - cargs.size) undef).getD s undef = x := by
          rw [Array.getD_eq_getD_getElem?, Array.getElem?_append, if_pos hsz', hx']; rfl
        show R _ _ ((cargs ++ Array.replicate (fn.ntmps - cargs.size) undef).getD s undef)
        rw [this]
        exact hr
      · have : args.getD s .un = .un := by simp [List.getD, List.getElem?_eq_none (by omega : args.length ≤ s)]
        rw [this]
        show R _ _ ((cargs ++ Array.replicate (fn.ntmps - cargs.size) undef).getD s undef)
        simp only [R]
        rw [Array.getD_eq_getD_getElem?, Array.getElem?_append, if_neg (by omega), Array.getElem?_replicate]
        split <;> rfl
    · obtain ⟨b, q1, q2, q5⟩ := hins i B hB
      exact ⟨b, q1, q2, q5, .inr ⟨i, q1⟩⟩
    · intro i j B B' b _ _ h1 h2; exact hinj i j b h1 h2
    · intro i hi
      refine hlam i ?_
      have : ins[i]? = none := hi
      simpa using this
  have hwp := codeVC_sound hm c _ _ hok h F _ w pr lam rfl hs
  refine calls_of_wp hf hb (wp_mono hwp ?_)
  rintro ex a' w' ⟨st', pr', lam', hq, hr⟩
  have fin : resV st' P fn.results.toList = some res → (∀ i B, outs[i]? = some B → st'.box i = some B) →
      a'.defers = [] ∧ ∃ v, (results fn a'.tmps).run P w' = .ok v w' ∧ ∃ v' pr'', Ending.returned v = .returned v' ∧ R ⟨w', pr'', lam⟩ res v' ∧ InRel w' pr'' lam outs ∧ Left w pr lam w' pr'' := by
    intro hres hout
    obtain ⟨x, hx, hrx⟩ := results_run hr hres
    refine ⟨hr.defers, x, hx, x, pr', rfl, hrx.noLoc _ _ hnl, fun i B hB => ?_, ?_⟩
    · obtain ⟨b, q1, q2, q5, _⟩ := hr.box i B (hout i B hB)
      have hil : i < ins.length := by
        have := (List.getElem?_eq_some_iff.1 hB).1
        omega
      obtain ⟨b0, p1, _⟩ := hins i _ (List.getElem?_eq_getElem hil)
      have hbb : b0 = b := by
        have := hr.lamsub i b0 p1
        rw [q1] at this; cases this; rfl
      subst hbb
      exact ⟨b0, p1, q2.noLoc (hno B (List.mem_of_getElem? hB)), q5⟩
    · refine ⟨hr.keep.os, hr.keep.tape, hr.keep.output, hr.keep.size, fun k hk hn => hr.keep.block k hk (fun ⟨i, hi⟩ => hn i hi), hr.prsub, fun b o hp => ?_⟩
      rcases hr.prnew b o hp with h1 | h1
      · exact .inl h1
      · exact .inr ⟨h1, hr.prlt b o hp⟩
  cases ex with
  | normal => exact fin hq.1 hq.2
  | ret => exact fin hq.1 hq.2
  | exit id => exact hq.elim
  | goto l => exact hq.elim
  | panic c => exact hq.elim
  | outgrown => exact hq.elim
end Go.Eng
