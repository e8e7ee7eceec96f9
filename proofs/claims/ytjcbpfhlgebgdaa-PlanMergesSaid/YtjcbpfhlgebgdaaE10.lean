import Derived.Test.YtjcbpfhlgebgdaaE9N
import Derived.IntWalk
set_option linter.unusedSimpArgs false
set_option linter.unusedVariables false
namespace Go.Eng
open Go.RowKit
def InR (k : IntKind) (n : Int) : Prop := k.wrap n = n
theorem InR_i64 (n : Int) (h : -9223372036854775808 ≤ n ∧ n ≤ 9223372036854775807) : InR .i64 n := IntWalk.i64_in n h
def brVC (b : Bool) (A B : Prop) : Prop := (b = true → A) ∧ (b = false → B)
def pickV (t : Bool) (a b : V) : V :=
  match a, b with
  | .bool x, .bool y => .bool (bif t then x else y)
  | a, b => if t then a else b
theorem pickV_eq (t : Bool) (a b : V) : pickV t a b = if t then a else b := by
  unfold pickV
  split
  · cases t <;> rfl
  · rfl
def sliceT (P : Program) (t : TypeId) : Option TypeId := match P.underlying t with
  | some (.slice e) => some e
  | _ => none
theorem sliceT_spec {P : Program} {t e : TypeId} (h : sliceT P t = some e) : P.underlying t = some (.slice e) := by
  unfold sliceT at h; split at h
  · cases h; assumption
  · cases h
def arrT (P : Program) (t : TypeId) : Option (Nat × TypeId) := match P.underlying t with
  | some (.array n e) => some (n, e)
  | _ => none
theorem arrT_spec {P : Program} {t e : TypeId} {n : Nat} (h : arrT P t = some (n, e)) : P.underlying t = some (.array n e) := by
  unfold arrT at h; split at h
  · cases h; assumption
  · cases h
inductive BK where | int (k : IntKind) | bool | str | other
def basicT (P : Program) (t : TypeId) : BK := match P.underlying t with
  | some (.int k) => .int k
  | some .bool => .bool
  | some .string => .str
  | _ => .other
theorem basicT_int {P : Program} {t : TypeId} {k : IntKind} (h : basicT P t = .int k) : P.underlying t = some (.int k) := by
  unfold basicT at h; split at h <;> cases h; assumption
theorem basicT_bool {P : Program} {t : TypeId} (h : basicT P t = .bool) : P.underlying t = some .bool := by
  unfold basicT at h; split at h <;> cases h; assumption
theorem basicT_str {P : Program} {t : TypeId} (h : basicT P t = .str) : P.underlying t = some .string := by
  unfold basicT at h; split at h <;> cases h; assumption
def loadVC (P : Program) (t : TypeId) (bx : Nat → Option Box) (x : V) (K : V → Prop) : Prop :=
  match x, aggT P t with
  | .elt cs off, some true => match sizeT P t with | some n => off + n ≤ cs.length ∧ K (.agg ((cs.drop off).take n)) | none => False
  | .elt cs off, some false => match cs[off]? with | some c => K c | none => False
  | .loc i off, some true => match bx i, sizeT P t with | some B, some n => B.ty < 1000000000 ∧ off + n ≤ B.cells.length ∧ K (.agg ((B.cells.drop off).take n)) | _, _ => False
  | .loc i off, some false => match bx i with | some B => B.ty < 1000000000 ∧ (match B.cells[off]? with | some c => K c | none => False) | none => False
  | _, _ => False
def intVC (op : BinOp) (k : IntKind) (a b : Int) (K : V → Prop) : Prop :=
  match op with
  | .add => InR k (a + b) ∧ K (.int k (a + b))
  | .sub => InR k (a - b) ∧ K (.int k (a - b))
  | .mul => InR k (a * b) ∧ K (.int k (a * b))
  | .quo => b ≠ 0 ∧ InR k (a.tdiv b) ∧ K (.int k (a.tdiv b))
  | .rem => b ≠ 0 ∧ K (.int k (a.tmod b))
  | .eql => K (.bool (a == b))
  | .neq => K (.bool (a != b))
  | .lss => K (.bool (decide (a < b)))
  | .leq => K (.bool (decide (a ≤ b)))
  | .gtr => K (.bool (decide (b < a)))
  | .geq => K (.bool (decide (b ≤ a)))
  | .and => K (.int k (bitI .and k a b))
  | .or => K (.int k (bitI .or k a b))
  | .xor => K (.int k (bitI .xor k a b))
  | .andNot => K (.int k (bitI .andNot k a b))
  | _ => False
def strVC (op : BinOp) (s t : List UInt8) (K : V → Prop) : Prop :=
  match op with
  | .add => s.length + t.length ≤ maxLen ∧ K (.str (s ++ t))
  | .eql => K (.bool (s == t))
  | .neq => K (.bool (!(s == t)))
  | .lss => K (.bool (Op.bytesLess s t))
  | .leq => K (.bool (Op.bytesLess s t || s == t))
  | .gtr => K (.bool (!(Op.bytesLess s t || s == t)))
  | .geq => K (.bool (!Op.bytesLess s t))
  | _ => False
def eqT (P : Program) (t : TypeId) : Option (List CK) :=
  if P.eqGuardType P.depth t = false ∧ aggT P t = some true then layT P 20 t else none
def kindsOK (ks : List CK) : List V → Prop
  | [] => ks = []
  | c :: cs => match ks with
    | k :: ks => kindV c = some k ∧ kindsOK ks cs
    | [] => False
theorem kindsOK_spec : ∀ {cs : List V} {ks : List CK}, kindsOK ks cs → cs.map kindV = ks.map some
  | [], ks, h => by simp only [kindsOK] at h; subst h; rfl
  | c :: cs, ks, h => by
    cases ks with
    | nil => simp only [kindsOK] at h
    | cons k ks => simp only [kindsOK] at h; simp [h.1, kindsOK_spec h.2]
def shVC (op : BinOp) (k : IntKind) (a b : Int) (K : V → Prop) : Prop :=
  match op with
  | .shl => 0 ≤ b ∧ K (.int k (k.wrap (a * 2 ^ (min b.toNat k.bits))))
  | .shr => 0 ≤ b ∧ K (.int k (a.fdiv (2 ^ (min b.toNat k.bits))))
  | _ => False
def binVC (P : Program) (op : BinOp) (xT : TypeId) (a b : V) (K : V → Prop) : Prop :=
  match a, b with
  | .int k x, .int k' y => (k = k' ∧ intVC op k x y K) ∨ shVC op k x y K
  | .str s, .str t => strVC op s t K
  | .bool x, .bool y => match op, basicT P xT with
    | .eql, .bool => K (.bool (x == y))
    | .neq, .bool => K (.bool (!(x == y)))
    | _, _ => False
  | .agg cs, .agg ds => match op, eqT P xT with
    | .eql, some ks => kindsOK ks cs ∧ kindsOK ks ds ∧ K (.bool (eqV cs ds))
    | .neq, some ks => kindsOK ks cs ∧ kindsOK ks ds ∧ K (.bool (!eqV cs ds))
    | _, _ => False
  | _, _ => False
def unVC (op : UnOp) (x : V) (K : V → Prop) : Prop :=
  match op, x with
  | .not, .bool b => K (.bool (!b))
  | .neg, .int k n => InR k (0 - n) ∧ K (.int k (0 - n))
  | _, _ => False
def bytesOf : List V → Option (List UInt8)
  | [] => some []
  | .int .u8 n :: vs => if 0 ≤ n ∧ n < 256 then (bytesOf vs).map (UInt8.ofNat n.toNat :: ·) else none
  | _ :: _ => none
def convVC (P : Program) (s d : TypeId) (x : V) (K : V → Prop) : Prop :=
  match x, basicT P s, basicT P d with
  | .int _ n, .int _, .int k => K (.int k (k.wrap n))
  | .str l, .str, .str => K (.str l)
  | .str l, .str, .other => match sliceT P d with
    | some e => (match basicT P e with | .int .u8 => K (.list (bytesV l)) | _ => False)
    | none => False
  | .list rows, .other, .str => match sliceT P s with
    | some e => (match basicT P e with | .int .u8 => ∃ l, rows = bytesV l ∧ K (.str l) | _ => False)
    | none => False
  | _, _, _ => False
def bndVC (st : St) (x : Option Operand) (d : Nat) (K : Nat → Prop) : Prop :=
  match x with
  | none => K d
  | some x => match st.eval x with
    | .int _ i => 0 ≤ i ∧ K i.toNat
    | _ => False
theorem bndVC_spec {st : St} {x : Option Operand} {d : Nat} {K : Nat → Prop} (h : bndVC st x d K) : ∃ n, bndV st.eval x d = some n ∧ K n := by
  unfold bndVC at h
  split at h
  · exact ⟨d, rfl, h⟩
  · split at h
    · rename_i k i hx
      exact ⟨i.toNat, by simp [bndV, hx, h.1], h.2⟩
    · exact h.elim
def zeroOp : Operand → Bool
  | .const (.int _ n) => decide (n = 0)
  | _ => false
def cutTok (hi : Operand) (d : Nat) : Nat := bif zeroOp hi then d else 1000000 + d
def sliceVC (P : Program) (t : TypeId) (st : St) (x : V) (lo hi mx : Option Operand) (dst : Option Nat) (K : V → Option (Nat × TypeId) → Prop) : Prop :=
  match x, mx with
  | .str s, none => (match basicT P t with
    | .str => bndVC st lo 0 fun l => bndVC st hi s.length fun h => l ≤ h ∧ h ≤ s.length ∧ K (.str ((s.take h).drop l)) none
    | _ => False)
  | .list rows, none => (match sliceT P t with
    | some e => (match sizeT P e with
      | some n => rowsOK n rows ∧ bndVC st lo 0 fun l => bndVC st hi rows.length fun h => l ≤ h ∧ h ≤ rows.length ∧ K (.list ((rows.take h).drop l)) none
      | none => False)
    | none => False)
  | .list rows, some m => (match sliceT P t, hi with
    | some e, some hi => (match sizeT P e with
      | some n => rowsOK n rows ∧ bndVC st lo 0 fun l => bndVC st (some hi) rows.length fun h => bndVC st (some m) rows.length fun h' => h' = h ∧ l ≤ h ∧ h ≤ rows.length ∧ K (.list ((rows.take h).drop l)) (some (cutTok hi (dst.getD 0), e))
      | none => False)
    | _, _ => False)
  | .elt cs off, none => (match lo, hi, arrT P t with
    | none, none, some (k, e) => (match sizeT P e with
      | some n => off + k * n ≤ cs.length ∧ k ≤ maxLen ∧ 0 < k ∧ K (.list (chunkV n k (cs.drop off))) none
      | none => False)
    | _, _, _ => False)
  | _, _ => False
def faddrVC (P : Program) (s : TypeId) (i : Nat) (x : V) (K : V → Prop) : Prop :=
  match fieldT P s i with
  | some (off, t) => (match sizeT P t with
    | some n => n ≠ 0 ∧ (match x with
      | .loc j a => K (.loc j (a + off))
      | .elt cs a => K (.elt cs (a + off))
      | _ => False)
    | none => False)
  | none => False
def fieldVC (P : Program) (s : TypeId) (i : Nat) (x : V) (K : V → Prop) : Prop :=
  match fieldT P s i, x with
  | some (off, t), .agg cs => (match aggT P t, sizeT P t with
    | some true, some n => K (.agg ((cs.drop off).take n))
    | some false, _ => (match cs[off]? with | some c => K c | none => False)
    | _, _ => False)
  | _, _ => False
def iaddrVC (P : Program) (t : TypeId) (x i : V) (K : V → Prop) : Prop :=
  match x, i with
  | .list rows, .int _ i => (match sliceT P t with
    | some e => (match sizeT P e with
      | some n => rowsOK n rows ∧ (0 ≤ i ∧ i < rows.length) ∧ K (.elt (rows.getD i.toNat .any).cellsL 0)
      | none => False)
    | none => False)
  | .loc j a, .int _ i => (match arrT P t with
    | some (len, e) => (match sizeT P e with | some n => (0 ≤ i ∧ i < (len : Int)) ∧ K (.loc j (a + i.toNat * n)) | none => False)
    | none => False)
  | .elt cs a, .int _ i => (match arrT P t with
    | some (len, e) => (match sizeT P e with | some n => (0 ≤ i ∧ i < (len : Int)) ∧ K (.elt cs (a + i.toNat * n)) | none => False)
    | none => False)
  | _, _ => False
def indexVC (P : Program) (t : TypeId) (x i : V) (K : V → Prop) : Prop :=
  match x, i with
  | .str s, .int _ i => (match basicT P t with
    | .str => (0 ≤ i ∧ i < s.length) ∧ K (.int .u8 (s.getD i.toNat 0).toNat)
    | _ => False)
  | .agg cs, .int _ i => (match arrT P t with
    | some (len, e) => (match aggT P e, sizeT P e with
      | some false, some n => (0 ≤ i ∧ i < (len : Int)) ∧ (match cs[i.toNat * n]? with | some c => K c | none => False)
      | _, _ => False)
    | none => False)
  | _, _ => False
def buildVC (P : Program) (t : TypeId) (st : St) (parts : List (Nat × Operand)) (K : V → Prop) : Prop :=
  match zeroT P t, placesT P t with
  | some zv, some place => zv.csize.isSome = true ∧ (match fillV place zv.cellsL (parts.map fun x => (x.1, st.eval x.2)) with
    | some out => K (.agg out)
    | none => False)
  | _, _ => False
def idxOK : List (Nat × Operand) → Nat → Bool
  | [], _ => true
  | (i, _) :: r, n => i == n && idxOK r (n + 1)
theorem idxOK_spec : ∀ {l : List (Nat × Operand)} {n : Nat}, idxOK l n = true → l.map (·.1) = List.range' n l.length
  | [], _, _ => rfl
  | (i, _) :: r, n, h => by
    simp only [idxOK, Bool.and_eq_true, beq_iff_eq] at h
    simp [List.range'_succ, h.1, idxOK_spec h.2]
def bsliceVC (P : Program) (t : TypeId) (st : St) (len : Nat) (parts : List (Nat × Operand)) (dst : Option Nat) (K : V → Option (Nat × TypeId) → Prop) : Prop :=
  match sliceT P t with
  | some e => (match sizeT P e, zeroT P e with
    | some sz, some zv => (sz ≠ 0 ∧ zv.csize = some sz ∧ parts.length = len ∧ len * sz ≤ 16777216 ∧ idxOK parts 0 = true) ∧ rowsOK sz (parts.map fun x => st.eval x.2) ∧ K (.list (parts.map fun x => st.eval x.2)) (some (dst.getD 0, e))
    | _, _ => False)
  | none => False
def nilVC (x : V) (K : V → Prop) : Prop :=
  match x with
  | .loc i off => K (.loc i off)
  | .elt cs off => K (.elt cs off)
  | _ => False
def ifaceOK (P : Program) (t : TypeId) : Bool := match P.underlying t with
  | some (.interface _) => false
  | some _ => true
  | none => false
def lenVC (P : Program) (t : TypeId) (x : V) (K : V → Prop) : Prop :=
  match x with
  | .list rows => (match sliceT P t with | some _ => K (.int .i64 rows.length) | none => False)
  | .str s => (match basicT P t with | .str => K (.int .i64 s.length) | _ => False)
  | _ => False
def callVC (P : Program) (f : FuncId) (args : List V) (K : V → Prop) : Prop := isGo P f = true ∧ V.noLocL args = true ∧ ∃ res, Fn P f args [] res [] ∧ K res
def builtinVC (P : Program) (b : Builtin) (args : List V) (tys : List TypeId) (K : V → Prop) : Prop :=
  match b, args, tys with
  | .len, [x], [t] => lenVC P t x K
  | .max, [.int k a, .int k' b], [_, _] => k = k' ∧ K (.int k (max a b))
  | .min, [.int k a, .int k' b], [_, _] => k = k' ∧ K (.int k (min a b))
  | _, _, _ => False
def assignVC (P : Program) (o : Oper) (st : St) (x : Operand) (K : V → Option (Nat × TypeId) → Prop) : Prop :=
  match x with
  | .const (.slice none 0 0) => (match sliceT P o.type with
    | some e => K (.list []) (some (o.dst.getD 0, e))
    | none => K (.list []) none)
  | x => K (st.eval x) (st.tokOf x)
def lookupVC (P : Program) (t : TypeId) (bx : Nat → Option Box) (m x : V) (ok : Bool) (K : V → Prop) : Prop :=
  match m, mapT P t with
  | .mref i, some (kt, et) => (match bx i, keyT P kt, zeroT P et with
    | some B, some (ag, ks), some zv => 1000000000 ≤ B.ty ∧ KeyT P kt ∧ keyOK ag ks x ∧ keysOK ag ks B.cells ∧
        K (if ok then .tup [(mapGet B.cells x).getD zv, .bool (mapGet B.cells x).isSome] else (mapGet B.cells x).getD zv)
    | _, _, _ => False)
  | _, _ => False
def valVC (P : Program) (o : Oper) (st : St) (K : V → Option (Nat × TypeId) → Prop) : Prop :=
  match o.op with
  | .move x => K (st.eval x) (st.tokOf x)
  | .assign x => assignVC P o st x K
  | .pick c x y => (match st.eval c with | .bool t => K (pickV t (st.eval x) (st.eval y)) none | _ => False)
  | .load t x => loadVC P t st.box (st.eval x) (K · none)
  | .binOp op xT x y _ => binVC P op xT (st.eval x) (st.eval y) (K · none)
  | .unOp op _ x => unVC op (st.eval x) (K · none)
  | .convert s d x => convVC P s d (st.eval x) (K · none)
  | .makeInterface t x => ifaceOK P t = true ∧ K (.iface t (st.eval x)) none
  | .makeFunc f first cap => K (.fn f (first.toList.map st.eval) (cap.toList.map st.eval)) none
  | .slice t x lo hi mx => sliceVC P t st (st.eval x) lo hi mx o.dst K
  | .fieldAddr s x i => faddrVC P s i (st.eval x) (K · none)
  | .field s x i => fieldVC P s i (st.eval x) (K · none)
  | .indexAddr t x i => iaddrVC P t (st.eval x) (st.eval i) (K · none)
  | .index t x i => indexVC P t (st.eval x) (st.eval i) (K · none)
  | .extract x i => (match st.eval x with | .tup vs => (match vs[i]? with | some v => K v none | none => False) | _ => False)
  | .build t parts => buildVC P t st parts.toList (K · none)
  | .buildSlice t len parts => bsliceVC P t st len parts.toList o.dst K
  | .nilCheck x => nilVC (st.eval x) (K · none)
  | .lookup t m x ok => lookupVC P t st.box (st.eval m) (st.eval x) ok (K · none)
  | .call { callee := .value f, args, .. } => (match st.eval f with
    | .fn (.func g) first cap => callVC P g (first ++ args.toList.map st.eval ++ cap) (K · none)
    | _ => False)
  | .call { callee := .builtin b, args, argTypes } => builtinVC P b (args.toList.map st.eval) argTypes.toList (K · none)
  | _ => False
def QVT (P : Program) (o : Oper) (ρ : Operand → V) (τ : Operand → Option (Nat × TypeId)) (bx : Nat → Option Box) (v : V) (tk : Option (Nat × TypeId)) : Prop :=
  (∃ fr, QV P o ρ bx v fr ∧ tk = none) ∨ ∃ x, (o.op = .move x ∨ o.op = .assign x) ∧ v = ρ x ∧ tk = τ x
def isCopy (o : Oper) : Bool := match o.op with
  | .move _ => true
  | .assign (.const (.slice none 0 0)) => false
  | .assign _ => true
  | _ => false
def QVF (P : Program) (o : Oper) (ρ : Operand → V) (τ : Operand → Option (Nat × TypeId)) (bx : Nat → Option Box) (v : V) (tk : Option (Nat × TypeId)) : Prop :=
  (isCopy o = false ∧ ∃ fr, QV P o ρ bx v fr ∧ ∀ t e, tk = some (t, e) → fr = some (tcl t, e)) ∨ (isCopy o = true ∧ ∃ x, (o.op = .move x ∨ o.op = .assign x) ∧ v = ρ x ∧ tk = τ x)
theorem QVF.of {P : Program} {o : Oper} {ρ : Operand → V} {τ : Operand → Option (Nat × TypeId)} {bx : Nat → Option Box} {v : V} (h : QV P o ρ bx v none) (hc : isCopy o = false) : QVF P o ρ τ bx v none :=
  .inl ⟨hc, none, h, fun _ _ h => by cases h⟩
theorem QVF.weak {P : Program} {o : Oper} {ρ : Operand → V} {τ : Operand → Option (Nat × TypeId)} {bx : Nat → Option Box} {v : V} {tk : Option (Nat × TypeId)} (h : QVF P o ρ τ bx v tk) :
    QVT P o ρ τ bx v (if isCopy o = true then tk else none) := by
  rcases h with ⟨hc, fr, hq, _⟩ | ⟨hc, x, hx, rfl, rfl⟩
  · rw [if_neg (by rw [hc]; simp)]; exact .inl ⟨fr, hq, rfl⟩
  · rw [if_pos hc]; exact .inr ⟨x, hx, rfl, rfl⟩
theorem qv_const_nil {P : Program} {o : Oper} {ρ : Operand → V} {bx : Nat → Option Box} (ho : o.op = .assign (.const (.slice none 0 0))) (e : TypeId) : QV P o ρ bx (.list []) (some (0, e)) :=
  QV.of_run fun a w pr lam _ _ _ => by
    refine ⟨.slice none 0 0, w, pr, by simp [execOp, ho, Act.eval], Ext.refl w pr, ?_, fun _ _ hce => by cases hce; exact ⟨by omega, Own.full⟩⟩
    simp only [R]
    exact ⟨none, 0, rfl, Nat.le_refl _, by simp [maxLen], .inl ⟨trivial, rfl⟩⟩
section
variable {P : Program} {o : Oper} {st : St}
theorem loadVC_sound {t : TypeId} {x : Operand} {K : V → Prop} (ho : o.op = .load t x) (h : loadVC P t st.box (st.eval x) K) : ∃ v, QV P o st.eval st.box v none ∧ K v := by
  unfold loadVC at h
  split at h
  · rename_i cs off hx ha
    split at h
    · rename_i n hs; exact ⟨_, qv_load_elt_agg ho hx ha hs h.1, h.2⟩
    · exact h.elim
  · rename_i cs off hx ha
    split at h
    · rename_i c hc; exact ⟨_, qv_load_elt_one ho hx ha hc, h⟩
    · exact h.elim
  · rename_i i off hx ha
    split at h
    · rename_i B n hb hs; exact ⟨_, qv_load_loc_agg ho hx hb ha hs h.2.1 h.1, h.2.2⟩
    · exact h.elim
  · rename_i i off hx ha
    split at h
    · rename_i B hb
      obtain ⟨hpl, h⟩ := h
      split at h
      · rename_i c hc; exact ⟨_, qv_load_loc_one ho hx hb ha hc hpl, h⟩
      · exact h.elim
    · exact h.elim
  · exact h.elim
theorem binVC_sound {op : BinOp} {xT yT : TypeId} {x y : Operand} {K : V → Prop} (ho : o.op = .binOp op xT x y yT) (h : binVC P op xT (st.eval x) (st.eval y) K) : ∃ v, QV P o st.eval st.box v none ∧ K v := by
  unfold binVC at h
  split at h
  · rename_i k a k' b hx hy
    rcases h with h | h
    rotate_left
    · unfold shVC at h
      split at h
      · exact ⟨_, qv_bin_sh ho hx hy (by unfold shI; rw [if_neg (by omega)]), h.2⟩
      · exact ⟨_, qv_bin_sh ho hx hy (by unfold shI; rw [if_neg (by omega)]), h.2⟩
      · exact h.elim
    obtain ⟨rfl, h⟩ := h
    have key : ∀ v, binI op k a b = some v → K v → ∃ v, QV P o st.eval st.box v none ∧ K v := fun v hv hk => ⟨v, qv_bin_int ho hx hy hv, hk⟩
    cases op <;> simp only [intVC] at h
    case add => exact key (.int k (k.wrap (a + b))) rfl (by have := h.1; unfold InR at this; rw [this]; exact h.2)
    case sub => exact key (.int k (k.wrap (a - b))) rfl (by have := h.1; unfold InR at this; rw [this]; exact h.2)
    case mul => exact key (.int k (k.wrap (a * b))) rfl (by have := h.1; unfold InR at this; rw [this]; exact h.2)
    case quo => exact key (.int k (k.wrap (a.tdiv b))) (by simp only [binI, if_neg h.1]) (by have := h.2.1; unfold InR at this; rw [this]; exact h.2.2)
    case rem => exact key (.int k (a.tmod b)) (by simp only [binI, if_neg h.1]) h.2
    all_goals first | exact h.elim | exact key _ rfl h
  · rename_i s t hx hy
    have key : ∀ v, binS op s t = some v → K v → ∃ v, QV P o st.eval st.box v none ∧ K v := fun v hv hk => ⟨v, qv_bin_str ho hx hy hv, hk⟩
    cases op <;> simp only [strVC] at h
    case add => exact key _ (by simp only [binS, if_pos h.1]) h.2
    all_goals first | exact h.elim | exact key _ rfl h
  · rename_i a b hx hy
    split at h
    · rename_i hT; exact ⟨_, qv_bin_bool ho hx hy (basicT_bool hT) rfl, h⟩
    · rename_i hT; exact ⟨_, qv_bin_bool ho hx hy (basicT_bool hT) rfl, h⟩
    · exact h.elim
  · rename_i cs ds hx hy
    have key : ∀ ks, eqT P xT = some ks → P.eqGuardType P.depth xT = false ∧ aggT P xT = some true ∧ layT P 20 xT = some ks := by
      intro ks hk
      unfold eqT at hk
      split at hk
      · rename_i hc; exact ⟨hc.1, hc.2, hk⟩
      · cases hk
    split at h
    · rename_i ks hT
      obtain ⟨k1, k2, k3⟩ := key ks hT
      exact ⟨_, qv_bin_agg ho hx hy k1 k2 k3 (kindsOK_spec h.1) (kindsOK_spec h.2.1) rfl, h.2.2⟩
    · rename_i ks hT
      obtain ⟨k1, k2, k3⟩ := key ks hT
      exact ⟨_, qv_bin_agg ho hx hy k1 k2 k3 (kindsOK_spec h.1) (kindsOK_spec h.2.1) rfl, h.2.2⟩
    · exact h.elim
  · exact h.elim
theorem sliceVC_sound {t : TypeId} {x : Operand} {lo hi mx : Option Operand} {K : V → Option (Nat × TypeId) → Prop} (hsm : ∀ d, o.dst = some d → d < 1000000) (ho : o.op = .slice t x lo hi mx) (h : sliceVC P t st (st.eval x) lo hi mx o.dst K) :
    ∃ v tk, QVF P o st.eval st.tokOf st.box v tk ∧ K v tk := by
  have hcp : isCopy o = false := by simp [isCopy, ho]
  have hdc : ∀ hi, tcl (cutTok hi (o.dst.getD 0)) = (bif zeroOp hi then 0 else 1) := fun hi => by
    unfold tcl cutTok
    cases hq : o.dst with
    | none => cases zeroOp hi <;> simp
    | some d => have := hsm d hq; cases zeroOp hi <;> simp <;> omega
  unfold sliceVC at h
  split at h
  · rename_i s hx
    split at h
    · rename_i hT
      obtain ⟨l, hl, h⟩ := bndVC_spec h
      obtain ⟨hh, hl2, h1, h2, h3⟩ := bndVC_spec h
      exact ⟨_, none, .of (qv_slice_str ho hx (basicT_str hT) hl hl2 h1 h2) hcp, h3⟩
    · exact h.elim
  · rename_i rows hx
    split at h
    · rename_i e hT
      split at h
      · rename_i n hs
        obtain ⟨hr, h⟩ := h
        obtain ⟨l, hl, h⟩ := bndVC_spec h
        obtain ⟨hh, hl2, h1, h2, h3⟩ := bndVC_spec h
        exact ⟨_, none, .of (qv_slice_list ho hx (sliceT_spec hT) hs hr hl hl2 h1 h2) hcp, h3⟩
      · exact h.elim
    · exact h.elim
  · rename_i rows m hx
    split at h
    · rename_i e hi' hT
      split at h
      · rename_i n hs
        obtain ⟨hr, h⟩ := h
        obtain ⟨l, hl, h⟩ := bndVC_spec h
        obtain ⟨hh, hl2, h⟩ := bndVC_spec h
        obtain ⟨h', hl3, rfl, h1, h2, h3⟩ := bndVC_spec h
        refine ⟨_, _, .inl ⟨hcp, some (_, e), qv_slice3_list (c0 := bif zeroOp hi' then 0 else 1) ?_ ho hx (sliceT_spec hT) hs hr hl hl2 hl3 h1 h2, fun t e' he => by cases he; rw [hdc]⟩, h3⟩
        cases hz : zeroOp hi' with
        | false => exact .inl rfl
        | true =>
          refine .inr ⟨rfl, ?_⟩
          unfold zeroOp at hz
          split at hz
          · simp only [decide_eq_true_eq] at hz
            subst hz
            simp [bndV, St.eval, constV, constC] at hl2
            omega
          · cases hz
      · exact h.elim
    · exact h.elim
  · rename_i cs off hx
    split at h
    · rename_i k e hT
      split at h
      · rename_i n hs
        obtain ⟨h1, h2, h3, h4⟩ := h
        exact ⟨_, none, .of (qv_slice_elt ho hx (arrT_spec hT) hs h1 h2 h3) hcp, h4⟩
      · exact h.elim
    · exact h.elim
  · exact h.elim
theorem iaddrVC_sound {t : TypeId} {x ix : Operand} {K : V → Prop} (ho : o.op = .indexAddr t x ix) (h : iaddrVC P t (st.eval x) (st.eval ix) K) : ∃ v, QV P o st.eval st.box v none ∧ K v := by
  unfold iaddrVC at h
  split at h
  · rename_i rows k i hx hi
    split at h
    · rename_i e hT
      split at h
      · rename_i n hs
        obtain ⟨hr, ⟨h0, h1⟩, hk⟩ := h
        have hlt : i.toNat < rows.length := by omega
        have hg : rows[i.toNat]? = some (rows.getD i.toNat .any) := by simp [List.getD, List.getElem?_eq_getElem hlt]
        exact ⟨_, qv_indexAddr_list ho hx hi (sliceT_spec hT) hs hr h0 hg, hk⟩
      · exact h.elim
    · exact h.elim
  · rename_i j a k i hx hi
    split at h
    · rename_i len e hT
      split at h
      · rename_i n hs; exact ⟨_, qv_indexAddr_loc ho hx hi (arrT_spec hT) hs h.1.1 h.1.2, h.2⟩
      · exact h.elim
    · exact h.elim
  · rename_i cs a k i hx hi
    split at h
    · rename_i len e hT
      split at h
      · rename_i n hs; exact ⟨_, qv_indexAddr_elt ho hx hi (arrT_spec hT) hs h.1.1 h.1.2, h.2⟩
      · exact h.elim
    · exact h.elim
  · exact h.elim
theorem indexVC_sound {t : TypeId} {x ix : Operand} {K : V → Prop} (ho : o.op = .index t x ix) (h : indexVC P t (st.eval x) (st.eval ix) K) : ∃ v, QV P o st.eval st.box v none ∧ K v := by
  unfold indexVC at h
  split at h
  · rename_i s k i hx hi
    split at h
    · rename_i hT
      obtain ⟨⟨h0, h1⟩, hk⟩ := h
      have hlt : i.toNat < s.length := by omega
      have hg : s[i.toNat]? = some (s.getD i.toNat 0) := by simp [List.getD, List.getElem?_eq_getElem hlt]
      exact ⟨_, qv_index_str ho hx hi (basicT_str hT) h0 hg, hk⟩
    · exact h.elim
  · rename_i cs k i hx hi
    split at h
    · rename_i len e hT
      split at h
      · rename_i n ha hs
        obtain ⟨⟨h0, h1⟩, hk⟩ := h
        split at hk
        · rename_i c hc; exact ⟨_, qv_index_arr_one ho hx hi (arrT_spec hT) ha hs h0 h1 hc, hk⟩
        · exact hk.elim
      · exact h.elim
    · exact h.elim
  · exact h.elim
theorem fieldVC_sound {s : TypeId} {x : Operand} {i : Nat} {K : V → Prop} (ho : o.op = .field s x i) (h : fieldVC P s i (st.eval x) K) : ∃ v, QV P o st.eval st.box v none ∧ K v := by
  unfold fieldVC at h
  split at h
  · rename_i off t cs hf hx
    split at h
    · rename_i n ha hs; exact ⟨_, qv_field_agg ho hx hf ha hs, h⟩
    · rename_i ha
      split at h
      · rename_i c hc; exact ⟨_, qv_field_one ho hx hf ha hc, h⟩
      · exact h.elim
    · exact h.elim
  · exact h.elim
theorem convVC_sound {s d : TypeId} {x : Operand} {K : V → Prop} (ho : o.op = .convert s d x) (h : convVC P s d (st.eval x) K) : ∃ v, QV P o st.eval st.box v none ∧ K v := by
  unfold convVC at h
  split at h
  · rename_i k n k1 k2 hx hs hd
    exact ⟨_, qv_conv_int ho hx (basicT_int hs) (basicT_int hd), h⟩
  · rename_i l hx hs hd; exact ⟨_, qv_conv_str ho hx (basicT_str hs) (basicT_str hd), h⟩
  · rename_i l hx hs hd
    split at h
    · rename_i e hT
      split at h
      · rename_i he; exact ⟨_, qv_conv_str_bytes ho hx (basicT_str hs) (sliceT_spec hT) (basicT_int he), h⟩
      · exact h.elim
    · exact h.elim
  · rename_i rows hx hs hd
    split at h
    · rename_i e hT
      split at h
      · rename_i he
        obtain ⟨l, rfl, h⟩ := h
        exact ⟨_, qv_conv_bytes_str ho hx (sliceT_spec hT) (basicT_int he) (basicT_str hd), h⟩
      · exact h.elim
    · exact h.elim
  · exact h.elim
theorem valVC_sound {K : V → Option (Nat × TypeId) → Prop} (hsm : ∀ d, o.dst = some d → d < 1000000) (h : valVC P o st K) : ∃ v tk, QVF P o st.eval st.tokOf st.box v tk ∧ K v tk := by
  have hdc : tcl (o.dst.getD 0) = 0 := by
    unfold tcl
    cases hq : o.dst with
    | none => simp
    | some d => have := hsm d hq; simp; omega
  have one' : isCopy o = false → (∃ v, QV P o st.eval st.box v none ∧ K v none) → ∃ v tk, QVF P o st.eval st.tokOf st.box v tk ∧ K v tk := fun hc ⟨v, q, k⟩ => ⟨v, none, .of q hc, k⟩
  unfold valVC at h
  split at h
  · rename_i x ho; exact ⟨_, _, .inr ⟨by simp [isCopy, ho], x, .inl ho, rfl, rfl⟩, h⟩
  · rename_i x ho
    unfold assignVC at h
    split at h
    · split at h
      · rename_i e hT; exact ⟨_, _, .inl ⟨by simp [isCopy, ho], some (0, e), qv_const_nil ho e, fun t e' he => by cases he; rw [hdc]⟩, h⟩
      · exact ⟨_, none, .inl ⟨by simp [isCopy, ho], some (0, 0), qv_const_nil ho 0, fun t e' he => by cases he⟩, h⟩
    · rename_i hne
      refine ⟨_, _, .inr ⟨?_, x, .inr ho, rfl, rfl⟩, h⟩
      unfold isCopy
      rw [ho]
      split
      · rfl
      · rename_i heq; cases heq; exact absurd rfl hne
      · rfl
      · rename_i hn2; exact absurd rfl (hn2 x)
  · rename_i c x y ho
    split at h
    · rename_i t hc
      refine one' (by simp [isCopy, *]) ⟨_, qv_pick ho hc, ?_⟩
      rw [← pickV_eq]; exact h
    · exact h.elim
  · rename_i ho; exact one' (by simp [isCopy, *]) (loadVC_sound ho h)
  · rename_i ho; exact one' (by simp [isCopy, *]) (binVC_sound ho h)
  · rename_i op xT x ho
    unfold unVC at h
    split at h
    · rename_i b hx; exact one' (by simp [isCopy, *]) ⟨_, qv_not ho hx, h⟩
    · rename_i k n hx; exact one' (by simp [isCopy, *]) ⟨_, qv_neg ho hx, by have := h.1; unfold InR at this; rw [this]; exact h.2⟩
    · exact h.elim
  · rename_i ho; exact one' (by simp [isCopy, *]) (convVC_sound ho h)
  · rename_i t x ho
    obtain ⟨h1, h2⟩ := h
    unfold ifaceOK at h1
    split at h1
    · cases h1
    · rename_i d hne hu
      exact one' (by simp [isCopy, *]) ⟨_, qv_makeIface ho hu (by cases d <;> first | rfl | exact absurd rfl (hne _)), h2⟩
    · cases h1
  · rename_i f first cap ho; exact one' (by simp [isCopy, *]) ⟨_, qv_makeFunc ho, h⟩
  · rename_i ho; exact sliceVC_sound hsm ho h
  · rename_i s x i ho
    unfold faddrVC at h
    split at h
    · rename_i off t hf
      split at h
      · rename_i n hs
        obtain ⟨hn, h⟩ := h
        split at h
        · rename_i j a hx; exact one' (by simp [isCopy, *]) ⟨_, qv_fieldAddr_loc ho hx hf hs hn, h⟩
        · rename_i cs a hx; exact one' (by simp [isCopy, *]) ⟨_, qv_fieldAddr_elt ho hx hf hs hn, h⟩
        · exact h.elim
      · exact h.elim
    · exact h.elim
  · rename_i ho; exact one' (by simp [isCopy, *]) (fieldVC_sound ho h)
  · rename_i ho; exact one' (by simp [isCopy, *]) (iaddrVC_sound ho h)
  · rename_i ho; exact one' (by simp [isCopy, *]) (indexVC_sound ho h)
  · rename_i x i ho
    split at h
    · rename_i vs hx
      split at h
      · rename_i v hv; exact one' (by simp [isCopy, *]) ⟨_, qv_extract ho hx hv, h⟩
      · exact h.elim
    · exact h.elim
  · rename_i t parts ho
    unfold buildVC at h
    split at h
    · rename_i zv place hz hp
      obtain ⟨hn, h⟩ := h
      obtain ⟨n, hn⟩ := Option.isSome_iff_exists.1 hn
      split at h
      · rename_i out hf; exact one' (by simp [isCopy, *]) ⟨_, qv_build ho hz hn hp hf, h⟩
      · exact h.elim
    · exact h.elim
  · rename_i t len parts ho
    unfold bsliceVC at h
    split at h
    · rename_i e hT
      split at h
      · rename_i sz zv hs hz
        obtain ⟨⟨h1, h2, h3, h4, h5⟩, h6, h7⟩ := h
        refine ⟨_, _, .inl ⟨by simp [isCopy, ho], some (0, e), qv_buildSlice ho (sliceT_spec hT) hs h1 hz h2 (by simpa using h3) h4 ?_ h6, fun t e' he => by cases he; rw [hdc]⟩, h7⟩
        rw [idxOK_spec h5, List.range_eq_range', h3]
      · exact h.elim
    · exact h.elim
  · rename_i x ho
    unfold nilVC at h
    split at h
    · rename_i i off hx; exact one' (by simp [isCopy, *]) ⟨_, qv_nilCheck_loc ho hx, h⟩
    · rename_i cs off hx; exact one' (by simp [isCopy, *]) ⟨_, qv_nilCheck_elt ho hx, h⟩
    · exact h.elim
  · rename_i t m x ok ho
    unfold lookupVC at h
    split at h
    · rename_i i kt et hm hT
      split at h
      · rename_i B ag ks zv hb hk hz
        exact one' (by simp [isCopy, *]) ⟨_, qv_lookup ho hm hb h.1 hT hk h.2.1 h.2.2.1 h.2.2.2.1 hz, h.2.2.2.2⟩
      · exact h.elim
    · exact h.elim
  · rename_i f args tys ho
    split at h
    · rename_i g first cap hx
      obtain ⟨h1, h2, res, h3, h4⟩ := h
      exact one' (by simp [isCopy, *]) ⟨res, qv_call ho hx h1 h2 h3, h4⟩
    · exact h.elim
  · rename_i b args tys ho
    unfold builtinVC at h
    split at h
    · rename_i x t ha ht
      have ea : ∃ y, args = #[y] ∧ st.eval y = x := by
        obtain ⟨l⟩ := args
        match l, ha with
        | [y], ha => simp at ha; exact ⟨y, rfl, ha⟩
      have et : tys = #[t] := by obtain ⟨l⟩ := tys; simpa using ht
      obtain ⟨y, rfl, hy⟩ := ea
      subst et
      unfold lenVC at h
      split at h
      · split at h
        · rename_i e hT; exact one' (by simp [isCopy, *]) ⟨_, qv_len_list ho hy (sliceT_spec hT), h⟩
        · exact h.elim
      · split at h
        · rename_i hT; exact one' (by simp [isCopy, *]) ⟨_, qv_len_str ho hy (basicT_str hT), h⟩
        · exact h.elim
      · exact h.elim
    · rename_i k a k' b t u ha ht
      obtain ⟨rfl, h⟩ := h
      have ea : ∃ y z, args = #[y, z] ∧ st.eval y = .int k a ∧ st.eval z = .int k b := by
        obtain ⟨l⟩ := args
        match l, ha with
        | [y, z], ha => simp at ha; exact ⟨y, z, rfl, ha⟩
        | [], ha => simp at ha
        | [_], ha => simp at ha
        | _ :: _ :: _ :: _, ha => simp at ha
      have et : tys = #[t, u] := by obtain ⟨l⟩ := tys; simpa using ht
      obtain ⟨y, z, rfl, hy, hz⟩ := ea
      subst et
      exact one' (by simp [isCopy, *]) ⟨_, qv_max ho hy hz, h⟩
    · rename_i k a k' b t u ha ht
      obtain ⟨rfl, h⟩ := h
      have ea : ∃ y z, args = #[y, z] ∧ st.eval y = .int k a ∧ st.eval z = .int k b := by
        obtain ⟨l⟩ := args
        match l, ha with
        | [y, z], ha => simp at ha; exact ⟨y, z, rfl, ha⟩
        | [], ha => simp at ha
        | [_], ha => simp at ha
        | _ :: _ :: _ :: _, ha => simp at ha
      have et : tys = #[t, u] := by obtain ⟨l⟩ := tys; simpa using ht
      obtain ⟨y, z, rfl, hy, hz⟩ := ea
      subst et
      exact one' (by simp [isCopy, *]) ⟨_, qv_min ho hy hz, h⟩
    · exact h.elim
  · exact h.elim
end
end Go.Eng
