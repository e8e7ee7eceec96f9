import Derived.Test.YtjcbpfhlgebgdaaX0
set_option linter.unusedSimpArgs false
set_option linter.unusedVariables false
namespace Go.X
open Go.Eng
open Go.RowKit
inductive T (α : Type) where
  | nil
  | node (l : T α) (v : Option α) (r : T α)
noncomputable def T.get {α : Type} (t : T α) : Nat → Option α :=
  T.rec (motive := fun _ => Nat → Option α) (fun _ => none) (fun _ v _ gl gr n => cond (Nat.beq n 0) v (cond (Nat.beq (n % 2) 1) (gl (n / 2)) (gr (n / 2 - 1)))) t
noncomputable def T.setF {α : Type} (f : Nat) : T α → Nat → α → T α :=
  Nat.rec (motive := fun _ => T α → Nat → α → T α) (fun t _ _ => t) (fun _ ih t n x => T.casesOn (motive := fun _ => T α) t
    (cond (Nat.beq n 0) (.node .nil (some x) .nil) (cond (Nat.beq (n % 2) 1) (.node (ih .nil (n / 2) x) none .nil) (.node .nil none (ih .nil (n / 2 - 1) x))))
    (fun l v r => cond (Nat.beq n 0) (.node l (some x) r) (cond (Nat.beq (n % 2) 1) (.node (ih l (n / 2) x) v r) (.node l v (ih r (n / 2 - 1) x))))) f
theorem T.get_node0 {α : Type} (l : T α) (v : Option α) (r : T α) (n : Nat) : (T.node l v r).get n = cond (Nat.beq n 0) v (cond (Nat.beq (n % 2) 1) (l.get (n / 2)) (r.get (n / 2 - 1))) := rfl
theorem T.setF_nil {α : Type} (f n : Nat) (x : α) : T.setF (f + 1) .nil n x = cond (Nat.beq n 0) (.node .nil (some x) .nil) (cond (Nat.beq (n % 2) 1) (.node (T.setF f .nil (n / 2) x) none .nil) (.node .nil none (T.setF f .nil (n / 2 - 1) x))) := rfl
theorem T.setF_node {α : Type} (f : Nat) (l : T α) (v : Option α) (r : T α) (n : Nat) (x : α) : T.setF (f + 1) (.node l v r) n x = cond (Nat.beq n 0) (.node l (some x) r) (cond (Nat.beq (n % 2) 1) (.node (T.setF f l (n / 2) x) v r) (.node l v (T.setF f r (n / 2 - 1) x))) := rfl
noncomputable def T.set {α : Type} (t : T α) (n : Nat) (x : α) : T α := T.setF (n + 1) t n x
theorem beqF {n m : Nat} (h : ¬ n = m) : Nat.beq n m = false := by
  cases hb : Nat.beq n m
  · rfl
  · exact absurd (Nat.eq_of_beq_eq_true hb) h
theorem T.get_nil {α : Type} (n : Nat) : (T.nil : T α).get n = none := rfl
theorem T.get_node {α : Type} (l : T α) (v : Option α) (r : T α) (n : Nat) :
    (T.node l v r).get n = if n = 0 then v else if n % 2 = 1 then l.get (n / 2) else r.get (n / 2 - 1) := by
  rw [T.get_node0]
  by_cases h : n = 0
  · subst h; rfl
  · have : Nat.beq n 0 = false := beqF h
    rw [this, if_neg h]
    by_cases h1 : n % 2 = 1
    · rw [if_pos h1, h1]; rfl
    · have : Nat.beq (n % 2) 1 = false := beqF h1
      rw [this, if_neg h1]; rfl
theorem T.setF_succ {α : Type} (f : Nat) (t : T α) (n : Nat) (x : α) : ∃ l v r, (∀ m, t.get m = (T.node l v r).get m) ∧
    T.setF (f + 1) t n x = if n = 0 then .node l (some x) r else if n % 2 = 1 then .node (T.setF f l (n / 2) x) v r else .node l v (T.setF f r (n / 2 - 1) x) := by
  cases t with
  | nil =>
    refine ⟨.nil, none, .nil, fun m => by rw [T.get_node]; simp [T.get_nil], ?_⟩
    rw [T.setF_nil]
    by_cases h : n = 0
    · subst h; rfl
    · have : Nat.beq n 0 = false := beqF h
      rw [this, if_neg h]
      by_cases h1 : n % 2 = 1
      · rw [if_pos h1, h1]; rfl
      · have : Nat.beq (n % 2) 1 = false := beqF h1
        rw [this, if_neg h1]; rfl
  | node l v r =>
    refine ⟨l, v, r, fun m => rfl, ?_⟩
    rw [T.setF_node]
    by_cases h : n = 0
    · subst h; rfl
    · have : Nat.beq n 0 = false := beqF h
      rw [this, if_neg h]
      by_cases h1 : n % 2 = 1
      · rw [if_pos h1, h1]; rfl
      · have : Nat.beq (n % 2) 1 = false := beqF h1
        rw [this, if_neg h1]; rfl
theorem T.get_setF {α : Type} (x : α) : ∀ (f : Nat) (t : T α) (n : Nat), n + 1 < 2 ^ f → ∀ m, (T.setF f t n x).get m = if m = n then some x else t.get m
  | 0, _, n, h, _ => by simp at h
  | f + 1, t, n, h, m => by
    obtain ⟨l, v, r, h1, h2⟩ := T.setF_succ f t n x
    rw [h2, h1 m]
    rw [Nat.pow_succ] at h
    by_cases h0 : n = 0
    · subst h0
      rw [if_pos rfl, T.get_node, T.get_node]
      by_cases hm : m = 0
      · rw [if_pos hm, if_pos hm]
      · rw [if_neg hm, if_neg hm, if_neg hm]
    · rw [if_neg h0]
      by_cases h3 : n % 2 = 1
      · rw [if_pos h3, T.get_node, T.get_node]
        by_cases hm : m = 0
        · rw [if_pos hm, if_pos hm, if_neg (by omega)]
        · rw [if_neg hm, if_neg hm]
          by_cases hm1 : m % 2 = 1
          · rw [if_pos hm1, if_pos hm1, T.get_setF x f l (n / 2) (by omega) (m / 2)]
            by_cases he : m / 2 = n / 2
            · rw [if_pos he, if_pos (by omega)]
            · rw [if_neg he, if_neg (by omega)]
          · rw [if_neg hm1, if_neg hm1, if_neg (by omega)]
      · rw [if_neg h3, T.get_node, T.get_node]
        by_cases hm : m = 0
        · rw [if_pos hm, if_pos hm, if_neg (by omega)]
        · rw [if_neg hm, if_neg hm]
          by_cases hm1 : m % 2 = 1
          · rw [if_pos hm1, if_pos hm1, if_neg (by omega)]
          · rw [if_neg hm1, if_neg hm1, T.get_setF x f r (n / 2 - 1) (by omega) (m / 2 - 1)]
            by_cases he : m / 2 - 1 = n / 2 - 1
            · rw [if_pos he, if_pos (by omega)]
            · rw [if_neg he, if_neg (by omega)]
theorem T.get_set {α : Type} {t : T α} {n : Nat} {x : α} (m : Nat) : (t.set n x).get m = if m = n then some x else t.get m :=
  T.get_setF x (n + 1) t n Nat.lt_two_pow_self m
noncomputable def T.mapV {α : Type} (f : α → α) (t : T α) : T α :=
  T.rec (motive := fun _ => T α) .nil (fun _ v _ ml mr => .node ml (v.map f) mr) t
theorem T.get_mapV {α : Type} (f : α → α) : ∀ (t : T α) (n : Nat), (t.mapV f).get n = (t.get n).map f
  | .nil, n => rfl
  | .node l v r, n => by
    show (T.node (l.mapV f) (v.map f) (r.mapV f)).get n = _
    rw [T.get_node, T.get_node]
    split
    · rfl
    split
    · exact T.get_mapV f l _
    · exact T.get_mapV f r _
abbrev Tk := Option (Nat × TypeId)
inductive SBox where
  | cells (cs : List S) (ty : TypeId)
  | map (mt : TypeId) (kc vc : C) (l : List (den kc × den vc))
def toBox : SBox → Box
  | .cells cs ty => ⟨toVL cs, ty⟩
  | .map mt kc vc l => ⟨encM (enc kc) (enc vc) l, 1000000000 + mt⟩
structure RO where
  all : Bool
  mask : Nat
  sl : Nat → S × Tk
  nb : Nat
  bmask : Nat
  bx : Nat → Option SBox
  fl : Bool
structure Mm where
  sl : T (S × Tk)
  bx : List (Option SBox)
def RO.own (ro : RO) (s : Nat) : Bool := bif ro.all then true else Nat.testBit ro.mask s
def RO.ownB (ro : RO) (i : Nat) : Bool := bif Nat.ble ro.nb i then true else Nat.testBit ro.bmask i
noncomputable def getS (ro : RO) (m : Mm) (s : Nat) : S × Tk := bif ro.own s then (m.sl.get s).getD (.any, none) else ro.sl s
noncomputable def getB (ro : RO) (m : Mm) (i : Nat) : Option SBox := bif ro.ownB i then (m.bx[i]?).getD none else ro.bx i
noncomputable def toSt (ro : RO) (m : Mm) : St :=
  ⟨m.bx.length, fun s => (toV (getS ro m s).1, (getS ro m s).2), fun i => (getB ro m i).map toBox⟩
variable {β : Type}
noncomputable def putX (ro : RO) (m : Mm) (dst : Option Nat) (v : S) (tk : Tk) (k : Mm → Option β) : Option β :=
  match dst with
  | none => k m
  | some d => bif ro.own d then k ⟨m.sl.set d (v, tk), m.bx⟩ else none
def clrX (t : Nat) (x : S × Tk) : S × Tk := match x.2 with
  | some (t', e) => bif Nat.beq t' t || Nat.beq t' (t + 3000000) then (x.1, none) else x
  | none => x
noncomputable def putV' (ro : RO) (m : Mm) (dr : Bool) (o : Oper) (v : S) (tk : Tk) (k : Mm → Option β) : Option β :=
  bif isCopy o then putX ro m o.dst v tk k else
    match tk with
    | none => putX ro m o.dst v none k
    | some (t, e) => bif Nat.blt (tcl t) 2 && (!dr || newOp o && (match o.dst with | some d => Nat.beq d (t % 1000000) | none => false)) then putX ro ⟨m.sl.mapV (clrX t), m.bx⟩ o.dst v (some (t, e)) k else none
def constX : Value → S
  | .int k n => .int k n
  | .bool b => .bool b
  | .string s => bif Nat.ble s.size maxLen then .str s.data.toList else .any
  | .pointer none => .nilp
  | .slice none 0 0 => .rows []
  | .nilFunc => .nilfn
  | .nilIface => .nilif
  | _ => .any
def constXV : Value → S
  | .agg cs => bif cs.toList.all (fun x => x.oneCell') then .agg (cs.toList.map constX) else .any
  | .tuple cs => .tup (cs.toList.map constX)
  | v => constX v
noncomputable def evalX (ro : RO) (m : Mm) : Operand → S
  | .tmp t => (getS ro m t).1
  | .const v => constXV v
  | .global g => .gel g 0
  | .func f => .fn (.func f) [] []
noncomputable def tokX (ro : RO) (m : Mm) : Operand → Tk
  | .tmp t => (getS ro m t).2
  | _ => none
instance (k : IntKind) (n : Int) : Decidable (InR k n) := inferInstanceAs (Decidable (k.wrap n = n))
def addI (k : IntKind) (a b : Int) : Option Int := if InR k (a + b) then some (a + b) else none
def subI (k : IntKind) (a b : Int) : Option Int := if InR k (a - b) then some (a - b) else none
def mulI (k : IntKind) (a b : Int) : Option Int := if InR k (a * b) then some (a * b) else none
def quoI (k : IntKind) (a b : Int) : Option Int := if b ≠ 0 ∧ InR k (a.tdiv b) then some (a.tdiv b) else none
def remI (a b : Int) : Option Int := if b ≠ 0 then some (a.tmod b) else none
def catS (s t : List UInt8) : Option (List UInt8) := if s.length + t.length ≤ maxLen then some (s ++ t) else none
def slc {α : Type} (l : List α) (lo hi : Int) : Option (List α) := if 0 ≤ lo ∧ lo ≤ hi ∧ hi ≤ l.length then some ((l.take hi.toNat).drop lo.toNat) else none
def idx {α : Type} (l : List α) (i : Int) : Option α := if 0 ≤ i then l[i.toNat]? else none
def idxS (s : List UInt8) (i : Int) : Option Int := (idx s i).map fun b => (b.toNat : Int)
def app {α : Type} (by' : Nat) (l m : List α) : Option (List α) := if (l.length + m.length) * by' ≤ 140737488355328 then some (l ++ m) else none
def bytesI (s : List UInt8) : List Int := s.map fun b => (b.toNat : Int)
def toBytes (l : List Int) : Option (List UInt8) := if l.all (fun n => decide (0 ≤ n) && decide (n < 256)) then some (l.map fun n => UInt8.ofNat n.toNat) else none
def br {α : Type} (b : Bool) (x y : α) : α := cond b x y
def cszS : S → Option Nat
  | .agg cs => some cs.length
  | .any | .un | .tup _ => none
  | .gel _ _ => none
  | _ => some 1
def cellsS : S → List S
  | .agg cs => cs
  | v => [v]
def kindS : S → Option CK
  | .int k _ => some (.int k)
  | .bool _ => some .bool
  | .str _ => some .str
  | _ => none
def cellEqS : S → S → Bool
  | .int _ a, .int _ b => a == b
  | .bool a, .bool b => a == b
  | .str a, .str b => a == b
  | _, _ => false
def eqS : List S → List S → Bool
  | [x], [y] => cellEqS x y
  | x :: xs, y :: ys => cellEqS x y && eqS xs ys
  | _, _ => true
def ckEq : CK → CK → Bool
  | .int k, .int k' => decide (k = k')
  | .bool, .bool => true
  | .str, .str => true
  | _, _ => false
def kindsS : List CK → List S → Bool
  | [], [] => true
  | k :: ks, c :: cs => (match kindS c with | some k' => ckEq k' k | none => false) && kindsS ks cs
  | _, _ => false
mutual
def noLocS : S → Bool
  | .loc _ _ => false
  | .loco _ _ _ _ => false
  | .mref _ => false
  | .agg cs => noLocSL cs
  | .tup cs => noLocSL cs
  | .elt cs _ => noLocSL cs
  | .rows vs => noLocSL vs
  | .fn _ first cap => noLocSL first && noLocSL cap
  | .iface _ v => noLocS v
  | _ => true
def noLocSL : List S → Bool
  | [] => true
  | c :: cs => noLocS c && noLocSL cs
end
def kinC : (c : C) → den c → Bool
  | .i64, n => decide (InR .i64 n)
  | .u64, n => decide (InR .u64 n)
  | .str, _ => true
  | .Pair, p => decide (InR .i64 p.a) && decide (InR .i64 p.b)
  | .ID, p => decide (InR .i64 p.Node) && decide (InR .u64 p.Seq) && decide (InR .i64 p.Off)
  | .Outc, p => decide (InR .i64 p.Tick) && decide (InR .i64 p.Node) && decide (InR .i64 p.Kind) && decide (InR .i64 p.ID.Node) && decide (InR .u64 p.ID.Seq) && decide (InR .i64 p.ID.Off) && decide (InR .i64 p.Other)
  | _, _ => false
def ckC : C → Option (Bool × List CK)
  | .i64 => some (false, [.int .i64])
  | .u64 => some (false, [.int .u64])
  | .str => some (false, [.str])
  | .Pair => some (true, [.int .i64, .int .i64])
  | .ID => some (true, [.int .i64, .int .u64, .int .i64])
  | .Outc => some (true, [.int .i64, .int .i64, .int .i64, .int .i64, .int .u64, .int .i64, .int .i64])
  | _ => none
def ksEq : List CK → List CK → Bool
  | [], [] => true
  | a :: l, b :: m => ckEq a b && ksEq l m
  | _, _ => false
def mget {α β : Type} [DecidableEq α] (kin : α → Bool) (l : List (α × β)) (k : α) : Option (Option β) := bif kin k && l.all (fun e => kin e.1) then some (aget l k) else none
def mput {α β : Type} [DecidableEq α] (kin : α → Bool) (l : List (α × β)) (k : α) (v : β) : Option (List (α × β)) := bif kin k && l.all (fun e => kin e.1) then some (aput l k v) else none
def mdel {α β : Type} [DecidableEq α] (kin : α → Bool) (l : List (α × β)) (k : α) : Option (List (α × β)) := bif kin k && l.all (fun e => kin e.1) then some (adel l k) else none
theorem ckEq_eq {a b : CK} (h : ckEq a b = true) : a = b := by
  cases a <;> cases b <;> simp [ckEq] at h <;> simp [*]
theorem ksEq_eq : ∀ {a b : List CK}, ksEq a b = true → a = b
  | [], [], _ => rfl
  | [], _ :: _, h => by simp [ksEq] at h
  | _ :: _, [], h => by simp [ksEq] at h
  | a :: l, b :: m, h => by
    simp only [ksEq, Bool.and_eq_true] at h
    rw [ckEq_eq h.1, ksEq_eq h.2]
theorem kinC_ok {c : C} {ag : Bool} {ks : List CK} (h : ckC c = some (ag, ks)) {x : den c} (hx : kinC c x = true) : keyOK ag ks (enc c x) := by
  cases c <;> simp only [ckC, Option.some.injEq, Prod.mk.injEq, reduceCtorEq] at h <;> obtain ⟨rfl, rfl⟩ := h <;>
    simp only [kinC, Bool.and_eq_true, decide_eq_true_eq] at hx
  · exact ⟨rfl, rfl, ⟨⟨rfl, hx⟩, trivial⟩⟩
  · exact ⟨rfl, rfl, ⟨⟨rfl, hx⟩, trivial⟩⟩
  · exact ⟨rfl, rfl, trivial⟩
  · exact ⟨rfl, rfl, ⟨⟨rfl, hx.1.1⟩, ⟨rfl, hx.1.2⟩, ⟨rfl, hx.2⟩, trivial⟩⟩
  · obtain ⟨⟨⟨⟨⟨⟨h1, h2⟩, h3⟩, h4⟩, h5⟩, h6⟩, h7⟩ := hx
    exact ⟨rfl, rfl, ⟨⟨rfl, h1⟩, ⟨rfl, h2⟩, ⟨rfl, h3⟩, ⟨rfl, h4⟩, ⟨rfl, h5⟩, ⟨rfl, h6⟩, ⟨rfl, h7⟩, trivial⟩⟩
  · exact ⟨rfl, rfl, ⟨⟨rfl, hx.1⟩, ⟨rfl, hx.2⟩, trivial⟩⟩
theorem keyEq_dq {c : C} {d : DecidableEq (den c)} (h : dq c = some d) (a b : den c) : keyEq (enc c a) (enc c b) = decide (a = b) := by
  have key : (keyEq (enc c a) (enc c b) = true ↔ a = b) := by
    cases c <;> simp only [dq, reduceCtorEq] at h
    · show keyEq (.int .i64 a) (.int .i64 b) = true ↔ a = b
      simp [keyEq, V.cellsL, eqV, cellEq]
    · show keyEq (.int .u64 a) (.int .u64 b) = true ↔ a = b
      simp [keyEq, V.cellsL, eqV, cellEq]
    · show keyEq (.str a) (.str b) = true ↔ a = b
      simp [keyEq, V.cellsL, eqV, cellEq]
    · obtain ⟨a1, a2, a3⟩ := a; obtain ⟨b1, b2, b3⟩ := b
      show keyEq (enc_ID ⟨a1, a2, a3⟩) (enc_ID ⟨b1, b2, b3⟩) = true ↔ _
      simp [keyEq, enc_ID, V.cellsL, eqV, cellEq]
    · obtain ⟨a1, a2, a3, ⟨a4, a5, a6⟩, a7⟩ := a; obtain ⟨b1, b2, b3, ⟨b4, b5, b6⟩, b7⟩ := b
      show keyEq (enc_Outc ⟨a1, a2, a3, ⟨a4, a5, a6⟩, a7⟩) (enc_Outc ⟨b1, b2, b3, ⟨b4, b5, b6⟩, b7⟩) = true ↔ _
      simp [keyEq, enc_Outc, V.cellsL, eqV, cellEq, and_assoc]
    · obtain ⟨a1, a2⟩ := a; obtain ⟨b1, b2⟩ := b
      show keyEq (enc_Pair ⟨a1, a2⟩) (enc_Pair ⟨b1, b2⟩) = true ↔ _
      simp [keyEq, enc_Pair, V.cellsL, eqV, cellEq]
  rw [Bool.eq_iff_iff, key]; simp
section
variable (P : Program) (code : TypeId → Option C) (ro : RO) (m : Mm)
def unreflL (c : C) : List S → Option (List (den c))
  | [] => some []
  | s :: ss => match unrefl c s with
    | some x => (match unreflL c ss with | some xs => some (x :: xs) | none => none)
    | none => none
def tblA (c : C) (g off n : Nat) : Option (den c) := match GL g with
  | some vs => if off + n ≤ vs.length then unrefl c (.agg (((vs.map constXV).drop off).take n)) else none
  | none => none
def tbl1 (c : C) (g off : Nat) : Option (den c) := match GL g with
  | some vs => (match (vs.map constXV)[off]? with | some s => unrefl c s | none => none)
  | none => none
def tblL (c : C) (g n : Nat) : Nat → Nat → Option (List (den c))
  | 0, _ => some []
  | k + 1, off => match tblA c g off n, tblL c g n k (off + n) with
    | some x, some l => some (x :: l)
    | _, _ => none
def arrO (t : TypeId) : Option (C × Nat) := match code t with | some c => arrC c | none => none
noncomputable def loadX (t : TypeId) (x : S) (K : S → Option β) : Option β :=
  match x, aggT P t with
  | .elt cs off, some true => (match sizeT P t with | some n => bif Nat.ble (off + n) cs.length then K (.agg ((cs.drop off).take n)) else none | none => none)
  | .elt cs off, some false => (match cs[off]? with | some c => K c | none => none)
  | .loc i off, some true => (match getB ro m i, sizeT P t with | some (.cells cs ty), some n => bif Nat.blt ty 1000000000 && Nat.ble (off + n) cs.length then K (.agg ((cs.drop off).take n)) else none | _, _ => none)
  | .loc i off, some false => (match getB ro m i with | some (.cells cs ty) => bif Nat.blt ty 1000000000 then (match cs[off]? with | some c => K c | none => none) else none | _ => none)
  | .loco i a n ix, some false => (match getB ro m i, code t with
    | some (.cells cs ty), some c => bif Nat.blt ty 1000000000 && Nat.ble (a + n) cs.length then (match unreflL c ((cs.drop a).take n) with | some l => (idx l ix).bind fun y => K (refl c y) | none => none) else none
    | _, _ => none)
  | .gel g off, some true => (match sizeT P t, code t with | some n, some c => (tblA c g off n).bind fun y => K (refl c y) | _, _ => none)
  | .gel g off, some false => (match code t with | some c => (tbl1 c g off).bind fun y => K (refl c y) | none => none)
  | _, _ => none
def shlI (k : IntKind) (a b : Int) : Option Int := if 0 ≤ b then some (k.wrap (a * 2 ^ (min b.toNat k.bits))) else none
def shrI (k : IntKind) (a b : Int) : Option Int := if 0 ≤ b then some (a.fdiv (2 ^ (min b.toNat k.bits))) else none
def shX (op : BinOp) (k : IntKind) (a b : Int) (K : S → Option β) : Option β :=
  match op with
  | .shl => (shlI k a b).bind fun n => K (.int k n)
  | .shr => (shrI k a b).bind fun n => K (.int k n)
  | _ => none
def isSh : BinOp → Bool
  | .shl => true
  | .shr => true
  | _ => false
def intX (op : BinOp) (k : IntKind) (a b : Int) (K : S → Option β) : Option β :=
  match op with
  | .add => (addI k a b).bind fun n => K (.int k n)
  | .sub => (subI k a b).bind fun n => K (.int k n)
  | .mul => (mulI k a b).bind fun n => K (.int k n)
  | .quo => (quoI k a b).bind fun n => K (.int k n)
  | .rem => (remI a b).bind fun n => K (.int k n)
  | .eql => K (.bool (a == b))
  | .neq => K (.bool (a != b))
  | .lss => K (.bool (decide (a < b)))
  | .leq => K (.bool (decide (a ≤ b)))
  | .gtr => K (.bool (decide (b < a)))
  | .geq => K (.bool (decide (b ≤ a)))
  | .and => K (.int k (bitI .and k a b))
  | .or => K (.int k (bitI .or k a b))
  | .xor => K (.int k (bitI .xor k a b))
  | .andNot => K (.int k (bitI .andNot k a b))
  | _ => none
def strX (op : BinOp) (s t : List UInt8) (K : S → Option β) : Option β :=
  match op with
  | .add => (catS s t).bind fun r => K (.str r)
  | .eql => K (.bool (s == t))
  | .neq => K (.bool (!(s == t)))
  | .lss => K (.bool (Op.bytesLess s t))
  | .leq => K (.bool (Op.bytesLess s t || s == t))
  | .gtr => K (.bool (!(Op.bytesLess s t || s == t)))
  | .geq => K (.bool (!Op.bytesLess s t))
  | _ => none
def binX (op : BinOp) (xT : TypeId) (a b : S) (K : S → Option β) : Option β :=
  match a, b with
  | .int k x, .int k' y => bif isSh op then shX op k x y K else if k = k' then intX op k x y K else none
  | .str s, .str t => strX op s t K
  | .bool x, .bool y => (match op, basicT P xT with
    | .eql, .bool => K (.bool (x == y))
    | .neq, .bool => K (.bool (!(x == y)))
    | _, _ => none)
  | .agg cs, .agg ds => (match op, eqT P xT with
    | .eql, some ks => bif kindsS ks cs && kindsS ks ds then K (.bool (eqS cs ds)) else none
    | .neq, some ks => bif kindsS ks cs && kindsS ks ds then K (.bool (!eqS cs ds)) else none
    | _, _ => none)
  | _, _ => none
def unX (op : UnOp) (x : S) (K : S → Option β) : Option β :=
  match op, x with
  | .not, .bool b => K (.bool (!b))
  | .neg, .int k n => (subI k 0 n).bind fun r => K (.int k r)
  | _, _ => none
def convX (s d : TypeId) (x : S) (K : S → Option β) : Option β :=
  match x, basicT P s, basicT P d with
  | .int _ n, .int _, .int k => K (.int k (k.wrap n))
  | .str l, .str, .str => K (.str l)
  | .str l, .str, .other => (match sliceT P d with
    | some e => (match basicT P e with | .int .u8 => K (.lst .u8 (bytesI l)) | _ => none)
    | none => none)
  | .lst .u8 rows, .other, .str => (match sliceT P s with
    | some e => (match basicT P e with | .int .u8 => (toBytes rows).bind fun r => K (.str r) | _ => none)
    | none => none)
  | _, _, _ => none
noncomputable def bndX (x : Option Operand) (d : Int) (K : Int → Option β) : Option β :=
  match x with
  | none => K d
  | some x => (match evalX ro m x with
    | .int _ i => K i
    | _ => none)
def elemC (t : TypeId) (c : C) : Option (TypeId × Nat) := match sliceT P t with
  | some e => (match sizeT P e with | some n => bif Nat.beq n (csz c) then some (e, n) else none | none => none)
  | none => none
noncomputable def sliceX (t : TypeId) (x : S) (lo hi mx : Option Operand) (dst : Option Nat) (K : S → Tk → Option β) : Option β :=
  match x, mx with
  | .str s, none => (match basicT P t with
    | .str => bndX ro m lo 0 fun l => bndX ro m hi s.length fun h => (slc s l h).bind fun r => K (.str r) none
    | _ => none)
  | .lst c l, none => (match elemC P t c with
    | some _ => bndX ro m lo 0 fun a => bndX ro m hi l.length fun h => (slc l a h).bind fun r => K (.lst c r) none
    | none => none)
  | .lst c l, some mx => (match elemC P t c, hi with
    | some (e, _), some hi => bndX ro m lo 0 fun a => bndX ro m (some hi) l.length fun h => bndX ro m (some mx) l.length fun h' => br (decide (h' = h)) ((slc l a h).bind fun r => K (.lst c r) (some (cutTok hi (dst.getD 0), e))) none
    | _, _ => none)
  | _, _ => none
noncomputable def gsliceX (t : TypeId) (x : S) (lo hi mx : Option Operand) (dst : Option Nat) (K : S → Tk → Option β) : Option β :=
  match x with
  | .gel g a => (match lo, hi, mx, arrT P t with
    | none, none, none, some (len, e) => (match sizeT P e, code e with
      | some n, some c => bif Nat.beq n (csz c) && Nat.ble len maxLen && Nat.blt 0 len then (tblL c g n len a).bind fun r => K (.lst c r) none else none
      | _, _ => none)
    | _, _, _, _ => none)
  | x => sliceX P ro m t x lo hi mx dst K
def faddrX (s : TypeId) (i : Nat) (x : S) (K : S → Option β) : Option β :=
  match fieldT P s i with
  | some (off, t) => (match sizeT P t with
    | some n => bif Nat.beq n 0 then none else (match x with
      | .loc j a => K (.loc j (a + off))
      | .elt cs a => K (.elt cs (a + off))
      | .gel g a => (match GL g with | some _ => K (.gel g (a + off)) | none => none)
      | _ => none)
    | none => none)
  | none => none
def fieldX (s : TypeId) (i : Nat) (x : S) (K : S → Option β) : Option β :=
  match fieldT P s i, x with
  | some (off, t), .agg cs => (match aggT P t, sizeT P t with
    | some true, some n => K (.agg ((cs.drop off).take n))
    | some false, _ => (match cs[off]? with | some c => K c | none => none)
    | _, _ => none)
  | _, _ => none
def inB (i : Int) (n : Nat) : Bool := decide (0 ≤ i) && decide (i < (n : Int))
def iaddrX (t : TypeId) (x i : S) (K : S → Option β) : Option β :=
  match x, i with
  | .lst c l, .int _ i => (match elemC P t c with
    | some _ => (idx l i).bind fun x => K (.elt (cellsS (refl c x)) 0)
    | none => none)
  | .loc j a, .int _ i => (match arrT P t with
    | some (len, e) => (match sizeT P e with
      | some n => (match arrO code t with
        | some (_, k) => bif Nat.beq n 1 && Nat.beq k len then br (inB i len) (K (.loco j a len i)) none else none
        | none => br (inB i len) (K (.loc j (a + i.toNat * n))) none)
      | none => none)
    | none => none)
  | .elt cs a, .int _ i => (match arrT P t with
    | some (len, e) => (match sizeT P e with | some n => br (inB i len) (K (.elt cs (a + i.toNat * n))) none | none => none)
    | none => none)
  | .gel g a, .int _ i => (match arrT P t with
    | some (len, e) => (match sizeT P e, GL g with | some n, some _ => br (inB i len) (K (.gel g (a + i.toNat * n))) none | _, _ => none)
    | none => none)
  | _, _ => none
def indexX (t : TypeId) (x i : S) (K : S → Option β) : Option β :=
  match x, i with
  | .str s, .int _ i => (match basicT P t with
    | .str => (idxS s i).bind fun b => K (.int .u8 b)
    | _ => none)
  | .agg cs, .int _ i => (match arrT P t with
    | some (len, e) => (match aggT P e, sizeT P e with
      | some false, some n => (match arrO code t with
        | some (c, _) => bif Nat.beq n 1 then br (inB i len) (match unreflL c cs with | some l => (idx l i).bind fun y => K (refl c y) | none => none) none else none
        | none => br (inB i len) (match cs[i.toNat * n]? with | some c => K c | none => none) none)
      | _, _ => none)
    | none => none)
  | _, _ => none
def fillX (place : Nat → Option (Nat × Nat)) (cells : List S) : List (Nat × S) → Option (List S)
  | [] => some cells
  | (i, v) :: rest =>
    match place i, cszS v with
    | some (off, size), some n => bif Nat.beq n size && Nat.ble (off + n) cells.length then fillX place (cells.take off ++ cellsS v ++ cells.drop (off + n)) rest else none
    | _, _ => none
def zeroX (t : TypeId) : Option S := ((P.info? t).bind (·.zero)).map constXV
noncomputable def buildX (t : TypeId) (parts : List (Nat × Operand)) (K : S → Option β) : Option β :=
  match zeroX P t, placesT P t with
  | some zv, some place => (match cszS zv with
    | some _ => (match fillX place (cellsS zv) (parts.map fun x => (x.1, evalX ro m x.2)) with
      | some out => K (.agg out)
      | none => none)
    | none => none)
  | _, _ => none
def rowsSz (n : Nat) : List S → Bool
  | [] => true
  | s :: ss => (match cszS s with | some k => Nat.beq k n | none => false) && rowsSz n ss
noncomputable def bsliceX (t : TypeId) (len : Nat) (parts : List (Nat × Operand)) (dst : Option Nat) (K : S → Tk → Option β) : Option β :=
  match sliceT P t with
  | some e => (match sizeT P e, zeroX P e with
    | some sz, some zv => (match cszS zv with
      | some zn => bif !Nat.beq sz 0 && Nat.beq zn sz && Nat.beq parts.length len && Nat.ble (len * sz) 16777216 && idxOK parts 0 then
          (match code e with
          | some c => (match unreflL c (parts.map fun x => evalX ro m x.2) with
            | some l => bif Nat.beq (csz c) sz then K (.lst c l) (some (dst.getD 0, e)) else none
            | none => none)
          | none => bif rowsSz sz (parts.map fun x => evalX ro m x.2) then K (.rows (parts.map fun x => evalX ro m x.2)) (some (dst.getD 0, e)) else none)
        else none
      | none => none)
    | _, _ => none)
  | none => none
def nilX (x : S) (K : S → Option β) : Option β :=
  match x with
  | .loc i off => K (.loc i off)
  | .elt cs off => K (.elt cs off)
  | .gel g off => (match GL g with | some _ => K (.gel g off) | none => none)
  | _ => none
def lenX (t : TypeId) (x : S) (K : S → Option β) : Option β :=
  match x with
  | .lst c l => (match sliceT P t with | some _ => K (.int .i64 l.length) | none => none)
  | .rows vs => (match sliceT P t with | some _ => K (.int .i64 vs.length) | none => none)
  | .str s => (match basicT P t with | .str => K (.int .i64 s.length) | _ => none)
  | _ => none
def builtinX (b : Builtin) (args : List S) (tys : List TypeId) (K : S → Option β) : Option β :=
  match b, args, tys with
  | .len, [x], [t] => lenX P t x K
  | .max, [.int k a, .int k' b], [_, _] => if k = k' then K (.int k (max a b)) else none
  | .min, [.int k a, .int k' b], [_, _] => if k = k' then K (.int k (min a b)) else none
  | _, _, _ => none
noncomputable def assignX (o : Oper) (x : Operand) (K : S → Tk → Option β) : Option β :=
  match x with
  | .const (.slice none 0 0) => (match sliceT P o.type with
    | some e => (match code e with
      | some c => K (.lst c []) (some (o.dst.getD 0, e))
      | none => K (.rows []) (some (o.dst.getD 0, e)))
    | none => K (.rows []) none)
  | x => K (evalX ro m x) (tokX ro m x)
def pickX (c a b : S) (K : S → Option β) : Option β :=
  match c with
  | .bool t => (match a, b with
    | .bool x, .bool y => K (.bool (bif t then x else y))
    | .int k x, .int k' y => if k = k' then K (.int k (bif t then x else y)) else none
    | .str x, .str y => K (.str (bif t then x else y))
    | a, b => br t (K a) (K b))
  | _ => none
noncomputable def valX (o : Oper) (K : S → Tk → Option β) : Option β :=
  match o.op with
  | .move x => K (evalX ro m x) (tokX ro m x)
  | .assign x => assignX P code ro m o x K
  | .pick c x y => pickX (evalX ro m c) (evalX ro m x) (evalX ro m y) (K · none)
  | .load t x => loadX P code ro m t (evalX ro m x) (K · none)
  | .binOp op xT x y _ => binX P op xT (evalX ro m x) (evalX ro m y) (K · none)
  | .unOp op _ x => unX op (evalX ro m x) (K · none)
  | .convert s d x => convX P s d (evalX ro m x) (K · none)
  | .makeInterface t x => bif ifaceOK P t then K (.iface t (evalX ro m x)) none else none
  | .makeFunc f first cap => K (.fn f (first.toList.map (evalX ro m)) (cap.toList.map (evalX ro m))) none
  | .slice t x lo hi mx => gsliceX P code ro m t (evalX ro m x) lo hi mx o.dst K
  | .fieldAddr s x i => faddrX P s i (evalX ro m x) (K · none)
  | .field s x i => fieldX P s i (evalX ro m x) (K · none)
  | .indexAddr t x i => iaddrX P code t (evalX ro m x) (evalX ro m i) (K · none)
  | .index t x i => indexX P code t (evalX ro m x) (evalX ro m i) (K · none)
  | .extract x i => (match evalX ro m x with | .tup vs => (match vs[i]? with | some v => K v none | none => none) | _ => none)
  | .build t parts => buildX P ro m t parts.toList (K · none)
  | .buildSlice t len parts => bsliceX P code ro m t len parts.toList o.dst K
  | .nilCheck x => nilX (evalX ro m x) (K · none)
  | .call { callee := .builtin b, args, argTypes } => builtinX P b (args.toList.map (evalX ro m)) argTypes.toList (K · none)
  | _ => none
end
end Go.X
