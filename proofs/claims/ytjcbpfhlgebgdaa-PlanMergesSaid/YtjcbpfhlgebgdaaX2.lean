import Derived.Test.YtjcbpfhlgebgdaaX1
set_option linter.unusedSimpArgs false
set_option linter.unusedVariables false
namespace Go.X
open Go.Eng
open Go.RowKit
mutual
def renS (f : Nat → Nat) : S → S
  | .loc i off => .loc (f i) off
  | .loco i off n ix => .loco (f i) off n ix
  | .mref i => .mref (f i)
  | .agg cs => .agg (renSL f cs)
  | .tup cs => .tup (renSL f cs)
  | .elt cs off => .elt (renSL f cs) off
  | .rows vs => .rows (renSL f vs)
  | .fn g first cap => .fn g (renSL f first) (renSL f cap)
  | .iface t v => .iface t (renS f v)
  | v => v
def renSL (f : Nat → Nat) : List S → List S
  | [] => []
  | c :: cs => renS f c :: renSL f cs
end
mutual
def locsS : S → List Nat
  | .loc i _ => [i]
  | .loco i _ _ _ => [i]
  | .mref i => [i]
  | .agg cs => locsSL cs
  | .tup cs => locsSL cs
  | .elt cs _ => locsSL cs
  | .rows vs => locsSL vs
  | .fn _ first cap => locsSL first ++ locsSL cap
  | .iface _ v => locsS v
  | _ => []
def locsSL : List S → List Nat
  | [] => []
  | c :: cs => locsS c ++ locsSL cs
end
def dedup : List Nat → List Nat → List Nat
  | [], acc => acc
  | i :: is, acc => bif acc.any (Nat.beq i) then dedup is acc else dedup is (acc ++ [i])
def indexN : List Nat → Nat → Nat
  | [], _ => 0
  | x :: xs, i => bif Nat.beq x i then 0 else indexN xs i + 1
def noLocB : SBox → Bool
  | .cells cs _ => noLocSL cs
  | .map _ _ _ _ => true
structure XSpec (P : Program) where
  f : FuncId
  run : {β : Type} → List S → List SBox → (S → List SBox → Option β) → Option (Option β)
  sound : ∀ {β : Type} (args : List S) (ins : List SBox) (K : S → List SBox → Option β) (r : β), run args ins K = some (some r) →
    ∃ res outs, K res outs = some r ∧ isGo P f = true ∧ Go.Eng.Fn P f (toVL args) (ins.map toBox) (toV res) (outs.map toBox) ∧ noLocS res = true ∧ (∀ B ∈ outs, noLocB B = true) ∧ outs.length = ins.length
def sArgs (v : Value) : Option FuncId → Array Value
  | none => #[v]
  | some g => #[v, .func (.func g) #[] #[]]
structure Sorts (P : Program) (f : FuncId) (g : Option FuncId) {α : Type} (enc : α → V) (sz : Nat) (srt : List α → List α) : Prop where
  nil : ∀ (w : World) (pr : Nat → Nat → Prop) (base : Option Addr) (cap : Nat), HL w pr → Calls P f (sArgs (.slice base 0 cap) g) w fun en w' => en = .returned (.tuple #[]) ∧ Below w.heap.size w w' ∧ DLE w w'
  row : ∀ (w : World) (pr : Nat → Nat → Prop) (lam : Nat → Option Nat) (blk cap : Nat) (d : List α) (cur : Array Value) (e : TypeId), HL w pr → (∀ k vs, GL k = some vs → blk ≠ k) → d ≠ [] → d.length ≤ cap → cap ≤ maxLen → d.length < 4611686018427387904 →
    w.heap[blk]? = some (.cells cur e (0, 0)) → cur.size = cap * sz → RR ⟨w, pr, lam⟩ blk sz 0 (d.map enc) →
    Calls P f (sArgs (.slice (some ⟨blk, 0, none⟩) d.length cap) g) w fun en w' => en = .returned (.tuple #[]) ∧
      ∃ w1 cur', Swap w w1 blk ∧ w1.heap[blk]? = some (.cells cur' e (0, 0)) ∧ cur'.size = cur.size ∧ RR ⟨w1, pr, lam⟩ blk sz 0 ((srt d).map enc) ∧ Below w1.heap.size w1 w' ∧ DLE w1 w'
  len : ∀ d, (srt d).length = d.length
structure XSort (P : Program) where
  f : FuncId
  g : Option FuncId
  c : C
  srt : List (den c) → List (den c)
  sound : Sorts P f g (enc c) (csz c) srt
  go : isGo P f = true
structure XOwn (P : Program) where
  f : FuncId
  c : C
  e : TypeId
  run : List S → Option (Option (List (den c)))
  sound : ∀ (args : List S) (l : List (den c)), run args = some (some l) → isGo P f = true ∧ FnO P f (toVL args) (.list (l.map (enc c))) e
structure XMut (P : Program) where
  f : FuncId
  p : Nat
  c : C
  e : TypeId
  run : {β : Type} → List S → List SBox → (List (den c) → List SBox → Option β) → Option (Option β)
  sound : ∀ {β : Type} (args : List S) (ins : List SBox) (K : List (den c) → List SBox → Option β) (r : β), run args ins K = some (some r) →
    ∃ l outs, K l outs = some r ∧ isGo P f = true ∧ FnM P f (toVL args) (ins.map toBox) p e (.list (l.map (enc c))) (outs.map toBox) ∧ (∀ B ∈ outs, noLocB B = true) ∧ outs.length = ins.length
def findMut {P : Program} : List (XMut P) → FuncId → Option (XMut P)
  | [], _ => none
  | s :: ss, f => bif Nat.beq s.f f then some s else findMut ss f
def findOwn {P : Program} : List (XOwn P) → FuncId → Option (XOwn P)
  | [], _ => none
  | s :: ss, f => bif Nat.beq s.f f then some s else findOwn ss f
def optB : Option Nat → Option Nat → Bool
  | none, none => true
  | some a, some b => Nat.beq a b
  | _, _ => false
def findSort {P : Program} : List (XSort P) → FuncId → Option FuncId → Option (XSort P)
  | [], _, _ => none
  | s :: ss, f, g => bif Nat.beq s.f f && optB s.g g then some s else findSort ss f g
def srtG {α : Type} (srt : List α → List α) (l : List α) : Option (List α) := if l.length < 4611686018427387904 then some (srt l) else none
structure XCtx (P : Program) where
  code : TypeId → Option C
  wr : Nat
  key : TypeId → Bool
  keyed : ∀ t, key t = true → KeyT P t
  known : List (XSpec P)
  sorts : List (XSort P) := []
  owned : List (XOwn P) := []
  muts : List (XMut P) := []
def findSpec {P : Program} {β : Type} : List (XSpec P) → FuncId → List S → List SBox → (S → List SBox → Option β) → Option (Option β)
  | [], _, _, _, _ => none
  | s :: ss, f, args, ins, K => bif Nat.beq s.f f then (match s.run args ins K with | some r => some r | none => findSpec ss f args ins K) else findSpec ss f args ins K
section
variable {P : Program} (X : XCtx P) (ro : RO)
variable {β : Type}
noncomputable def boxesX (m : Mm) : List Nat → Option (List SBox)
  | [] => some []
  | i :: is => match getB ro m i with
    | some B => bif noLocB B && ro.ownB i then (match boxesX m is with | some bs => some (B :: bs) | none => none) else none
    | none => none
def setBs (bx : List (Option SBox)) : List Nat → List SBox → List (Option SBox)
  | i :: is, B :: bs => setBs (bx.set i (some B)) is bs
  | _, _ => bx
noncomputable def callX (dr : Bool) (m : Mm) (f : FuncId) (args : List S) (dst : Option Nat) (k : Mm → Option β) : Option β :=
  match dedup (locsSL args) [] with
  | [] => (match findSpec X.known f args [] (fun res _ => putX ro m dst res none k) with
    | some r => r
    | none => none)
  | π => bif dr || !Nat.ble ro.nb m.bx.length then none else (match boxesX ro m π with
    | some ins => (match findSpec X.known f (renSL (indexN π) args) ins (fun res outs => putX ro ⟨m.sl, setBs m.bx π outs⟩ dst res none k) with
      | some r => r
      | none => none)
    | none => none)
noncomputable def newBoxX (m : Mm) (B : SBox) (dst : Option Nat) (v : S) (k : Mm → Option β) : Option β :=
  bif Nat.ble ro.nb m.bx.length then putX ro ⟨m.sl, m.bx ++ [some B]⟩ dst v none k else none
noncomputable def boxX (m : Mm) (e : TypeId) (v : S) (dst : Option Nat) (k : Mm → Option β) : Option β :=
  match cszS v with
  | some _ => bif Nat.blt e 1000000000 then newBoxX ro m (.cells (cellsS v) e) dst (.loc m.bx.length 0) k else none
  | none => none
def putA {α : Type} (l : List α) (i : Int) (x : α) : Option (List α) := if 0 ≤ i ∧ i < l.length then some (l.set i.toNat x) else none
def arrCells (c : C) : Nat → List (den c) → Nat → List S
  | 0, _, _ => []
  | n + 1, l, k => refl c (l.getD k (dfl c)) :: arrCells c n l (k + 1)
def noAgg : S → Bool
  | .agg _ => false
  | _ => true
noncomputable def storeX (m : Mm) (t : TypeId) (x y : S) (dst : Option Nat) (k : Mm → Option β) : Option β :=
  match x, dst with
  | .loc i off, none => (match getB ro m i, sizeT P t, cszS y with
    | some (.cells cs ty), some n, some n' => bif Nat.blt ty 1000000000 && Nat.beq n' n && Nat.ble (off + n) cs.length && ro.ownB i then
        k ⟨m.sl, m.bx.set i (some (.cells (cs.take off ++ cellsS y ++ cs.drop (off + n)) ty))⟩ else none
    | _, _, _ => none)
  | .loco i a n ix, none => (match getB ro m i, X.code t, sizeT P t with
    | some (.cells cs ty), some c, some z => (match unreflL c ((cs.drop a).take n), unrefl c y with
      | some l, some v => bif Nat.blt ty 1000000000 && Nat.beq z 1 && Nat.beq (csz c) 1 && noAgg y && Nat.ble (a + n) cs.length && ro.ownB i then
          (putA l ix v).bind fun l' => k ⟨m.sl, m.bx.set i (some (.cells (cs.take a ++ arrCells c n l' 0 ++ cs.drop (a + n)) ty))⟩ else none
      | _, _ => none)
    | _, _, _ => none)
  | _, _ => none
noncomputable def appendX (m : Mm) (ss : Nat) (x : S) (t u : TypeId) (dst : Option Nat) (k : Mm → Option β) : Option β :=
  match getS ro m ss, sliceT P t with
  | (.lst c l, some (tk, e)), some e' => (match sizeT P e, bytesT P e, zeroX P e with
    | some sz, some by', some zv => (match cszS zv with
      | some zn => bif Nat.beq e e' && Nat.blt (tcl tk) 2 && srcT P u && Nat.beq zn sz && Nat.beq (csz c) sz && !Nat.beq by' 0 then
          (match x with
          | .lst c' l2 => if h : c' = c then (app by' l (h ▸ l2 : List (den c))).bind fun r => putX ro ⟨m.sl.mapV (clrX tk), m.bx⟩ dst (.lst c r) (some (tk, e)) k else none
          | .rows [] => (app by' l []).bind fun r => putX ro ⟨m.sl.mapV (clrX tk), m.bx⟩ dst (.lst c r) (some (tk, e)) k
          | .str s => if h : C.u8 = c then (app by' l (h ▸ bytesI s : List (den c))).bind fun r => putX ro ⟨m.sl.mapV (clrX tk), m.bx⟩ dst (.lst c r) (some (tk, e)) k else none
          | _ => none)
        else none
      | none => none)
    | _, _, _ => none)
  | _, _ => none
mutual
def flatS : S → Bool
  | .lst _ _ => false
  | .gel _ _ => false
  | .rows vs => vs.isEmpty
  | .elt cs _ => cs.isEmpty
  | .agg cs => flatSL cs
  | .tup cs => flatSL cs
  | .fn _ a b => flatSL a && flatSL b
  | .iface _ v => flatS v
  | _ => true
def flatSL : List S → Bool
  | [] => true
  | c :: cs => flatS c && flatSL cs
end
def flatB : SBox → Bool
  | .cells cs _ => flatSL cs
  | .map _ kc vc _ => codeFlat kc && codeFlat vc
def keepX (tk : Nat) (new : S) (x : S × Tk) : S × Tk :=
  match x.2 with
  | some (t, e) => bif Nat.beq t tk then (new, x.2) else bif Nat.beq (tcl t) 2 then x else bif flatS x.1 then x else bif Nat.beq (tcl t) 0 then
      (match x.1 with | .lst c _ => bif codeFlat c then x else (.any, none) | _ => (.any, none)) else (.any, none)
  | none => bif flatS x.1 then x else (.any, none)
noncomputable def T.findK {α : Type} (p : α → Bool) (t : T α) : Option Nat :=
  T.rec (motive := fun _ => Option Nat) none (fun _ v _ fl fr => bif (match v with | some x => p x | none => false) then some 0 else
    match fl with
    | some q => some (2 * q + 1)
    | none => (match fr with | some q => some (2 * q + 2) | none => none)) t
def setI {α : Type} (l : List α) (i : Int) (x : α) : List α := l.set i.toNat x
noncomputable def ownerX (m : Mm) (tk : Nat) : Option Nat := m.sl.findK fun x => match x.2 with | some (t, _) => Nat.beq t tk | none => false
noncomputable def iaddrTX (m : Mm) (t : TypeId) (ss : Nat) (i : S) (dst : Option Nat) (k : Mm → Option β) : Option β :=
  match getS ro m ss, i with
  | (.lst c l, some (tk, e)), .int _ i => (match elemC P t c with
    | some (e', sz) => bif Nat.beq (tcl tk) 0 && Nat.beq e e' then br (inB i l.length) (putX ro m dst (.ptr i sz 0) (some (tk + 3000000, e)) k) none else none
    | none => none)
  | _, _ => none
noncomputable def faddrTX (m : Mm) (s : TypeId) (d0 fi : Nat) (dst : Option Nat) (k : Mm → Option β) : Option β :=
  match getS ro m d0, fieldT P s fi with
  | (.ptr i sz f, some (u, e)), some (fo, t) => (match sizeT P t with
    | some n => bif !Nat.beq n 0 && Nat.ble 3000000 u && Nat.beq (tcl (u - 3000000)) 0 then putX ro m dst (.ptr i sz (f + fo)) (some (u, e)) k else none
    | none => none)
  | _, _ => none
noncomputable def loadTX (m : Mm) (t : TypeId) (d0 : Nat) (dst : Option Nat) (k : Mm → Option β) : Option β :=
  match getS ro m d0 with
  | (.ptr i sz f, some (u, _)) => (match ownerX m (u - 3000000) with
    | some ss => (match getS ro m ss, sizeT P t, aggT P t with
      | (.lst c l, some (tk, e)), some n, some ag => bif Nat.beq (tk + 3000000) u && Nat.beq (tcl tk) 0 && Nat.beq (csz c) sz && (match sizeT P e with | some z => Nat.beq z sz | none => false) then
          (idx l i).bind fun x => (match ag with
            | true => bif Nat.ble (f + n) (cellsS (refl c x)).length then putX ro m dst (.agg (((cellsS (refl c x)).drop f).take n)) none k else none
            | false => (match (cellsS (refl c x))[f]? with | some y => putX ro m dst y none k | none => none)) else none
      | _, _, _ => none)
    | none => none)
  | _ => none
def rowPutX (c : C) (x : den c) (f n : Nat) (y : S) : Option (den c) :=
  match refl c x with
  | .agg cs => unrefl c (.agg (cs.take f ++ cellsS y ++ cs.drop (f + n)))
  | _ => bif Nat.beq f 0 && Nat.beq n 1 then (match y with | .agg _ => none | y => unrefl c y) else none
noncomputable def storeTX (m : Mm) (t : TypeId) (d0 : Nat) (y : S) (dst : Option Nat) (k : Mm → Option β) : Option β :=
  match getS ro m d0, dst with
  | (.ptr i sz f, some (u, _)), none => (match ownerX m (u - 3000000) with
    | some ss => (match getS ro m ss, sizeT P t, cszS y with
      | (.lst c l, some (tk, e)), some n, some n' => bif Nat.beq (tk + 3000000) u && Nat.beq (tcl tk) 0 && Nat.beq (csz c) sz && (match sizeT P e with | some z => Nat.beq z sz | none => false) && Nat.beq n' n && Nat.ble (f + n) sz && flatS y && codeFlat c && ro.fl &&
            m.bx.all (fun B => match B with | some B => flatB B | none => true) then
          (idx l i).bind fun x => (match rowPutX c x f n y with
            | some x' => k ⟨m.sl.mapV (keepX tk (.lst c (setI l i x'))), m.bx⟩
            | none => none) else none
      | _, _, _ => none)
    | none => none)
  | _, _ => none
def mkL {α : Type} (z : α) (by' : Nat) (l c : Int) : Option (List α) := if 0 ≤ l ∧ l ≤ c ∧ (by' : Int) * c ≤ 281474976710656 ∧ c ≤ maxLen then some (List.replicate l.toNat z) else none
noncomputable def makeTX (m : Mm) (t : TypeId) (l c : S) (dst : Option Nat) (k : Mm → Option β) : Option β :=
  match l, c, sliceT P t with
  | .int _ l, .int _ n, some e => (match X.code e, sizeT P e, bytesT P e, zeroX P e with
    | some c, some sz, some by', some zv => (match unrefl c zv, cszS zv with
      | some z, some zn => bif Nat.beq zn sz && Nat.beq (csz c) sz && Nat.beq (tcl (dst.getD 0)) 0 then (mkL z by' l n).bind fun r => putX ro ⟨m.sl.mapV (clrX (dst.getD 0)), m.bx⟩ dst (.lst c r) (some (dst.getD 0, e)) k else none
      | _, _ => none)
    | _, _, _, _ => none)
  | _, _, _ => none
noncomputable def isPtr (m : Mm) : Operand → Option Nat
  | .tmp t => (match (getS ro m t).1 with | .ptr _ _ _ => some t | _ => none)
  | _ => none
noncomputable def sortX (m : Mm) (Q : XSort P) (ss : Nat) (dst : Option Nat) (k : Mm → Option β) : Option β :=
  match getS ro m ss with
  | (.lst c l, some (tk, e)) => if h : c = Q.c then
      (bif Nat.beq (tcl tk) 0 && (match sizeT P e with | some z => Nat.beq z (csz Q.c) | none => false) && ro.fl && m.bx.all (fun B => match B with | some B => flatB B | none => true) then
        (srtG Q.srt (h ▸ l)).bind fun r => putX ro ⟨m.sl.mapV (keepX tk (.lst Q.c r)), m.bx⟩ dst (.tup []) none k else none) else none
  | _ => none
noncomputable def ownX (m : Mm) (Q : XOwn P) (args : List S) (dst : Option Nat) (k : Mm → Option β) : Option β :=
  bif (locsSL args).isEmpty && Nat.beq (tcl (dst.getD 0)) 0 then
    (match Q.run args with
    | some r => r.bind fun l => putX ro ⟨m.sl.mapV (clrX (dst.getD 0)), m.bx⟩ dst (.lst Q.c l) (some (dst.getD 0, Q.e)) k
    | none => none)
  else none
def dropX (tk : Nat) (x : S × Tk) : S × Tk :=
  match x.2 with
  | some (t, _) => bif Nat.beq t tk then (.any, none) else keepX tk (.lst .i64 []) x
  | none => keepX tk (.lst .i64 []) x
noncomputable def mutArgs (m : Mm) (tk : Nat) (ops : List Operand) (p : Nat) (v : S) (cap : List S) : List S := (ops.map (evalX ro ⟨m.sl.mapV (dropX tk), m.bx⟩)).set p v ++ cap
noncomputable def mutX (m : Mm) (Q : XMut P) (ops : List Operand) (cap : List S) (dst : Option Nat) (k : Mm → Option β) : Option β :=
  match ops[Q.p]? with
  | some (.tmp ss) => (match getS ro m ss with
    | (.lst c l, some (tk, e)) =>
      bif Nat.beq (tcl tk) 0 && Nat.beq e Q.e && Nat.beq (tcl (dst.getD 0)) 0 && ro.fl && m.bx.all (fun B => match B with | some B => flatB B | none => true) && flatSL cap && Nat.ble ro.nb m.bx.length then
        (match boxesX ro m (dedup (locsSL (mutArgs ro m tk ops Q.p (.lst c l) cap)) []) with
        | some ins => (match Q.run (renSL (indexN (dedup (locsSL (mutArgs ro m tk ops Q.p (.lst c l) cap)) [])) (mutArgs ro m tk ops Q.p (.lst c l) cap)) ins (fun r outs =>
            putX ro ⟨(m.sl.mapV (dropX tk)).mapV (clrX (dst.getD 0)), setBs m.bx (dedup (locsSL (mutArgs ro m tk ops Q.p (.lst c l) cap)) []) outs⟩ dst (.lst Q.c r) (some (dst.getD 0, Q.e)) k) with
          | some r => r
          | none => none)
        | none => none)
      else none
    | _ => none)
  | _ => none
noncomputable def cutX (m : Mm) (t : TypeId) (ss : Nat) (y : S) (dst : Option Nat) (k : Mm → Option β) : Option β :=
  match getS ro m ss, y with
  | (.lst c l, some (tk, e)), .int _ i => (match elemC P t c with
    | some (e', sz) => bif Nat.beq e e' && Nat.beq (tcl tk) 0 && codeFlat c && Nat.beq (tcl (dst.getD 0)) 0 && ro.fl && m.bx.all (fun B => match B with | some B => flatB B | none => true) then
        (slc l 0 i).bind fun r => putX ro ⟨(m.sl.mapV (dropX tk)).mapV (clrX (dst.getD 0)), m.bx⟩ dst (.lst c r) (some (dst.getD 0, e)) k
      else none
    | none => none)
  | _, _ => none
noncomputable def markX (m : Mm) (s t : TypeId) (ss : Nat) (dst : Option Nat) (k : Mm → Option β) : Option (Option β) :=
  match getS ro m ss with
  | (.lst .u8 l0, some (tk, e)) => bif Nat.beq (tcl tk) 0 && Nat.beq s t then (match l0 with
      | x :: l => some (match elemC P t .u8, basicT P e with
        | some (e', sz), .int .u8 => bif Nat.beq e e' && ro.fl && m.bx.all (fun B => match B with | some B => flatB B | none => true) then
            putX ro ⟨m.sl.mapV (dropX tk), m.bx⟩ dst (.lst .u8 (x :: l)) none k
          else none
        | _, _ => none)
      | [] => none)
    else none
  | _ => none
noncomputable def appOneX (m : Mm) (ss : Nat) (x : S) (t u : TypeId) (dst : Option Nat) (k : Mm → Option β) : Option β :=
  match getS ro m ss, sliceT P t, x with
  | (.lst c l, some (tk, e)), some e', .lst c' (y :: l2) => (match sizeT P e, bytesT P e, zeroX P e with
    | some sz, some by', some zv => (match cszS zv with
      | some zn => bif Nat.beq e e' && Nat.blt (tcl tk) 2 && srcT P u && Nat.beq zn sz && Nat.beq (csz c) sz && !Nat.beq by' 0 && Nat.beq (tcl (dst.getD 0)) 0 then
          if h : c' = c then (app by' l (h ▸ (y :: l2) : List (den c))).bind fun r => putX ro ⟨(m.sl.mapV (clrX tk)).mapV (clrX (dst.getD 0)), m.bx⟩ dst (.lst c r) (some (dst.getD 0, e)) k else none
        else none
      | none => none)
    | _, _, _ => none)
  | _, _, _ => none
def clrI {α : Type} (l : List α) (i : Int) (z : α) : Option (List α) := if 0 ≤ i ∧ i < l.length then some (l.take i.toNat ++ List.replicate (l.length - i.toNat) z) else none
noncomputable def clr2X (o2 o3 : Oper) (m : Mm) (k : Mm → Option β) : Option β :=
  match o2.guard, o3.guard, o3.dst, o2.dst, o2.op with
  | none, none, none, some c, .slice t (.tmp ss) (some y) none none => bif isClr c t o3.op then (match getS ro m ss, evalX ro m y with
    | (.lst cc l, some (tk, e)), .int _ i => (match elemC P t cc, zeroX P e with
      | some (e', sz), some zv => (match unrefl cc zv, cszS zv with
        | some z, some zn => bif Nat.beq e e' && Nat.beq (tcl tk) 0 && Nat.beq zn sz && codeFlat cc && ro.fl && m.bx.all (fun B => match B with | some B => flatB B | none => true) then
            (clrI l i z).bind fun r => putX ro ⟨m.sl.mapV (keepX tk (.lst cc r)), m.bx⟩ (some c) .any none k
          else none
        | _, _ => none)
      | _, _ => none)
    | _, _ => none) else none
  | _, _, _, _, _ => none
noncomputable def both {γ : Type} (A B : Option γ) : Option γ := open Classical in if A = B then B else none
noncomputable def nilq {α γ : Type} (l : List α) (A B : Option γ) : Option γ := match l with
  | [] => both A B
  | _ :: _ => B
noncomputable def eqnilX (m : Mm) (op : BinOp) (t : TypeId) (x : S) (dst : Option Nat) (k : Mm → Option β) : Option (Option β) :=
  match x, op, sliceT P t with
  | .lst _ l, .eql, some _ => some (nilq l (putX ro m dst (.bool true) none k) (putX ro m dst (.bool false) none k))
  | .lst _ l, .neq, some _ => some (nilq l (putX ro m dst (.bool false) none k) (putX ro m dst (.bool true) none k))
  | _, _, _ => none
noncomputable def mapDelX (m : Mm) (t : TypeId) (mx x : S) (dst : Option Nat) (k : Mm → Option β) : Option β :=
  match mx, mapT P t, dst with
  | .mref i, some (kt, _), none => (match getB ro m i with
    | some (.map mt kc vc l) => (match ckC kc, dq kc, keyT P kt with
      | some (ag, ks), some d, some (ag', ks') => (match unrefl kc x with
        | some kk => bif X.key kt && (ag == ag') && ksEq ks ks' && ro.ownB i then
            (@mdel _ _ d (kinC kc) l kk).bind fun l' => k ⟨m.sl, m.bx.set i (some (.map mt kc vc l'))⟩ else none
        | _ => none)
      | _, _, _ => none)
    | _ => none)
  | _, _, _ => none
noncomputable def mapLenX (m : Mm) (t : TypeId) (i : Nat) (dst : Option Nat) (k : Mm → Option β) : Option β :=
  match mapT P t, getB ro m i with
  | some _, some (.map _ _ _ l) => putX ro m dst (.int .i64 l.length) none k
  | _, _ => none
noncomputable def semX (o : Oper) (m : Mm) (k : Mm → Option β) : Option (Option β) :=
  match o.op with
  | .indexAddr t (.tmp ss) ix => bif (match o.dst with | some d => Nat.testBit X.wr d | none => false) then some (iaddrTX (P := P) ro m t ss (evalX ro m ix) o.dst k) else none
  | .fieldAddr s x fi => (match isPtr ro m x with | some d0 => some (faddrTX (P := P) ro m s d0 fi o.dst k) | none => none)
  | .load t x => (match isPtr ro m x with | some d0 => some (loadTX (P := P) ro m t d0 o.dst k) | none => none)
  | .store t x y => (match isPtr ro m x with | some d0 => some (storeTX (P := P) ro m t d0 (evalX ro m y) o.dst k) | none => none)
  | .call { callee := .value fo, args, .. } => (match evalX ro m fo with
    | .fn (.func f) first cap => (match findOwn X.owned f with
      | some Q => some (ownX ro m Q (first ++ args.toList.map (evalX ro m) ++ cap) o.dst k)
      | none => (match first, findMut X.muts f with
      | [], some Q => some (mutX ro m Q args.toList cap o.dst k)
      | _, _ => (match first, cap, args.toList with
        | [], [], [.tmp ss] => (match findSort X.sorts f none with | some Q => some (sortX ro m Q ss o.dst k) | none => none)
        | [], [], [.tmp ss, y] => (match evalX ro m y with
          | .fn (.func g) [] [] => (match findSort X.sorts f (some g) with | some Q => some (sortX ro m Q ss o.dst k) | none => none)
          | _ => none)
        | _, _, _ => none)))
    | _ => none)
  | .slice t (.tmp ss) none (some y) none => bif (match o.dst with | some d => Nat.testBit X.wr d | none => false) then some (cutX (P := P) ro m t ss (evalX ro m y) o.dst k) else none
  | .call { callee := .builtin .append, args, argTypes } => bif (match o.dst with | some d => Nat.testBit X.wr d | none => false) then (match args.toList, argTypes.toList with
    | [.tmp ss, x], [t, u] => some (appOneX (P := P) ro m ss (evalX ro m x) t u o.dst k)
    | _, _ => none) else none
  | .convert s t (.tmp ss) => markX (P := P) ro m s t ss o.dst k
  | .makeSlice t l c => some (makeTX X ro m t (evalX ro m l) (evalX ro m c) o.dst k)
  | .binOp op t x (.const (.slice none 0 0)) _ => eqnilX (P := P) ro m op t (evalX ro m x) o.dst k
  | .call { callee := .builtin .delete, args, argTypes } => (match args.toList, argTypes.toList with
    | [mx, x], [t, _] => some (mapDelX X ro m t (evalX ro m mx) (evalX ro m x) o.dst k)
    | _, _ => none)
  | .call { callee := .builtin .len, args, argTypes } => (match args.toList, argTypes.toList with
    | [mx], [t] => (match evalX ro m mx with
      | .mref i => some (mapLenX (P := P) ro m t i o.dst k)
      | _ => none)
    | _, _ => none)
  | _ => none
noncomputable def mkMapX (m : Mm) (t : TypeId) (dst : Option Nat) (k : Mm → Option β) : Option β :=
  match mapT P t with
  | some (kt, et) => (match X.code kt, X.code et with
    | some kc, some vc => newBoxX ro m (.map t kc vc []) dst (.mref m.bx.length) k
    | _, _ => none)
  | none => none
noncomputable def lookupX (m : Mm) (t : TypeId) (mx x : S) (ok : Bool) (K : S → Option β) : Option β :=
  match mx, mapT P t with
  | .mref i, some (kt, et) => (match getB ro m i with
    | some (.map _ kc vc l) => (match ckC kc, dq kc, keyT P kt, zeroX P et with
      | some (ag, ks), some d, some (ag', ks'), some zv => (match unrefl kc x, unrefl vc zv with
        | some k, some z => bif X.key kt && (ag == ag') && ksEq ks ks' then
            (@mget _ _ d (kinC kc) l k).bind fun o => K (bif ok then .tup [refl vc (o.getD z), .bool o.isSome] else refl vc (o.getD z)) else none
        | _, _ => none)
      | _, _, _, _ => none)
    | _ => none)
  | _, _ => none
noncomputable def mapPutX (m : Mm) (t : TypeId) (mx x y : S) (dst : Option Nat) (k : Mm → Option β) : Option β :=
  match mx, mapT P t, dst with
  | .mref i, some (kt, _), none => (match getB ro m i with
    | some (.map mt kc vc l) => (match ckC kc, dq kc, keyT P kt with
      | some (ag, ks), some d, some (ag', ks') => (match unrefl kc x, unrefl vc y with
        | some kk, some v => bif X.key kt && (ag == ag') && ksEq ks ks' && ro.ownB i then
            (@mput _ _ d (kinC kc) l kk v).bind fun l' => k ⟨m.sl, m.bx.set i (some (.map mt kc vc l'))⟩ else none
        | _, _ => none)
      | _, _, _ => none)
    | _ => none)
  | _, _, _ => none
noncomputable def opX (dr : Bool) (o : Oper) (m : Mm) (k : Mm → Option β) : Option β :=
  match (bif dr then none else semX X ro o m k) with
  | some r => r
  | none =>
  match o.op with
  | .box e x => boxX ro m e (evalX ro m x) o.dst k
  | .alloc e => (match zeroX P e with | some v => boxX ro m e v o.dst k | none => none)
  | .store t x y => storeX X ro m t (evalX ro m x) (evalX ro m y) o.dst k
  | .call { callee := .builtin .append, args, argTypes } => (match args.toList, argTypes.toList with
    | [.tmp ss, x], [t, u] => appendX (P := P) ro m ss (evalX ro m x) t u o.dst k
    | _, _ => none)
  | .call { callee := .value f, args, .. } => (match evalX ro m f with
    | .fn (.func g) first cap => callX X ro dr m g (first ++ args.toList.map (evalX ro m) ++ cap) o.dst k
    | _ => none)
  | .makeMap t none => mkMapX X ro m t o.dst k
  | .mapUpdate t mx x y => mapPutX X ro m t (evalX ro m mx) (evalX ro m x) (evalX ro m y) o.dst k
  | .lookup t mx x ok => lookupX X ro m t (evalX ro m mx) (evalX ro m x) ok fun v => putV' ro m dr o v none k
  | _ => valX P X.code ro m o fun v tk => putV' ro m dr o v tk k
noncomputable def refineX (m : Mm) (x : Operand) (b : Bool) : Mm :=
  match x with
  | .tmp t => bif ro.own t then ⟨m.sl.set t (.bool b, (getS ro m t).2), m.bx⟩ else m
  | _ => m
noncomputable def gdX (ds : List (Option Nat)) (m : Mm) (g : Option (Nat × Bool)) (A B : Mm → Option β) : Option β :=
  match g with
  | none => A m
  | some (j, want) => (match ds[j]? with
    | some (some d) => (match (getS ro m d).1 with
      | .bool b => br b (bif want then A (refineX ro m (.tmp d) true) else B (refineX ro m (.tmp d) true)) (bif want then B (refineX ro m (.tmp d) false) else A (refineX ro m (.tmp d) false))
      | .un => B m
      | _ => none)
    | _ => B m)
def noGuard (o : Oper) : Bool := match o.guard with
  | none => true
  | some _ => false
structure EntQ where
  t : TypeId
  op : BinOp
  s : Nat
  r : Nat
  c : Int
  d2 : Nat
  d3 : Nat
  d4 : Nat
  d5 : Nat
def entPat (dr : Bool) (o2 : Oper) (os : List Oper) : Option EntQ :=
  match o2.op with
  | .lookup t (.tmp s) (.tmp r) false => (match os with
    | [o3, o4, o5, o6] => (match o4.op with
      | .mapEntry t' (.tmp s') (.tmp r') => (match o3.op with
        | .binOp op _ (.tmp a2) (.const (.int .i64 c)) _ => (match o5.op with
          | .extract (.tmp a4) i => (match o6.op with
            | .entryStore t'' (.tmp s'') (.tmp a5) (.tmp a3) => (match o2.dst, o3.dst, o4.dst, o5.dst, o6.dst with
              | some d2, some d3, some d4, some d5, none =>
                bif dr && (noGuard o2 && noGuard o3 && noGuard o4 && noGuard o5 && noGuard o6) && (Nat.beq t' t && Nat.beq t'' t && Nat.beq s' s && Nat.beq s'' s && Nat.beq r' r && Nat.beq a2 d2 && Nat.beq a3 d3 && Nat.beq a4 d4 && Nat.beq a5 d5 && Nat.beq i 1) &&
                  (!Nat.beq d2 d3 && !Nat.beq d2 d4 && !Nat.beq d2 d5 && !Nat.beq d3 d4 && !Nat.beq d3 d5 && !Nat.beq d4 d5) && (!Nat.beq s d2 && !Nat.beq s d3 && !Nat.beq s d4 && !Nat.beq s d5) && (!Nat.beq r d2 && !Nat.beq r d3 && !Nat.beq r d4 && !Nat.beq r d5) then
                  some ⟨t, op, s, r, c, d2, d3, d4, d5⟩ else none
              | _, _, _, _, _ => none)
            | _ => none)
          | _ => none)
        | _ => none)
      | _ => none)
    | _ => none)
  | _ => none
def arX (op : BinOp) (a b : Int) : Option Int := match op with
  | .add => addI .i64 a b
  | .sub => subI .i64 a b
  | _ => none
noncomputable def entX (m : Mm) (q : EntQ) (k : Mm → Option β) : Option β :=
  match evalX ro m (.tmp q.s), mapT P q.t with
  | .mref i, some (kt, et) => (match getB ro m i with
    | some (.map mt kc .i64 l) => (match ckC kc, dq kc, keyT P kt, zeroX P et with
      | some (ag, ks), some d, some (ag', ks'), some zv => (match unrefl kc (evalX ro m (.tmp q.r)), unrefl .i64 zv with
        | some kk, some z => bif X.key kt && (ag == ag') && ksEq ks ks' && ro.ownB i then
            (@mget _ _ d (kinC kc) l kk).bind fun o => (arX q.op (o.getD z) q.c).bind fun y => (@mput _ _ d (kinC kc) l kk y).bind fun l' =>
              putX ro ⟨m.sl, m.bx.set i (some (.map mt kc .i64 l'))⟩ (some q.d2) (.int .i64 (o.getD z)) none fun m => putX ro m (some q.d3) (.int .i64 y) none fun m => putX ro m (some q.d4) .any none fun m => putX ro m (some q.d5) .any none k else none
        | _, _ => none)
      | _, _, _, _ => none)
    | _ => none)
  | _, _ => none
noncomputable def opsX (dr : Bool) (ds : List (Option Nat)) : List Oper → Mm → (Mm → Option β) → Option β
  | [], m, k => k m
  | o :: os, m, k => match entPat dr o os with
    | some q => entX X ro m q k
    | none => gdX ro ds m o.guard (fun m => opX X ro dr o m fun m' => opsX dr ds os m' k) (fun m => putX ro m o.dst .un none fun m' => opsX dr ds os m' k)
noncomputable def takeX (o : Oper) (m : Mm) (k : Mm → Option β) : Option β :=
  match o.op with
  | .move x => putX ro m o.dst (evalX ro m x) (tokX ro m x) k
  | .binOp .add _ x y _ => (match evalX ro m x, evalX ro m y with
    | .int k1 a, .int k2 b => if k1 = k2 then (addI k1 a b).bind fun n => putX ro m o.dst (.int k1 n) none k else none
    | _, _ => none)
  | .binOp .sub _ x y _ => (match evalX ro m x, evalX ro m y with
    | .int k1 a, .int k2 b => if k1 = k2 then (subI k1 a b).bind fun n => putX ro m o.dst (.int k1 n) none k else none
    | _, _ => none)
  | .indexAddr t x i => (match evalX ro m x, evalX ro m i with
    | .lst c l, .int _ i => (match elemC P t c with
      | some _ => (idx l i).bind fun x => putX ro m o.dst (.elt (cellsS (refl c x)) 0) none k
      | none => none)
    | _, _ => none)
  | .slice t x lo hi none => (match evalX ro m x with
    | .lst c l => sliceX P ro m t (.lst c l) lo hi none o.dst fun v tk => putX ro m o.dst v tk k
    | _ => none)
  | _ => none
noncomputable def pairX (o o' : Oper) (m : Mm) (k : Mm → Option β) : Option β :=
  match o.op, o'.op with
  | .load t x, .load t' x' => loadX P X.code ro m t (evalX ro m x) fun v => loadX P X.code ro m t' (evalX ro m x') fun u => putX ro m o.dst v none fun m => putX ro m o'.dst u none k
  | _, _ => none
noncomputable def tailX : List Oper → Mm → (Mm → Option β) → Option β
  | [], _, _ => none
  | o :: os, m, k => match os with
    | [] => none
    | [o3] => clr2X (P := P) ro o o3 m k
    | _ => (match o.guard with | none => opX X ro false o m fun m' => tailX os m' k | some _ => none)
noncomputable def allB {γ : Type} (f : Nat → Option γ) : List Nat → Option γ
  | [] => none
  | j :: l => match l with
    | [] => f j
    | _ => both (f j) (allB f l)
noncomputable def fullX (ops : Array Oper) (ds : List (Option Nat)) : Nat → Array Bool → Mm → (Mm → Option β) → Option β
  | 0, listed, m, k => (match Region.ready .any ops listed with | [] => k m | _ => none)
  | fuel + 1, listed, m, k => (match Region.ready .any ops listed with
    | [] => k m
    | i :: is => (match (i :: is).find? (canTake ops listed) with
      | some j => (match ops[j]? with
        | some o => takeX (P := P) ro o m fun m' => fullX ops ds fuel (listed.setIfInBounds j true) m' k
        | none => none)
      | none => allB (fun j => match ops[j]? with
        | some o => gdX ro ds m o.guard (fun m => opX X ro false o m fun m' => fullX ops ds fuel (listed.setIfInBounds j true) m' k) (fun m => putX ro m o.dst .un none fun m' => fullX ops ds fuel (listed.setIfInBounds j true) m' k)
        | none => none) (i :: is)))
noncomputable def schX (ops : Array Oper) (ds : List (Option Nat)) : List (Nat × Nat) → Mm → (Mm → Option β) → Option β
  | [], m, k => k m
  | (i, t) :: l, m, k => match ops[i]? with
    | none => none
    | some o => match t with
      | 1 => takeX (P := P) ro o m fun m' => schX ops ds l m' k
      | j + 2 => (match ops[j]? with
        | some o' => pairX X ro o o' m fun m' => schX ops ds l m' k
        | none => none)
      | 0 => gdX ro ds m o.guard (fun m => opX X ro false o m fun m' => schX ops ds l m' k) (fun m => putX ro m o.dst .un none fun m' => schX ops ds l m' k)
end
inductive Step (σ ρ : Type) where
  | next (s : σ)
  | done (r : ρ)
def iterN {σ ρ : Type} (F : σ → Option (Step σ ρ)) : Nat → σ → Option ρ
  | 0, _ => none
  | n + 1, s => match F s with
    | some (.next s') => iterN F n s'
    | some (.done r) => some r
    | none => none
open Classical in
noncomputable def iter {σ ρ : Type} (F : σ → Option (Step σ ρ)) (s : σ) : Option ρ :=
  if h : ∃ r n, iterN F n s = some r then some h.choose else none
inductive LV where
  | slot (s : Nat) (c : C) (tk : Tk)
  | box (i : Nat) (c : C)
  | mapb (i : Nat) (kc vc : C)
@[reducible] def LV.ty : LV → Type
  | .slot _ c _ => den c
  | .box _ c => den c
  | .mapb _ kc vc => List (den kc × den vc)
@[reducible] def tupT : List LV → Type
  | [] => Unit
  | [v] => v.ty
  | v :: w :: vs => v.ty × tupT (w :: vs)
def tkEq : Tk → Tk → Bool
  | none, _ => true
  | some (t, e), some (t', e') => Nat.beq t t' && Nat.beq e e'
  | some _, none => false
def boxTy (B : Option SBox) : TypeId := match B with
  | some (.cells _ ty) => ty
  | some (.map mt _ _ _) => mt
  | none => 0
noncomputable def readLV (old : Nat → Option SBox) (ro : RO) (m : Mm) : (v : LV) → Option v.ty
  | .slot s c tk => bif tkEq tk (getS ro m s).2 then unrefl c (getS ro m s).1 else none
  | .box i c => (match getB ro m i with
    | some (.cells cs ty) => bif Nat.beq ty (boxTy (old i)) then (match unrefl c (.agg cs) with
      | some y => some y
      | none => (match cs with
        | [.agg _] => none
        | [x] => unrefl c x
        | _ => none)) else none
    | _ => none)
  | .mapb i kc vc => (match getB ro m i with | some (.map mt kc' vc' l) => bif Nat.beq mt (boxTy (old i)) then (if h : kc' = kc ∧ vc' = vc then some (h.1 ▸ h.2 ▸ l) else none) else none | _ => none)
noncomputable def readL (old : Nat → Option SBox) (ro : RO) (m : Mm) : (L : List LV) → Option (tupT L)
  | [] => some ()
  | [v] => readLV old ro m v
  | v :: w :: vs => match readLV old ro m v, readL old ro m (w :: vs) with
    | some x, some y => some (x, y)
    | _, _ => none
noncomputable def writeLV (old : Nat → Option SBox) (m : Mm) : (v : LV) → v.ty → Mm
  | .slot s c tk, x => ⟨m.sl.set s (refl c x, tk), m.bx⟩
  | .box i c, x => ⟨m.sl, m.bx.set i (some (.cells (cellsS (refl c x)) (boxTy (old i))))⟩
  | .mapb i kc vc, x => ⟨m.sl, m.bx.set i (some (.map (boxTy (old i)) kc vc x))⟩
noncomputable def writeL (old : Nat → Option SBox) (m : Mm) : (L : List LV) → tupT L → Mm
  | [], _ => m
  | [v], x => writeLV old m v x
  | v :: w :: vs, x => writeL old (writeLV old m v x.1) (w :: vs) x.2
inductive EX where
  | exit (id : Nat) | ret
  deriving DecidableEq
def EX.of : Exit → Option EX
  | .exit id => some (.exit id)
  | .ret => some .ret
  | _ => none
def EX.to : EX → Exit
  | .exit id => .exit id
  | .ret => .ret
def EX.beq : EX → EX → Bool
  | .exit i, .exit j => Nat.beq i j
  | .ret, .ret => true
  | _, _ => false
@[reducible] def outT : List (EX × List LV) → Type
  | [] => Empty
  | [e] => tupT e.2
  | e :: f :: es => tupT e.2 ⊕ outT (f :: es)
noncomputable def readOut (old : Nat → Option SBox) (ro : RO) (m : Mm) (ex : EX) : (es : List (EX × List LV)) → Option (outT es)
  | [] => none
  | [e] => bif e.1.beq ex then readL old ro m e.2 else none
  | e :: f :: es => bif e.1.beq ex then (match readL old ro m e.2 with | some x => some (.inl x) | none => none) else (match readOut old ro m ex (f :: es) with | some x => some (.inr x) | none => none)
noncomputable def writeOut {β : Type} (old : Nat → Option SBox) (m : Mm) (k : Exit → Mm → Option β) : (es : List (EX × List LV)) → outT es → Option β
  | [], x => none
  | [e], x => k e.1.to (writeL old m e.2 x)
  | e :: f :: es, x => Sum.elim (fun y => k e.1.to (writeL old m e.2 y)) (fun y => writeOut old m k (f :: es) y) x
inductive Ann where
  | no
  | sch
  | full
  | two (a b : Ann)
  | loop (ds bs : List Nat) (L : List LV) (es : List (EX × List LV)) (a : Ann)
  | old (a : Ann)
def Ann.isOld : Ann → Bool
  | .old _ => true
  | _ => false
def Ann.un : Ann → Ann
  | .old a => a
  | a => a
noncomputable def ageX (m : Mm) : Mm := ⟨m.sl.mapV (fun x => (x.1, some (2000000, 0))), m.bx⟩
noncomputable def looseX (m : Mm) : Mm := ⟨m.sl.mapV (fun x => (x.1, none)), m.bx⟩
def Ann.l : Ann → Ann
  | .two a _ => a
  | a => .no
def Ann.r : Ann → Ann
  | .two _ b => b
  | a => .no
def Ann.isSch : Ann → Bool
  | .sch => true
  | _ => false
def Ann.isFull : Ann → Bool
  | .full => true
  | _ => false
def maskOf (l : List Nat) : Nat := l.foldl (fun a s => a ||| (1 <<< s)) 0
def hasBox : List LV → Nat → Bool
  | [], _ => false
  | .slot _ _ _ :: L, i => hasBox L i
  | .box j _ :: L, i => Nat.beq j i || hasBox L i
  | .mapb j _ _ :: L, i => Nat.beq j i || hasBox L i
def boxesOf : List LV → List Nat
  | [] => []
  | .slot _ _ _ :: L => boxesOf L
  | .box j _ :: L => j :: boxesOf L
  | .mapb j _ _ :: L => j :: boxesOf L
noncomputable def wipe (sl : T (S × Tk)) : List Nat → T (S × Tk)
  | [] => sl
  | s :: ss => wipe (sl.set s (.any, none)) ss
def unTok (mu : Bool) (x : S × Tk) : S × Tk :=
  match x.2 with
  | some (t, e) => bif Nat.beq (tcl t) 2 then x else bif !mu || flatS x.1 then (x.1, none) else (.any, none)
  | none => bif !mu || flatS x.1 then x else (.any, none)
noncomputable def inner (mu : Bool) (ro : RO) (m : Mm) (ds bs : List Nat) : RO :=
  { all := false, mask := maskOf ds, sl := fun s => unTok mu (getS ro m s), nb := m.bx.length, bmask := maskOf bs, bx := fun i => getB ro m i,
    fl := mu && (List.range m.bx.length).all (fun i => match getB ro m i with | some B => flatB B | none => true) }
def inD (ds : List (Option Nat)) (t : Nat) : Bool := ds.any (fun d => match d with | some d => Nat.beq d (t % 1000000) | none => false)
def clrD (ds : List (Option Nat)) (x : S × Tk) : S × Tk := match x.2 with
  | some (t, _) => bif Nat.blt (tcl t) 2 && inD ds t then (x.1, none) else x
  | none => x
noncomputable def codeX {P : Program} (X : XCtx P) : Code → Ann → RO → Mm → {β : Type} → (Exit → Mm → Option β) → Option β
  | .skip, _, _, m, _, k => k .normal m
  | .label _, _, _, m, _, k => k .normal m
  | .region _ ops dr, a, ro, m, _, k => bif dr && a.isFull then fullX X ro ops (ops.toList.map (·.dst)) ops.size (Array.replicate ops.size false) m (k .normal) else bif dr && a.isSch then (match schedR ops with
    | some l => schX X ro ops (ops.toList.map (·.dst)) l m (k .normal)
    | none => none) else bif a.isSch then tailX X ro ops.toList m (k .normal) else opsX X ro dr (ops.toList.map (·.dst)) ops.toList (bif dr then ⟨m.sl.mapV (clrD ((ops.toList.filter newOp).map (·.dst))), m.bx⟩ else m) (k .normal)
  | .seq x y, a, ro, m, _, k => codeX X x a.l ro m fun ex m' => match ex with
    | .normal => bif a.r.isOld && ro.all then codeX X y a.r.un ro (ageX m') (fun ex2 m2 => k ex2 (looseX m2)) else codeX X y a.r.un ro m' k
    | e => k e m'
  | .cond c x y, a, ro, m, _, k => (match evalX ro m c with
    | .bool b => br b (codeX X x a.l ro (refineX ro m c true) k) (codeX X y a.r ro (refineX ro m c false) k)
    | _ => none)
  | .block id x, a, ro, m, _, k => codeX X x a ro m fun ex m' => match ex with
    | .exit id' => bif Nat.beq id' id then k .normal m' else k (.exit id') m'
    | e => k e m'
  | .exit id, _, _, m, _, k => k (.exit id) m
  | .ret, _, _, m, _, k => k .ret m
  | .loop x, .loop ds bs L es a, ro, m, _, k =>
    bif ds.all ro.own && bs.all ro.ownB && bs.all (fun i => Nat.blt i m.bx.length) && bs.all (hasBox L) && es.all (fun e => bs.all (hasBox e.2)) && Nat.ble ro.nb m.bx.length && (boxesOf L).all (fun i => bs.any (Nat.beq i)) && es.all (fun e => (boxesOf e.2).all (fun i => bs.any (Nat.beq i))) then
      (match readL (getB ro m) ro m L with
      | some v => (iter (σ := tupT L) (ρ := outT es) (fun v => codeX X x a (inner (!Nat.beq X.wr 0) ro m ds bs) (writeL (getB ro m) ⟨.nil, List.replicate m.bx.length none⟩ L v) fun ex m' => match ex with
          | .normal => (match readL (getB ro m) (inner (!Nat.beq X.wr 0) ro m ds bs) m' L with | some w => some (.next w) | none => none)
          | ex => (match EX.of ex with
            | some ex => (match readOut (getB ro m) (inner (!Nat.beq X.wr 0) ro m ds bs) m' ex es with | some w => some (.done w) | none => none)
            | none => none)) v).bind fun w =>
            writeOut (getB ro m) ⟨wipe (m.sl.mapV (unTok (!Nat.beq X.wr 0))) ds, m.bx⟩ k es w
      | none => none)
    else none
  | _, _, _, _, _, _ => none
def roTop : RO := { all := true, mask := 0, sl := fun _ => (.any, none), nb := 0, bmask := 0, bx := fun _ => none, fl := true }
noncomputable def initSl : Nat → List S → T (S × Tk)
  | _, [] => .nil
  | n, s :: ss => (initSl (n + 1) ss).set n (s, some (2000000, 0))
noncomputable def resX {P : Program} (m : Mm) : List ResultVar → Option (List S)
  | [] => some []
  | r :: rs => match (match r with
      | .tmp t => some (getS roTop m t).1
      | .cell a t => (match (getS roTop m a).1 with
        | .loc i off => (match getB roTop m i, aggT P t with
          | some (.cells cs ty), some true => (match sizeT P t with | some n => bif Nat.blt ty 1000000000 && Nat.ble (off + n) cs.length then some (.agg ((cs.drop off).take n)) else none | none => none)
          | some (.cells cs ty), some false => bif Nat.blt ty 1000000000 then cs[off]? else none
          | _, _ => none)
        | _ => none)), resX (P := P) m rs with
    | some v, some vs => some (v :: vs)
    | _, _ => none
noncomputable def outsX (m : Mm) : Nat → Nat → Option (List SBox)
  | _, 0 => some []
  | i, n + 1 => match getB roTop m i, outsX m (i + 1) n with
    | some B, some bs => bif noLocB B then some (B :: bs) else none
    | _, _ => none
noncomputable def bodyX {P : Program} (X : XCtx P) (rs : List ResultVar) (c : Code) (a : Ann) (args : List S) (ins : List SBox) {β : Type} (K : S → List SBox → Option β) : Option β :=
  codeX X c a roTop ⟨initSl 0 args, ins.map some⟩ fun ex m => match (match ex with | .ret | .normal => true | _ => false), resX (P := P) m rs, outsX m 0 ins.length with
    | true, some [v], some outs => bif noLocS v then K v outs else none
    | true, some vs, some outs => bif noLocSL vs then K (.tup vs) outs else none
    | _, _, _ => none
noncomputable def bodyO {P : Program} (X : XCtx P) (rs : List ResultVar) (c : Code) (a : Ann) (args : List S) (cc : C) (e : TypeId) : Option (List (den cc)) :=
  codeX X c a roTop ⟨initSl 0 args, []⟩ fun ex m => match (match ex with | .ret | .normal => true | _ => false), rs with
    | true, [.tmp s] => (match getS roTop m s with
      | (.lst c' l, some (t, e')) => bif Nat.beq (tcl t) 0 && Nat.beq e' e then (if h : c' = cc then some (h ▸ l : List (den cc)) else none) else none
      | (.rows [], some (t, e')) => bif Nat.beq (tcl t) 0 && Nat.beq e' e then some [] else none
      | _ => none)
    | _, _ => none
noncomputable def bodyM {P : Program} (X : XCtx P) (rs : List ResultVar) (c : Code) (a : Ann) (args : List S) (ins : List SBox) (p : Nat) (cc : C) (e : TypeId) {β : Type} (K : List (den cc) → List SBox → Option β) : Option β :=
  codeX X c a roTop ⟨(initSl 0 args).set p ((args[p]?).getD .any, some (p, e)), ins.map some⟩ fun ex m => match (match ex with | .ret | .normal => true | _ => false), rs, outsX m 0 ins.length with
    | true, [.tmp s], some outs => (match getS roTop m s with
      | (.lst c' l, some (t, e')) => bif Nat.beq (tcl t) 0 && Nat.beq e' e then (if h : c' = cc then K (h ▸ l : List (den cc)) outs else none) else none
      | (.rows [], some (t, e')) => bif Nat.beq (tcl t) 0 && Nat.beq e' e then K [] outs else none
      | _ => none)
    | _, _, _ => none
end Go.X
