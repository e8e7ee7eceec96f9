import Derived.Test.YtjcbpfhlgebgdaaGreatDoorE16
import Derived.KernelRfl
open Bool renaming and_eq_true -> zvI
open Nat renaming le_of_ble_eq_true -> zvK
open Option.some renaming injEq -> zvL
set_option linter.unusedSimpArgs false
set_option linter.unusedVariables false
namespace Go.X
open Go.Eng
open Go.RowKit
structure ID where
 Node:Int
 Seq:Int
 Off:Int
 deriving DecidableEq,Inhabited,Repr
structure Outc where
 Tick:Int
 Node:Int
 Kind:Int
 ID:ID
 Other:Int
 deriving DecidableEq,Inhabited,Repr
structure Word where
 At:Int
 Key:List UInt8
 Text:List UInt8
 deriving DecidableEq,Inhabited,Repr
structure Row where
 At:Int
 Words:List (Word)
 deriving DecidableEq,Inhabited,Repr
structure Fault where
 Err:Int
 At:Int
 deriving DecidableEq,Inhabited,Repr
structure W3 where
 a:Int
 b:Int
 c:Int
 deriving DecidableEq,Inhabited,Repr
structure Pair where
 a:Int
 b:Int
 deriving DecidableEq,Inhabited,Repr
structure Face where
 word:List UInt8
 uses:Int
 deriving DecidableEq,Inhabited,Repr
structure Scanner where
 s:List UInt8
 pos:Int
 deriving DecidableEq,Inhabited,Repr
inductive IV where
 | int (t:Nat) (n:Int)
 | id (t:Nat) (x:ID)
 deriving DecidableEq,Inhabited,Repr
inductive C where
 | i64 | u64 | i32 | u32 | u8 | i16 | u16 | i8 | bool | str | iv | ID | Outc | Word | Row | Fault | W3 | Pair | Face | Scanner | l_W3 | l_Outc | l_Word | l_Row | l_Face | l_u8 | l_i64 | l_str | l_iv
 deriving DecidableEq
@[reducible] def den:C->Type
 | .i64=>Int
 | .u64=>Int
 | .i32=>Int
 | .u32=>Int
 | .u8=>Int
 | .i16=>Int
 | .u16=>Int
 | .i8=>Int
 | .bool=>Bool
 | .str=>List UInt8
 | .iv=>IV
 | .ID=>ID
 | .Outc=>Outc
 | .Word=>Word
 | .Row=>Row
 | .Fault=>Fault
 | .W3=>W3
 | .Pair=>Pair
 | .Face=>Face
 | .Scanner=>Scanner
 | .l_W3=>List (W3)
 | .l_Outc=>List (Outc)
 | .l_Word=>List (Word)
 | .l_Row=>List (Row)
 | .l_Face=>List (Face)
 | .l_u8=>List (Int)
 | .l_i64=>List (Int)
 | .l_str=>List (List UInt8)
 | .l_iv=>List (IV)
def zjJ:Int->V:=fun x=>.int .i64 x
def zoT:Int->V:=fun x=>.int .u64 x
def zoU:Int->V:=fun x=>.int .i32 x
def zoV:Int->V:=fun x=>.int .u32 x
def zgZ:Int->V:=fun x=>.int .u8 x
def zoW:Int->V:=fun x=>.int .i16 x
def zoX:Int->V:=fun x=>.int .u16 x
def zrz:Int->V:=fun x=>.int .i8 x
def zlM:Bool->V:=fun x=>.bool x
def zbe:List UInt8->V:=fun x=>.str x
def zah:IV->V
 | .int t n=>.iface t (.int .i64 n)
 | .id t x=>.iface t (.agg [.int .i64 x.Node,.int .u64 x.Seq,.int .i64 x.Off])
def zet:ID->V:=fun x=>.agg [.int .i64 x.Node,.int .u64 x.Seq,.int .i64 x.Off]
def Y4:Outc->V:=fun x=>.agg [.int .i64 x.Tick,.int .i64 x.Node,.int .i64 x.Kind,.int .i64 x.ID.Node,.int .u64 x.ID.Seq,.int .i64 x.ID.Off,.int .i64 x.Other]
def Y5:Word->V:=fun x=>.agg [.int .i64 x.At,.str x.Key,.str x.Text]
def zeu:Fault->V:=fun x=>.agg [.int .i64 x.Err,.int .i64 x.At]
def zjK:W3->V:=fun x=>.agg [.int .i64 x.a,.int .i64 x.b,.int .i64 x.c]
def zaX:Pair->V:=fun x=>.agg [.int .i64 x.a,.int .i64 x.b]
def zdN:Face->V:=fun x=>.agg [.str x.word,.int .i64 x.uses]
def zb4:Scanner->V:=fun x=>.agg [.str x.s,.int .i64 x.pos]
def zg0:List (W3)->V:=fun x=>.list (x.map zjK)
def Z6:List (Outc)->V:=fun x=>.list (x.map Y4)
def zc1:List (Word)->V:=fun x=>.list (x.map Y5)
def zc2:List (Face)->V:=fun x=>.list (x.map zdN)
def zg1:List (Int)->V:=fun x=>.list (x.map zgZ)
def zev:List (Int)->V:=fun x=>.list (x.map zjJ)
def zew:List (List UInt8)->V:=fun x=>.list (x.map zbe)
def zg2:List (IV)->V:=fun x=>.list (x.map zah)
def QU:Row->V:=fun x=>.agg [.int .i64 x.At,.list (x.Words.map Y5)]
def zex:List (Row)->V:=fun x=>.list (x.map QU)
def zvD:C->Option (C × Nat)
 | _=>none
def dfl:∀ c:C,den c
 | .i64=>(0:Int)
 | .u64=>(0:Int)
 | .i32=>(0:Int)
 | .u32=>(0:Int)
 | .u8=>(0:Int)
 | .i16=>(0:Int)
 | .u16=>(0:Int)
 | .i8=>(0:Int)
 | .bool=>(false:Bool)
 | .str=>([]:List UInt8)
 | .iv=>(.int 0 0:IV)
 | .ID=>(⟨0,0,0⟩:ID)
 | .Outc=>(⟨0,0,0,⟨0,0,0⟩,0⟩:Outc)
 | .Word=>(⟨0,[],[]⟩:Word)
 | .Row=>(⟨0,[]⟩:Row)
 | .Fault=>(⟨0,0⟩:Fault)
 | .W3=>(⟨0,0,0⟩:W3)
 | .Pair=>(⟨0,0⟩:Pair)
 | .Face=>(⟨[],0⟩:Face)
 | .Scanner=>(⟨[],0⟩:Scanner)
 | .l_W3=>([]:List (W3))
 | .l_Outc=>([]:List (Outc))
 | .l_Word=>([]:List (Word))
 | .l_Row=>([]:List (Row))
 | .l_Face=>([]:List (Face))
 | .l_u8=>([]:List (Int))
 | .l_i64=>([]:List (Int))
 | .l_str=>([]:List (List UInt8))
 | .l_iv=>([]:List (IV))
def enc:∀ c:C,den c->V
 | .i64=>zjJ
 | .u64=>zoT
 | .i32=>zoU
 | .u32=>zoV
 | .u8=>zgZ
 | .i16=>zoW
 | .u16=>zoX
 | .i8=>zrz
 | .bool=>zlM
 | .str=>zbe
 | .iv=>zah
 | .ID=>zet
 | .Outc=>Y4
 | .Word=>Y5
 | .Row=>QU
 | .Fault=>zeu
 | .W3=>zjK
 | .Pair=>zaX
 | .Face=>zdN
 | .Scanner=>zb4
 | .l_W3=>zg0
 | .l_Outc=>Z6
 | .l_Word=>zc1
 | .l_Row=>zex
 | .l_Face=>zc2
 | .l_u8=>zg1
 | .l_i64=>zev
 | .l_str=>zew
 | .l_iv=>zg2
def csz:C->Nat
 | .i64=>1
 | .u64=>1
 | .i32=>1
 | .u32=>1
 | .u8=>1
 | .i16=>1
 | .u16=>1
 | .i8=>1
 | .bool=>1
 | .str=>1
 | .iv=>1
 | .ID=>3
 | .Outc=>7
 | .Word=>3
 | .Row=>2
 | .Fault=>2
 | .W3=>3
 | .Pair=>2
 | .Face=>2
 | .Scanner=>2
 | .l_W3=>1
 | .l_Outc=>1
 | .l_Word=>1
 | .l_Row=>1
 | .l_Face=>1
 | .l_u8=>1
 | .l_i64=>1
 | .l_str=>1
 | .l_iv=>1
theorem yR {α:Type} {f:α->V} (h:∀ x,(f x).noLoc = true):∀ l:List α,V.noLocL (l.map f) = true
 | []=>rfl
 | x :: l=>by simp [V.noLocL,h x,yR h l]
theorem ziG:∀ (c:C) (x:den c),(enc c x).csize = some (csz c):=by
 intro c x; cases c <;> first | rfl | (cases x <;> rfl)
theorem zdO (x:IV):(zah x).noLoc = true:=by cases x <;> rfl
theorem ziH (x:Int):(zjJ x).noLoc = true:=rfl
theorem zpN (x:Int):(zoT x).noLoc = true:=rfl
theorem zpO (x:Int):(zoU x).noLoc = true:=rfl
theorem zpP (x:Int):(zoV x).noLoc = true:=rfl
theorem zlN (x:Int):(zgZ x).noLoc = true:=rfl
theorem zpQ (x:Int):(zoW x).noLoc = true:=rfl
theorem zpR (x:Int):(zoX x).noLoc = true:=rfl
theorem zrA (x:Int):(zrz x).noLoc = true:=rfl
theorem znk (x:Bool):(zlM x).noLoc = true:=rfl
theorem ziI (x:List UInt8):(zbe x).noLoc = true:=rfl
theorem zrB (x:ID):(zet x).noLoc = true:=rfl
theorem zg3 (x:Outc):(Y4 x).noLoc = true:=rfl
theorem zc3 (x:Word):(Y5 x).noLoc = true:=rfl
theorem zlO (x:Fault):(zeu x).noLoc = true:=rfl
theorem zlP (x:W3):(zjK x).noLoc = true:=rfl
theorem znl (x:Pair):(zaX x).noLoc = true:=rfl
theorem zg4 (x:Face):(zdN x).noLoc = true:=rfl
theorem zhT (x:Scanner):(zb4 x).noLoc = true:=rfl
theorem znm (x:List (W3)):(zg0 x).noLoc = true:=by simp only [zg0,V.noLoc]; exact yR zlP x
theorem zjL (x:List (Outc)):(Z6 x).noLoc = true:=by simp only [Z6,V.noLoc]; exact yR zg3 x
theorem zjM (x:List (Word)):(zc1 x).noLoc = true:=by simp only [zc1,V.noLoc]; exact yR zc3 x
theorem zjN (x:List (Face)):(zc2 x).noLoc = true:=by simp only [zc2,V.noLoc]; exact yR zg4 x
theorem znn (x:List (Int)):(zg1 x).noLoc = true:=by simp only [zg1,V.noLoc]; exact yR zlN x
theorem zlQ (x:List (Int)):(zev x).noLoc = true:=by simp only [zev,V.noLoc]; exact yR ziH x
theorem zlR (x:List (List UInt8)):(zew x).noLoc = true:=by simp only [zew,V.noLoc]; exact yR ziI x
theorem zno (x:List (IV)):(zg2 x).noLoc = true:=by simp only [zg2,V.noLoc]; exact yR zdO x
theorem ziJ (x:Row):(QU x).noLoc = true:=by simp [QU,V.noLoc,V.noLocL,yR zc3]
theorem zlS (x:List (Row)):(zex x).noLoc = true:=by simp only [zex,V.noLoc]; exact yR ziJ x
theorem YP:∀ (c:C) (x:den c),(enc c x).noLoc = true
 | .i64,x=>ziH x
 | .u64,x=>zpN x
 | .i32,x=>zpO x
 | .u32,x=>zpP x
 | .u8,x=>zlN x
 | .i16,x=>zpQ x
 | .u16,x=>zpR x
 | .i8,x=>zrA x
 | .bool,x=>znk x
 | .str,x=>ziI x
 | .iv,x=>zdO x
 | .ID,x=>zrB x
 | .Outc,x=>zg3 x
 | .Word,x=>zc3 x
 | .Row,x=>ziJ x
 | .Fault,x=>zlO x
 | .W3,x=>zlP x
 | .Pair,x=>znl x
 | .Face,x=>zg4 x
 | .Scanner,x=>zhT x
 | .l_W3,x=>znm x
 | .l_Outc,x=>zjL x
 | .l_Word,x=>zjM x
 | .l_Row,x=>zlS x
 | .l_Face,x=>zjN x
 | .l_u8,x=>znn x
 | .l_i64,x=>zlQ x
 | .l_str,x=>zlR x
 | .l_iv,x=>zno x
inductive S:Type where
 | any | un
 | int (k:IntKind) (n:Int)
 | bool (b:Bool)
 | str (s:List UInt8)
 | agg (cs:List S)
 | tup (vs:List S)
 | loc (i off:Nat)
 | loco (i off n:Nat) (ix:Int)
 | elt (cs:List S) (off:Nat)
 | gel (g off:Nat)
 | nilp
 | lst (c:C) (l:List (den c))
 | rows (vs:List S)
 | fn (f:Go.Fn) (first cap:List S)
 | nilfn
 | iface (t:TypeId) (v:S)
 | nilif
 | mref (i:Nat)
 | nilm
 | ptr (i:Int) (sz f:Nat)
 | ivd (x:IV)
 deriving Inhabited
def asInt (k:IntKind):S->Option Int
 | .int k' n=>if k' = k then some n else none
 | _=>none
def asBool:S->Option Bool
 | .bool b=>some b
 | _=>none
def ze8:S->Option (List UInt8)
 | .str b=>some b
 | _=>none
def zus:S->Option IV
 | .ivd x=>some x
 | .iface t (.int .i64 n)=>some (.int t n)
 | .iface t (.agg [.int .i64 a,.int .u64 b,.int .i64 c])=>some (.id t ⟨a,b,c⟩)
 | _=>none
def zbw (c:C):S->Option (List (den c))
 | .lst c' l=>if h:c' = c then some (h ▸ l) else none
 | .rows []=>some []
 | _=>none
def zb5:Int->S:=fun x=>.int .i64 x
def zg5:Int->S:=fun x=>.int .u64 x
def zlT:Int->S:=fun x=>.int .i32 x
def zlU:Int->S:=fun x=>.int .u32 x
def zjO:Int->S:=fun x=>.int .u8 x
def zlV:Int->S:=fun x=>.int .i16 x
def zlW:Int->S:=fun x=>.int .u16 x
def zoY:Int->S:=fun x=>.int .i8 x
def ziK:Bool->S:=fun x=>.bool x
def Y6:List UInt8->S:=fun x=>.str x
def zoZ:IV->S:=fun x=>.ivd x
def zo0:ID->S:=fun x=>.agg [.int .i64 x.Node,.int .u64 x.Seq,.int .i64 x.Off]
def ziL:Outc->S:=fun x=>.agg [.int .i64 x.Tick,.int .i64 x.Node,.int .i64 x.Kind,.int .i64 x.ID.Node,.int .u64 x.ID.Seq,.int .i64 x.ID.Off,.int .i64 x.Other]
def ziM:Word->S:=fun x=>.agg [.int .i64 x.At,.str x.Key,.str x.Text]
def zlX:Row->S:=fun x=>.agg [.int .i64 x.At,.lst .Word x.Words]
def zg6:Fault->S:=fun x=>.agg [.int .i64 x.Err,.int .i64 x.At]
def zo1:W3->S:=fun x=>.agg [.int .i64 x.a,.int .i64 x.b,.int .i64 x.c]
def ziN:Pair->S:=fun x=>.agg [.int .i64 x.a,.int .i64 x.b]
def ziO:Face->S:=fun x=>.agg [.str x.word,.int .i64 x.uses]
def zdP:Scanner->S:=fun x=>.agg [.str x.s,.int .i64 x.pos]
def ziP:List (W3)->S:=fun x=>.lst .W3 x
def ze9:List (Outc)->S:=fun x=>.lst .Outc x
def zfa:List (Word)->S:=fun x=>.lst .Word x
def zg7:List (Row)->S:=fun x=>.lst .Row x
def zfb:List (Face)->S:=fun x=>.lst .Face x
def ziQ:List (Int)->S:=fun x=>.lst .u8 x
def zg8:List (Int)->S:=fun x=>.lst .i64 x
def zg9:List (List UInt8)->S:=fun x=>.lst .str x
def ziR:List (IV)->S:=fun x=>.lst .iv x
def refl:∀ c:C,den c->S
 | .i64=>zb5
 | .u64=>zg5
 | .i32=>zlT
 | .u32=>zlU
 | .u8=>zjO
 | .i16=>zlV
 | .u16=>zlW
 | .i8=>zoY
 | .bool=>ziK
 | .str=>Y6
 | .iv=>zoZ
 | .ID=>zo0
 | .Outc=>ziL
 | .Word=>ziM
 | .Row=>zlX
 | .Fault=>zg6
 | .W3=>zo1
 | .Pair=>ziN
 | .Face=>ziO
 | .Scanner=>zdP
 | .l_W3=>ziP
 | .l_Outc=>ze9
 | .l_Word=>zfa
 | .l_Row=>zg7
 | .l_Face=>zfb
 | .l_u8=>ziQ
 | .l_i64=>zg8
 | .l_str=>zg9
 | .l_iv=>ziR
def zrC:S->Option (ID)
 | .agg [p0,p1,p2]=>(asInt .i64 p0).bind fun q0=>(asInt .u64 p1).bind fun q1=>(asInt .i64 p2).bind fun q2=>(some ⟨q0,q1,q2⟩)
 | _=>none
def zjP:S->Option (Outc)
 | .agg [p0,p1,p2,p3,p4,p5,p6]=>(asInt .i64 p0).bind fun q0=>(asInt .i64 p1).bind fun q1=>(asInt .i64 p2).bind fun q2=>(asInt .i64 p3).bind fun q3=>(asInt .u64 p4).bind fun q4=>(asInt .i64 p5).bind fun q5=>(asInt .i64 p6).bind fun q6=>(some ⟨q0,q1,q2,⟨q3,q4,q5⟩,q6⟩)
 | _=>none
def zjQ:S->Option (Word)
 | .agg [p0,p1,p2]=>(asInt .i64 p0).bind fun q0=>(ze8 p1).bind fun q1=>(ze8 p2).bind fun q2=>(some ⟨q0,q1,q2⟩)
 | _=>none
def znp:S->Option (Row)
 | .agg [p0,p1]=>(asInt .i64 p0).bind fun q0=>(zbw .Word p1).bind fun q1=>(some ⟨q0,q1⟩)
 | _=>none
def zha:S->Option (Fault)
 | .agg [p0,p1]=>(asInt .i64 p0).bind fun q0=>(asInt .i64 p1).bind fun q1=>(some ⟨q0,q1⟩)
 | _=>none
def zrD:S->Option (W3)
 | .agg [p0,p1,p2]=>(asInt .i64 p0).bind fun q0=>(asInt .i64 p1).bind fun q1=>(asInt .i64 p2).bind fun q2=>(some ⟨q0,q1,q2⟩)
 | _=>none
def zjR:S->Option (Pair)
 | .agg [p0,p1]=>(asInt .i64 p0).bind fun q0=>(asInt .i64 p1).bind fun q1=>(some ⟨q0,q1⟩)
 | _=>none
def zjS:S->Option (Face)
 | .agg [p0,p1]=>(ze8 p0).bind fun q0=>(asInt .i64 p1).bind fun q1=>(some ⟨q0,q1⟩)
 | _=>none
def zc4:S->Option (Scanner)
 | .agg [p0,p1]=>(ze8 p0).bind fun q0=>(asInt .i64 p1).bind fun q1=>(some ⟨q0,q1⟩)
 | _=>none
def qW:∀ c:C,S->Option (den c)
 | .i64=>fun s=>asInt .i64 s
 | .u64=>fun s=>asInt .u64 s
 | .i32=>fun s=>asInt .i32 s
 | .u32=>fun s=>asInt .u32 s
 | .u8=>fun s=>asInt .u8 s
 | .i16=>fun s=>asInt .i16 s
 | .u16=>fun s=>asInt .u16 s
 | .i8=>fun s=>asInt .i8 s
 | .bool=>fun s=>asBool s
 | .str=>fun s=>ze8 s
 | .iv=>fun s=>zus s
 | .ID=>zrC
 | .Outc=>zjP
 | .Word=>zjQ
 | .Row=>znp
 | .Fault=>zha
 | .W3=>zrD
 | .Pair=>zjR
 | .Face=>zjS
 | .Scanner=>zc4
 | .l_W3=>fun s=>zbw .W3 s
 | .l_Outc=>fun s=>zbw .Outc s
 | .l_Word=>fun s=>zbw .Word s
 | .l_Row=>fun s=>zbw .Row s
 | .l_Face=>fun s=>zbw .Face s
 | .l_u8=>fun s=>zbw .u8 s
 | .l_i64=>fun s=>zbw .i64 s
 | .l_str=>fun s=>zbw .str s
 | .l_iv=>fun s=>zbw .iv s
def Z7:C->Bool
 | .i64=>true
 | .u64=>true
 | .i32=>true
 | .u32=>true
 | .u8=>true
 | .i16=>true
 | .u16=>true
 | .i8=>true
 | .bool=>true
 | .str=>true
 | .iv=>false
 | .ID=>true
 | .Outc=>true
 | .Word=>true
 | .Row=>false
 | .Fault=>true
 | .W3=>true
 | .Pair=>true
 | .Face=>true
 | .Scanner=>true
 | .l_W3=>false
 | .l_Outc=>false
 | .l_Word=>false
 | .l_Row=>false
 | .l_Face=>false
 | .l_u8=>false
 | .l_i64=>false
 | .l_str=>false
 | .l_iv=>false
def dq:∀ c:C,Option (DecidableEq (den c))
 | .i64=>some (inferInstanceAs (DecidableEq (Int)))
 | .u64=>some (inferInstanceAs (DecidableEq (Int)))
 | .str=>some (inferInstanceAs (DecidableEq (List UInt8)))
 | .Pair=>some (inferInstanceAs (DecidableEq (Pair)))
 | .ID=>some (inferInstanceAs (DecidableEq (ID)))
 | .Outc=>some (inferInstanceAs (DecidableEq (Outc)))
 | _=>none
mutual
def toV:S->V
 | .any=>.any
 | .un=>.un
 | .int k n=>.int k n
 | .bool b=>.bool b
 | .str s=>.str s
 | .agg cs=>.agg (zj cs)
 | .tup cs=>.tup (zj cs)
 | .loc i off=>.loc i off
 | .loco i off _ ix=>.loc i (off + ix.toNat)
 | .elt cs off=>.elt (zj cs) off
 | .gel g off=>(match GL g with | some vs=>.elt (vs.map qO) off | none=>.any)
 | .nilp=>.nilp
 | .lst c l=>.list (l.map (enc c))
 | .rows vs=>.list (zj vs)
 | .fn f first cap=>.fn f (zj first) (zj cap)
 | .nilfn=>.nilfn
 | .iface t v=>.iface t (toV v)
 | .nilif=>.nilif
 | .mref i=>.mref i
 | .nilm=>.nilm
 | .ptr i sz f=>.ptr (i.toNat * sz + f)
 | .ivd x=>zah x
def zj:List S->List V
 | []=>[]
 | c :: cs=>toV c :: zj cs
end
theorem Z8:∀ cs:List S,zj cs = cs.map toV
 | []=>by simp [zj]
 | c :: cs=>by simp [zj,Z8 cs]
theorem znq {k:IntKind} {s:S} {n:Int} (h:asInt k s = some n):s = .int k n:=by
 cases s <;> simp only [asInt,reduceCtorEq] at h
 split at h
 ·rename_i e; subst e; cases h; rfl
 ·cases h
theorem zlY {s:S} {n:Bool} (h:asBool s = some n):s = .bool n:=by
 cases s <;> simp only [asBool,reduceCtorEq] at h
 cases h; rfl
theorem znr {s:S} {n:List UInt8} (h:ze8 s = some n):s = .str n:=by
 cases s <;> simp only [ze8,reduceCtorEq] at h
 cases h; rfl
theorem Zw {c:C} {s:S} {l:List (den c)} (h:zbw c s = some l):toV s = .list (l.map (enc c)):=by
 unfold zbw at h
 split at h
 ·split at h
  ·rename_i e; subst e; cases h; simp [toV]
  ·cases h
 ·cases h; simp [toV,zj]
 ·cases h
theorem bind_some {α β:Type} {o:Option α} {f:α->Option β} {r:β} (h:o.bind f = some r):∃ x,o = some x/\f x = some r:=by
 cases o with
 | none=>cases h
 | some x=>exact ⟨x,rfl,h⟩
theorem yV {k:IntKind} {s:S} {n:Int} (h:asInt k s = some n):toV s = .int k n:=by rw [znq h]; simp [toV]
theorem zrE {s:S} {n:Bool} (h:asBool s = some n):toV s = .bool n:=by rw [zlY h]; simp [toV]
theorem zut {s:S} {n:IV} (h:zus s = some n):toV s = zah n:=by
 unfold zus at h
 split at h
 ·cases h; simp [toV]
 ·cases h; simp [toV,zah]
 ·cases h; simp [toV,zj,zah]
 ·cases h
theorem zdQ {s:S} {n:List UInt8} (h:ze8 s = some n):toV s = .str n:=by rw [znr h]; simp [toV]
theorem zpS {s:S} {x:ID} (h:zrC s = some x):toV s = zet x:=by
 unfold zrC at h
 split at h
 ·obtain ⟨q0,h0,h⟩:=bind_some h
  obtain ⟨q1,h1,h⟩:=bind_some h
  obtain ⟨q2,h2,h⟩:=bind_some h
  cases h
  simp only [toV,zj,yV h0,yV h1,yV h2]
  rfl
 ·cases h
theorem zlZ {s:S} {x:Outc} (h:zjP s = some x):toV s = Y4 x:=by
 unfold zjP at h
 split at h
 ·obtain ⟨q0,h0,h⟩:=bind_some h
  obtain ⟨q1,h1,h⟩:=bind_some h
  obtain ⟨q2,h2,h⟩:=bind_some h
  obtain ⟨q3,h3,h⟩:=bind_some h
  obtain ⟨q4,h4,h⟩:=bind_some h
  obtain ⟨q5,h5,h⟩:=bind_some h
  obtain ⟨q6,h6,h⟩:=bind_some h
  cases h
  simp only [toV,zj,yV h0,yV h1,yV h2,yV h3,yV h4,yV h5,yV h6]
  rfl
 ·cases h
theorem zl0 {s:S} {x:Word} (h:zjQ s = some x):toV s = Y5 x:=by
 unfold zjQ at h
 split at h
 ·obtain ⟨q0,h0,h⟩:=bind_some h
  obtain ⟨q1,h1,h⟩:=bind_some h
  obtain ⟨q2,h2,h⟩:=bind_some h
  cases h
  simp only [toV,zj,yV h0,zdQ h1,zdQ h2]
  rfl
 ·cases h
theorem zns {s:S} {x:Row} (h:znp s = some x):toV s = QU x:=by
 unfold znp at h
 split at h
 ·obtain ⟨q0,h0,h⟩:=bind_some h
  obtain ⟨q1,h1,h⟩:=bind_some h
  cases h
  simp only [toV,zj,yV h0,Zw h1]
  rfl
 ·cases h
theorem zjT {s:S} {x:Fault} (h:zha s = some x):toV s = zeu x:=by
 unfold zha at h
 split at h
 ·obtain ⟨q0,h0,h⟩:=bind_some h
  obtain ⟨q1,h1,h⟩:=bind_some h
  cases h
  simp only [toV,zj,yV h0,yV h1]
  rfl
 ·cases h
theorem zpT {s:S} {x:W3} (h:zrD s = some x):toV s = zjK x:=by
 unfold zrD at h
 split at h
 ·obtain ⟨q0,h0,h⟩:=bind_some h
  obtain ⟨q1,h1,h⟩:=bind_some h
  obtain ⟨q2,h2,h⟩:=bind_some h
  cases h
  simp only [toV,zj,yV h0,yV h1,yV h2]
  rfl
 ·cases h
theorem zl1 {s:S} {x:Pair} (h:zjR s = some x):toV s = zaX x:=by
 unfold zjR at h
 split at h
 ·obtain ⟨q0,h0,h⟩:=bind_some h
  obtain ⟨q1,h1,h⟩:=bind_some h
  cases h
  simp only [toV,zj,yV h0,yV h1]
  rfl
 ·cases h
theorem zl2 {s:S} {x:Face} (h:zjS s = some x):toV s = zdN x:=by
 unfold zjS at h
 split at h
 ·obtain ⟨q0,h0,h⟩:=bind_some h
  obtain ⟨q1,h1,h⟩:=bind_some h
  cases h
  simp only [toV,zj,zdQ h0,yV h1]
  rfl
 ·cases h
theorem zhb {s:S} {x:Scanner} (h:zc4 s = some x):toV s = zb4 x:=by
 unfold zc4 at h
 split at h
 ·obtain ⟨q0,h0,h⟩:=bind_some h
  obtain ⟨q1,h1,h⟩:=bind_some h
  cases h
  simp only [toV,zj,zdQ h0,yV h1]
  rfl
 ·cases h
theorem yy:∀ {c:C} {s:S} {x:den c},qW c s = some x->toV s = enc c x
 | .i64,s,x,h=>yV h
 | .u64,s,x,h=>yV h
 | .i32,s,x,h=>yV h
 | .u32,s,x,h=>yV h
 | .u8,s,x,h=>yV h
 | .i16,s,x,h=>yV h
 | .u16,s,x,h=>yV h
 | .i8,s,x,h=>yV h
 | .bool,s,x,h=>zrE h
 | .str,s,x,h=>zdQ h
 | .iv,s,x,h=>zut h
 | .ID,s,x,h=>zpS h
 | .Outc,s,x,h=>zlZ h
 | .Word,s,x,h=>zl0 h
 | .Row,s,x,h=>zns h
 | .Fault,s,x,h=>zjT h
 | .W3,s,x,h=>zpT h
 | .Pair,s,x,h=>zl1 h
 | .Face,s,x,h=>zl2 h
 | .Scanner,s,x,h=>zhb h
 | .l_W3,s,x,h=>Zw h
 | .l_Outc,s,x,h=>Zw h
 | .l_Word,s,x,h=>Zw h
 | .l_Row,s,x,h=>Zw h
 | .l_Face,s,x,h=>Zw h
 | .l_u8,s,x,h=>Zw h
 | .l_i64,s,x,h=>Zw h
 | .l_str,s,x,h=>Zw h
 | .l_iv,s,x,h=>Zw h
theorem qJ:∀ (c:C) (x:den c),toV (refl c x) = enc c x:=by
 intro c x; cases c <;> simp only [refl,enc,zb5,zg5,zlT,zlU,zjO,zlV,zlW,zoY,ziK,Y6,zoZ,zo0,ziL,ziM,zlX,zg6,zo1,ziN,ziO,zdP,ziP,ze9,zfa,zg7,zfb,ziQ,zg8,zg9,ziR,toV,zj] <;> rfl
end Go.X
namespace Go.X
open Go.Eng
open Go.RowKit
inductive T (α:Type) where
 | nil
 | node (l:T α) (v:Option α) (r:T α)
noncomputable def T.get {α:Type} (t:T α):Nat->Option α :=
 T.rec (motive:=fun _=>Nat->Option α) (fun _=>none) (fun _ v _ gl gr n=>cond (Nat.beq n 0) v (cond (Nat.beq (n % 2) 1) (gl (n / 2)) (gr (n / 2 - 1)))) t
noncomputable def T.setF {α:Type} (f:Nat):T α->Nat->α->T α :=
 Nat.rec (motive:=fun _=>T α->Nat->α->T α) (fun t _ _=>t) (fun _ ih t n x=>T.casesOn (motive:=fun _=>T α) t
  (cond (Nat.beq n 0) (.node .nil (some x) .nil) (cond (Nat.beq (n % 2) 1) (.node (ih .nil (n / 2) x) none .nil) (.node .nil none (ih .nil (n / 2 - 1) x))))
  (fun l v r=>cond (Nat.beq n 0) (.node l (some x) r) (cond (Nat.beq (n % 2) 1) (.node (ih l (n / 2) x) v r) (.node l v (ih r (n / 2 - 1) x))))) f
theorem T.get_node0 {α:Type} (l:T α) (v:Option α) (r:T α) (n:Nat):(T.node l v r).get n = cond (Nat.beq n 0) v (cond (Nat.beq (n % 2) 1) (l.get (n / 2)) (r.get (n / 2 - 1))):=rfl
theorem T.setF_nil {α:Type} (f n:Nat) (x:α):T.setF (f + 1) .nil n x = cond (Nat.beq n 0) (.node .nil (some x) .nil) (cond (Nat.beq (n % 2) 1) (.node (T.setF f .nil (n / 2) x) none .nil) (.node .nil none (T.setF f .nil (n / 2 - 1) x))):=rfl
theorem T.setF_node {α:Type} (f:Nat) (l:T α) (v:Option α) (r:T α) (n:Nat) (x:α):T.setF (f + 1) (.node l v r) n x = cond (Nat.beq n 0) (.node l (some x) r) (cond (Nat.beq (n % 2) 1) (.node (T.setF f l (n / 2) x) v r) (.node l v (T.setF f r (n / 2 - 1) x))):=rfl
noncomputable def T.set {α:Type} (t:T α) (n:Nat) (x:α):T α:=T.setF (n + 1) t n x
theorem zey {n m:Nat} (h:¬ n = m):Nat.beq n m = false:=by
 cases hb:Nat.beq n m
 ·rfl
 ·exact absurd (Nat.eq_of_beq_eq_true hb) h
theorem T.get_nil {α:Type} (n:Nat):(T.nil:T α).get n = none:=rfl
theorem T.get_node {α:Type} (l:T α) (v:Option α) (r:T α) (n:Nat) :
  (T.node l v r).get n = if n = 0 then v else if n % 2 = 1 then l.get (n / 2) else r.get (n / 2 - 1):=by
 rw [T.get_node0]
 by_cases h:n = 0
 ·subst h; rfl
 ·have:Nat.beq n 0 = false:=zey h
  rw [this,if_neg h]
  by_cases h1:n % 2 = 1
  ·rw [if_pos h1,h1]; rfl
  ·have:Nat.beq (n % 2) 1 = false:=zey h1
   rw [this,if_neg h1]; rfl
theorem T.setF_succ {α:Type} (f:Nat) (t:T α) (n:Nat) (x:α):∃ l v r,(∀ m,t.get m = (T.node l v r).get m) /\
  T.setF (f + 1) t n x = if n = 0 then .node l (some x) r else if n % 2 = 1 then .node (T.setF f l (n / 2) x) v r else .node l v (T.setF f r (n / 2 - 1) x):=by
 cases t with
 | nil =>
  refine ⟨.nil,none,.nil,fun m=>by rw [T.get_node]; simp [T.get_nil],?_⟩
  rw [T.setF_nil]
  by_cases h:n = 0
  ·subst h; rfl
  ·have:Nat.beq n 0 = false:=zey h
   rw [this,if_neg h]
   by_cases h1:n % 2 = 1
   ·rw [if_pos h1,h1]; rfl
   ·have:Nat.beq (n % 2) 1 = false:=zey h1
    rw [this,if_neg h1]; rfl
 | node l v r =>
  refine ⟨l,v,r,fun m=>rfl,?_⟩
  rw [T.setF_node]
  by_cases h:n = 0
  ·subst h; rfl
  ·have:Nat.beq n 0 = false:=zey h
   rw [this,if_neg h]
   by_cases h1:n % 2 = 1
   ·rw [if_pos h1,h1]; rfl
   ·have:Nat.beq (n % 2) 1 = false:=zey h1
    rw [this,if_neg h1]; rfl
theorem T.get_setF {α:Type} (x:α):∀ (f:Nat) (t:T α) (n:Nat),n + 1 < 2 ^ f->∀ m,(T.setF f t n x).get m = if m = n then some x else t.get m
 | 0,_,n,h,_=>by simp at h
 | f + 1,t,n,h,m=>by
  obtain ⟨l,v,r,h1,h2⟩:=T.setF_succ f t n x
  rw [h2,h1 m]
  rw [Nat.pow_succ] at h
  by_cases h0:n = 0
  ·subst h0
   rw [if_pos rfl,T.get_node,T.get_node]
   by_cases hm:m = 0
   ·rw [if_pos hm,if_pos hm]
   ·rw [if_neg hm,if_neg hm,if_neg hm]
  ·rw [if_neg h0]
   by_cases h3:n % 2 = 1
   ·rw [if_pos h3,T.get_node,T.get_node]
    by_cases hm:m = 0
    ·rw [if_pos hm,if_pos hm,if_neg (by omega)]
    ·rw [if_neg hm,if_neg hm]
     by_cases hm1:m % 2 = 1
     ·rw [if_pos hm1,if_pos hm1,T.get_setF x f l (n / 2) (by omega) (m / 2)]
      by_cases he:m / 2 = n / 2
      ·rw [if_pos he,if_pos (by omega)]
      ·rw [if_neg he,if_neg (by omega)]
     ·rw [if_neg hm1,if_neg hm1,if_neg (by omega)]
   ·rw [if_neg h3,T.get_node,T.get_node]
    by_cases hm:m = 0
    ·rw [if_pos hm,if_pos hm,if_neg (by omega)]
    ·rw [if_neg hm,if_neg hm]
     by_cases hm1:m % 2 = 1
     ·rw [if_pos hm1,if_pos hm1,if_neg (by omega)]
     ·rw [if_neg hm1,if_neg hm1,T.get_setF x f r (n / 2 - 1) (by omega) (m / 2 - 1)]
      by_cases he:m / 2 - 1 = n / 2 - 1
      ·rw [if_pos he,if_pos (by omega)]
      ·rw [if_neg he,if_neg (by omega)]
theorem T.get_set {α:Type} {t:T α} {n:Nat} {x:α} (m:Nat):(t.set n x).get m = if m = n then some x else t.get m :=
 T.get_setF x (n + 1) t n Nat.lt_two_pow_self m
noncomputable def T.mapV {α:Type} (f:α->α) (t:T α):T α :=
 T.rec (motive:=fun _=>T α) .nil (fun _ v _ ml mr=>.node ml (v.map f) mr) t
theorem T.get_mapV {α:Type} (f:α->α):∀ (t:T α) (n:Nat),(t.mapV f).get n = (t.get n).map f
 | .nil,n=>rfl
 | .node l v r,n=>by
  show (T.node (l.mapV f) (v.map f) (r.mapV f)).get n = _
  rw [T.get_node,T.get_node]
  split
  ·rfl
  split
  ·exact T.get_mapV f l _
  ·exact T.get_mapV f r _
abbrev Tk:=Option (Nat × TypeId)
inductive qr where
 | cells (cs:List S) (ty:TypeId)
 | map (mt:TypeId) (kc vc:C) (l:List (den kc × den vc))
def yc:qr->Box
 | .cells cs ty=>⟨zj cs,ty⟩
 | .map mt kc vc l=>⟨zaa (enc kc) (enc vc) l,1000000000 + mt⟩
structure RO where
 all:Bool
 mask:Nat
 sl:Nat->S × Tk
 nb:Nat
 bmask:Nat
 bx:Nat->Option qr
 fl:Bool
structure Mm where
 sl:T (S × Tk)
 bx:List (Option qr)
def RO.own (ro:RO) (s:Nat):Bool:=bif ro.all then true else Nat.testBit ro.mask s
def RO.ownB (ro:RO) (i:Nat):Bool:=bif Nat.ble ro.nb i then true else Nat.testBit ro.bmask i
noncomputable def zV (ro:RO) (m:Mm) (s:Nat):S × Tk:=bif ro.own s then (m.sl.get s).getD (.any,none) else ro.sl s
noncomputable def yj (ro:RO) (m:Mm) (i:Nat):Option qr:=bif ro.ownB i then (m.bx[i]?).getD none else ro.bx i
noncomputable def za (ro:RO) (m:Mm):St :=
 ⟨m.bx.length,fun s=>(toV (zV ro m s).1,(zV ro m s).2),fun i=>(yj ro m i).map yc⟩
variable {β:Type}
noncomputable def Zg (ro:RO) (m:Mm) (dst:Option Nat) (v:S) (tk:Tk) (k:Mm->Option β):Option β :=
 match dst with
 | none=>k m
 | some d=>bif ro.own d then k ⟨m.sl.set d (v,tk),m.bx⟩ else none
def zaY (t:Nat) (x:S × Tk):S × Tk:=match x.2 with
 | some (t',e)=>bif Nat.beq t' t || Nat.beq t' (t + 3000000) then (x.1,none) else x
 | none=>x
noncomputable def zo2 (ro:RO) (m:Mm) (dr:Bool) (o:Oper) (v:S) (tk:Tk) (k:Mm->Option β):Option β :=
 bif yO o then Zg ro m o.dst v tk k else
  match tk with
  | none=>Zg ro m o.dst v none k
  | some (t,e)=>bif Nat.blt (tcl t) 2 && (!dr || Q5 o && (match o.dst with | some d=>Nat.beq d (t % 1000000) | none=>false)) then Zg ro ⟨m.sl.mapV (zaY t),m.bx⟩ o.dst v (some (t,e)) k else none
def zhc:Value->S
 | .int k n=>.int k n
 | .bool b=>.bool b
 | .string s=>bif Nat.ble s.size maxLen then .str s.data.toList else .any
 | .pointer none=>.nilp
 | .slice none 0 0=>.rows []
 | .nilFunc=>.nilfn
 | .nilIface=>.nilif
 | _=>.any
def zbf:Value->S
 | .agg cs=>bif cs.toList.all (fun x=>x.oneCell') then .agg (cs.toList.map zhc) else .any
 | .tuple cs=>.tup (cs.toList.map zhc)
 | v=>zhc v
noncomputable def zG (ro:RO) (m:Mm):Operand->S
 | .tmp t=>(zV ro m t).1
 | .const v=>zbf v
 | .global g=>.gel g 0
 | .func f=>.fn (.func f) [] []
noncomputable def ztg (ro:RO) (m:Mm):Operand->Tk
 | .tmp t=>(zV ro m t).2
 | _=>none
instance (k:IntKind) (n:Int):Decidable (InR k n):=inferInstanceAs (Decidable (k.wrap n = n))
def zD (k:IntKind) (a b:Int):Option Int:=if InR k (a + b) then some (a + b) else none
def Z9 (k:IntKind) (a b:Int):Option Int:=if InR k (a - b) then some (a - b) else none
def zbA (k:IntKind) (a b:Int):Option Int:=if InR k (a * b) then some (a * b) else none
def zez (k:IntKind) (a b:Int):Option Int:=if b ≠ 0/\InR k (a.tdiv b) then some (a.tdiv b) else none
def zhU (a b:Int):Option Int:=if b ≠ 0 then some (a.tmod b) else none
def qQ (s t:List UInt8):Option (List UInt8):=if s.length + t.length <= maxLen then some (s++t) else none
def slc {α:Type} (l:List α) (lo hi:Int):Option (List α):=if 0 <= lo/\lo <= hi/\hi <= l.length then some ((l.take hi.toNat).drop lo.toNat) else none
def idx {α:Type} (l:List α) (i:Int):Option α:=if 0 <= i then l[i.toNat]? else none
def yq (s:List UInt8) (i:Int):Option Int:=(idx s i).map fun b=>(b.toNat:Int)
def app {α:Type} (by':Nat) (l m:List α):Option (List α):=if (l.length + m.length) * by' <= 140737488355328 then some (l++m) else none
def yu (s:List UInt8):List Int:=s.map fun b=>(b.toNat:Int)
def Y7 (l:List Int):Option (List UInt8):=if l.all (fun n=>decide (0 <= n) && decide (n < 256)) then some (l.map fun n=>UInt8.ofNat n.toNat) else none
def br {α:Type} (b:Bool) (x y:α):α:=cond b x y
def zb6:S->Option Nat
 | .agg cs=>some cs.length
 | .any | .un | .tup _=>none
 | .gel _ _=>none
 | _=>some 1
def Ze:S->List S
 | .agg cs=>cs
 | v=>[v]
def zfc:S->Option CK
 | .int k _=>some (.int k)
 | .bool _=>some .bool
 | .str _=>some .str
 | _=>none
def zfR:S->S->Bool
 | .int _ a,.int _ b=>a == b
 | .bool a,.bool b=>a == b
 | .str a,.str b=>a == b
 | _,_=>false
def eqS:List S->List S->Bool
 | [x],[y]=>zfR x y
 | x :: xs,y :: ys=>zfR x y && eqS xs ys
 | _,_=>true
def zpU:CK->CK->Bool
 | .int k,.int k'=>decide (k = k')
 | .bool,.bool=>true
 | .str,.str=>true
 | _,_=>false
def ZH:List CK->List S->Bool
 | [],[]=>true
 | k :: ks,c :: cs=>(match zfc c with | some k'=>zpU k' k | none=>false) && ZH ks cs
 | _,_=>false
mutual
def yM:S->Bool
 | .loc _ _=>false
 | .loco _ _ _ _=>false
 | .mref _=>false
 | .agg cs=>qX cs
 | .tup cs=>qX cs
 | .elt cs _=>qX cs
 | .rows vs=>qX vs
 | .fn _ first cap=>qX first && qX cap
 | .iface _ v=>yM v
 | _=>true
def qX:List S->Bool
 | []=>true
 | c :: cs=>yM c && qX cs
end
def znt:(c:C)->den c->Bool
 | .i64,n=>decide (InR .i64 n)
 | .u64,n=>decide (InR .u64 n)
 | .str,_=>true
 | .Pair,p=>decide (InR .i64 p.a) && decide (InR .i64 p.b)
 | .ID,p=>decide (InR .i64 p.Node) && decide (InR .u64 p.Seq) && decide (InR .i64 p.Off)
 | .Outc,p=>decide (InR .i64 p.Tick) && decide (InR .i64 p.Node) && decide (InR .i64 p.Kind) && decide (InR .i64 p.ID.Node) && decide (InR .u64 p.ID.Seq) && decide (InR .i64 p.ID.Off) && decide (InR .i64 p.Other)
 | _,_=>false
def ckC:C->Option (Bool × List CK)
 | .i64=>some (false,[.int .i64])
 | .u64=>some (false,[.int .u64])
 | .str=>some (false,[.str])
 | .Pair=>some (true,[.int .i64,.int .i64])
 | .ID=>some (true,[.int .i64,.int .u64,.int .i64])
 | .Outc=>some (true,[.int .i64,.int .i64,.int .i64,.int .i64,.int .u64,.int .i64,.int .i64])
 | _=>none
def zjU:List CK->List CK->Bool
 | [],[]=>true
 | a :: l,b :: m=>zpU a b && zjU l m
 | _,_=>false
def zth {α β:Type} [DecidableEq α] (kin:α->Bool) (l:List (α × β)) (k:α):Option (Option β):=bif kin k && l.all (fun e=>kin e.1) then some (zhO l k) else none
def zti {α β:Type} [DecidableEq α] (kin:α->Bool) (l:List (α × β)) (k:α) (v:β):Option (List (α × β)):=bif kin k && l.all (fun e=>kin e.1) then some (zpl l k v) else none
def zuu {α β:Type} [DecidableEq α] (kin:α->Bool) (l:List (α × β)) (k:α):Option (List (α × β)):=bif kin k && l.all (fun e=>kin e.1) then some (zqK l k) else none
theorem ztj {a b:CK} (h:zpU a b = true):a = b:=by
 cases a <;> cases b <;> simp [zpU] at h <;> simp [*]
theorem zdR:∀ {a b:List CK},zjU a b = true->a = b
 | [],[],_=>rfl
 | [],_ :: _,h=>by simp [zjU] at h
 | _ :: _,[],h=>by simp [zjU] at h
 | a :: l,b :: m,h=>by
  simp only [zjU,zvI] at h
  rw [ztj h.1,zdR h.2]
theorem zay {c:C} {ag:Bool} {ks:List CK} (h:ckC c = some (ag,ks)) {x:den c} (hx:znt c x = true):keyOK ag ks (enc c x):=by
 cases c <;> simp only [ckC,zvL,Prod.mk.injEq,reduceCtorEq] at h <;> obtain ⟨rfl,rfl⟩:=h <;>
  simp only [znt,zvI,decide_eq_true_eq] at hx
 ·exact ⟨rfl,rfl,⟨⟨rfl,hx⟩,trivial⟩⟩
 ·exact ⟨rfl,rfl,⟨⟨rfl,hx⟩,trivial⟩⟩
 ·exact ⟨rfl,rfl,trivial⟩
 ·exact ⟨rfl,rfl,⟨⟨rfl,hx.1.1⟩,⟨rfl,hx.1.2⟩,⟨rfl,hx.2⟩,trivial⟩⟩
 ·obtain ⟨⟨⟨⟨⟨⟨h1,h2⟩,h3⟩,h4⟩,h5⟩,h6⟩,h7⟩:=hx
  exact ⟨rfl,rfl,⟨⟨rfl,h1⟩,⟨rfl,h2⟩,⟨rfl,h3⟩,⟨rfl,h4⟩,⟨rfl,h5⟩,⟨rfl,h6⟩,⟨rfl,h7⟩,trivial⟩⟩
 ·exact ⟨rfl,rfl,⟨⟨rfl,hx.1⟩,⟨rfl,hx.2⟩,trivial⟩⟩
theorem zb7 {c:C} {d:DecidableEq (den c)} (h:dq c = some d) (a b:den c):Zd (enc c a) (enc c b) = decide (a = b):=by
 have key:(Zd (enc c a) (enc c b) = true ↔ a = b):=by
  cases c <;> simp only [dq,reduceCtorEq] at h
  ·show Zd (.int .i64 a) (.int .i64 b) = true ↔ a = b
   simp [Zd,V.cellsL,eqV,QH]
  ·show Zd (.int .u64 a) (.int .u64 b) = true ↔ a = b
   simp [Zd,V.cellsL,eqV,QH]
  ·show Zd (.str a) (.str b) = true ↔ a = b
   simp [Zd,V.cellsL,eqV,QH]
  ·obtain ⟨a1,a2,a3⟩:=a; obtain ⟨b1,b2,b3⟩:=b
   show Zd (zet ⟨a1,a2,a3⟩) (zet ⟨b1,b2,b3⟩) = true ↔ _
   simp [Zd,zet,V.cellsL,eqV,QH]
  ·obtain ⟨a1,a2,a3,⟨a4,a5,a6⟩,a7⟩:=a; obtain ⟨b1,b2,b3,⟨b4,b5,b6⟩,b7⟩:=b
   show Zd (Y4 ⟨a1,a2,a3,⟨a4,a5,a6⟩,a7⟩) (Y4 ⟨b1,b2,b3,⟨b4,b5,b6⟩,b7⟩) = true ↔ _
   simp [Zd,Y4,V.cellsL,eqV,QH,and_assoc]
  ·obtain ⟨a1,a2⟩:=a; obtain ⟨b1,b2⟩:=b
   show Zd (zaX ⟨a1,a2⟩) (zaX ⟨b1,b2⟩) = true ↔ _
   simp [Zd,zaX,V.cellsL,eqV,QH]
 rw [Bool.eq_iff_iff,key]; simp
section
variable (P:Program) (code:TypeId->Option C) (ro:RO) (m:Mm)
def zaz (c:C):List S->Option (List (den c))
 | []=>some []
 | s :: ss=>match qW c s with
  | some x=>(match zaz c ss with | some xs=>some (x :: xs) | none=>none)
  | none=>none
def zjV (c:C) (g off n:Nat):Option (den c):=match GL g with
 | some vs=>if off + n <= vs.length then qW c (.agg (((vs.map zbf).drop off).take n)) else none
 | none=>none
def zpV (c:C) (g off:Nat):Option (den c):=match GL g with
 | some vs=>(match (vs.map zbf)[off]? with | some s=>qW c s | none=>none)
 | none=>none
def zjW (c:C) (g n:Nat):Nat->Nat->Option (List (den c))
 | 0,_=>some []
 | k + 1,off=>match zjV c g off n,zjW c g n k (off + n) with
  | some x,some l=>some (x :: l)
  | _,_=>none
def zvn (t:TypeId):Option (C × Nat):=match code t with | some c=>zvD c | none=>none
noncomputable def zl3 (t:TypeId) (x:S) (K:S->Option β):Option β :=
 match x,Zt P t with
 | .elt cs off,some true=>(match zA P t with | some n=>bif Nat.ble (off + n) cs.length then K (.agg ((cs.drop off).take n)) else none | none=>none)
 | .elt cs off,some false=>(match cs[off]? with | some c=>K c | none=>none)
 | .loc i off,some true=>(match yj ro m i,zA P t with | some (.cells cs ty),some n=>bif Nat.blt ty 1000000000 && Nat.ble (off + n) cs.length then K (.agg ((cs.drop off).take n)) else none | _,_=>none)
 | .loc i off,some false=>(match yj ro m i with | some (.cells cs ty)=>bif Nat.blt ty 1000000000 then (match cs[off]? with | some c=>K c | none=>none) else none | _=>none)
 | .loco i a n ix,some false=>(match yj ro m i,code t with
  | some (.cells cs ty),some c=>bif Nat.blt ty 1000000000 && Nat.ble (a + n) cs.length then (match zaz c ((cs.drop a).take n) with | some l=>(idx l ix).bind fun y=>K (refl c y) | none=>none) else none
  | _,_=>none)
 | .gel g off,some true=>(match zA P t,code t with | some n,some c=>(zjV c g off n).bind fun y=>K (refl c y) | _,_=>none)
 | .gel g off,some false=>(match code t with | some c=>(zpV c g off).bind fun y=>K (refl c y) | none=>none)
 | _,_=>none
def zvE (k:IntKind) (a b:Int):Option Int:=if 0 <= b then some (k.wrap (a * 2 ^ (min b.toNat k.bits))) else none
def zvF (k:IntKind) (a b:Int):Option Int:=if 0 <= b then some (a.fdiv (2 ^ (min b.toNat k.bits))) else none
def shX (op:BinOp) (k:IntKind) (a b:Int) (K:S->Option β):Option β :=
 match op with
 | .shl=>(zvE k a b).bind fun n=>K (.int k n)
 | .shr=>(zvF k a b).bind fun n=>K (.int k n)
 | _=>none
def zuv:BinOp->Bool
 | .shl=>true
 | .shr=>true
 | _=>false
def zuw (op:BinOp) (k:IntKind) (a b:Int) (K:S->Option β):Option β :=
 match op with
 | .add=>(zD k a b).bind fun n=>K (.int k n)
 | .sub=>(Z9 k a b).bind fun n=>K (.int k n)
 | .mul=>(zbA k a b).bind fun n=>K (.int k n)
 | .quo=>(zez k a b).bind fun n=>K (.int k n)
 | .rem=>(zhU a b).bind fun n=>K (.int k n)
 | .eql=>K (.bool (a == b))
 | .neq=>K (.bool (a != b))
 | .lss=>K (.bool (decide (a < b)))
 | .leq=>K (.bool (decide (a <= b)))
 | .gtr=>K (.bool (decide (b < a)))
 | .geq=>K (.bool (decide (b <= a)))
 | .and=>K (.int k (YW .and k a b))
 | .or=>K (.int k (YW .or k a b))
 | .xor=>K (.int k (YW .xor k a b))
 | .andNot=>K (.int k (YW .andNot k a b))
 | _=>none
def zux (op:BinOp) (s t:List UInt8) (K:S->Option β):Option β :=
 match op with
 | .add=>(qQ s t).bind fun r=>K (.str r)
 | .eql=>K (.bool (s == t))
 | .neq=>K (.bool (!(s == t)))
 | .lss=>K (.bool (Op.bytesLess s t))
 | .leq=>K (.bool (Op.bytesLess s t || s == t))
 | .gtr=>K (.bool (!(Op.bytesLess s t || s == t)))
 | .geq=>K (.bool (!Op.bytesLess s t))
 | _=>none
def zuy (op:BinOp) (xT:TypeId) (a b:S) (K:S->Option β):Option β :=
 match a,b with
 | .int k x,.int k' y=>bif zuv op then shX op k x y K else if k = k' then zuw op k x y K else none
 | .str s,.str t=>zux op s t K
 | .bool x,.bool y=>(match op,Zb P xT with
  | .eql,.bool=>K (.bool (x == y))
  | .neq,.bool=>K (.bool (!(x == y)))
  | _,_=>none)
 | .agg cs,.agg ds=>(match op,eqT P xT with
  | .eql,some ks=>bif ZH ks cs && ZH ks ds then K (.bool (eqS cs ds)) else none
  | .neq,some ks=>bif ZH ks cs && ZH ks ds then K (.bool (!eqS cs ds)) else none
  | _,_=>none)
 | _,_=>none
def unX (op:UnOp) (x:S) (K:S->Option β):Option β :=
 match op,x with
 | .not,.bool b=>K (.bool (!b))
 | .neg,.int k n=>(Z9 k 0 n).bind fun r=>K (.int k r)
 | _,_=>none
def zrF (s d:TypeId) (x:S) (K:S->Option β):Option β :=
 match x,Zb P s,Zb P d with
 | .int _ n,.int _,.int k=>K (.int k (k.wrap n))
 | .str l,.str,.str=>K (.str l)
 | .str l,.str,.other=>(match qH P d with
  | some e=>(match Zb P e with | .int .u8=>K (.lst .u8 (yu l)) | _=>none)
  | none=>none)
 | .lst .u8 rows,.other,.str=>(match qH P s with
  | some e=>(match Zb P e with | .int .u8=>(Y7 rows).bind fun r=>K (.str r) | _=>none)
  | none=>none)
 | _,_,_=>none
noncomputable def zc5 (x:Option Operand) (d:Int) (K:Int->Option β):Option β :=
 match x with
 | none=>K d
 | some x=>(match zG ro m x with
  | .int _ i=>K i
  | _=>none)
def zcK (t:TypeId) (c:C):Option (TypeId × Nat):=match qH P t with
 | some e=>(match zA P e with | some n=>bif Nat.beq n (csz c) then some (e,n) else none | none=>none)
 | none=>none
noncomputable def zjX (t:TypeId) (x:S) (lo hi mx:Option Operand) (dst:Option Nat) (K:S->Tk->Option β):Option β :=
 match x,mx with
 | .str s,none=>(match Zb P t with
  | .str=>zc5 ro m lo 0 fun l=>zc5 ro m hi s.length fun h=>(slc s l h).bind fun r=>K (.str r) none
  | _=>none)
 | .lst c l,none=>(match zcK P t c with
  | some _=>zc5 ro m lo 0 fun a=>zc5 ro m hi l.length fun h=>(slc l a h).bind fun r=>K (.lst c r) none
  | none=>none)
 | .lst c l,some mx=>(match zcK P t c,hi with
  | some (e,_),some hi=>zc5 ro m lo 0 fun a=>zc5 ro m (some hi) l.length fun h=>zc5 ro m (some mx) l.length fun h'=>br (decide (h' = h)) ((slc l a h).bind fun r=>K (.lst c r) (some (zi9 hi (dst.getD 0),e))) none
  | _,_=>none)
 | _,_=>none
noncomputable def zjY (t:TypeId) (x:S) (lo hi mx:Option Operand) (dst:Option Nat) (K:S->Tk->Option β):Option β :=
 match x with
 | .gel g a=>(match lo,hi,mx,zf2 P t with
  | none,none,none,some (len,e)=>(match zA P e,code e with
   | some n,some c=>bif Nat.beq n (csz c) && Nat.ble len maxLen && Nat.blt 0 len then (zjW c g n len a).bind fun r=>K (.lst c r) none else none
   | _,_=>none)
  | _,_,_,_=>none)
 | x=>zjX P ro m t x lo hi mx dst K
def znu (s:TypeId) (i:Nat) (x:S) (K:S->Option β):Option β :=
 match Qm P s i with
 | some (off,t)=>(match zA P t with
  | some n=>bif Nat.beq n 0 then none else (match x with
   | .loc j a=>K (.loc j (a + off))
   | .elt cs a=>K (.elt cs (a + off))
   | .gel g a=>(match GL g with | some _=>K (.gel g (a + off)) | none=>none)
   | _=>none)
  | none=>none)
 | none=>none
def znv (s:TypeId) (i:Nat) (x:S) (K:S->Option β):Option β :=
 match Qm P s i,x with
 | some (off,t),.agg cs=>(match Zt P t,zA P t with
  | some true,some n=>K (.agg ((cs.drop off).take n))
  | some false,_=>(match cs[off]? with | some c=>K c | none=>none)
  | _,_=>none)
 | _,_=>none
def inB (i:Int) (n:Nat):Bool:=decide (0 <= i) && decide (i < (n:Int))
def znw (t:TypeId) (x i:S) (K:S->Option β):Option β :=
 match x,i with
 | .lst c l,.int _ i=>(match zcK P t c with
  | some _=>(idx l i).bind fun x=>K (.elt (Ze (refl c x)) 0)
  | none=>none)
 | .loc j a,.int _ i=>(match zf2 P t with
  | some (len,e)=>(match zA P e with
   | some n=>(match zvn code t with
    | some (_,k)=>bif Nat.beq n 1 && Nat.beq k len then br (inB i len) (K (.loco j a len i)) none else none
    | none=>br (inB i len) (K (.loc j (a + i.toNat * n))) none)
   | none=>none)
  | none=>none)
 | .elt cs a,.int _ i=>(match zf2 P t with
  | some (len,e)=>(match zA P e with | some n=>br (inB i len) (K (.elt cs (a + i.toNat * n))) none | none=>none)
  | none=>none)
 | .gel g a,.int _ i=>(match zf2 P t with
  | some (len,e)=>(match zA P e,GL g with | some n,some _=>br (inB i len) (K (.gel g (a + i.toNat * n))) none | _,_=>none)
  | none=>none)
 | _,_=>none
def znx (t:TypeId) (x i:S) (K:S->Option β):Option β :=
 match x,i with
 | .str s,.int _ i=>(match Zb P t with
  | .str=>(yq s i).bind fun b=>K (.int .u8 b)
  | _=>none)
 | .agg cs,.int _ i=>(match zf2 P t with
  | some (len,e)=>(match Zt P e,zA P e with
   | some false,some n=>(match zvn code t with
    | some (c,_)=>bif Nat.beq n 1 then br (inB i len) (match zaz c cs with | some l=>(idx l i).bind fun y=>K (refl c y) | none=>none) none else none
    | none=>br (inB i len) (match cs[i.toNat * n]? with | some c=>K c | none=>none) none)
   | _,_=>none)
  | none=>none)
 | _,_=>none
def zl4 (place:Nat->Option (Nat × Nat)) (cells:List S):List (Nat × S)->Option (List S)
 | []=>some cells
 | (i,v) :: rest =>
  match place i,zb6 v with
  | some (off,size),some n=>bif Nat.beq n size && Nat.ble (off + n) cells.length then zl4 place (cells.take off++Ze v++cells.drop (off + n)) rest else none
  | _,_=>none
def zb8 (t:TypeId):Option S:=((P.info? t).bind (·.zero)).map zbf
noncomputable def zny (t:TypeId) (parts:List (Nat × Operand)) (K:S->Option β):Option β :=
 match zb8 P t,zfK P t with
 | some zv,some place=>(match zb6 zv with
  | some _=>(match zl4 place (Ze zv) (parts.map fun x=>(x.1,zG ro m x.2)) with
   | some out=>K (.agg out)
   | none=>none)
  | none=>none)
 | _,_=>none
def zjZ (n:Nat):List S->Bool
 | []=>true
 | s :: ss=>(match zb6 s with | some k=>Nat.beq k n | none=>false) && zjZ n ss
noncomputable def zj0 (t:TypeId) (len:Nat) (parts:List (Nat × Operand)) (dst:Option Nat) (K:S->Tk->Option β):Option β :=
 match qH P t with
 | some e=>(match zA P e,zb8 P e with
  | some sz,some zv=>(match zb6 zv with
   | some zn=>bif !Nat.beq sz 0 && Nat.beq zn sz && Nat.beq parts.length len && Nat.ble (len * sz) 16777216 && zkR parts 0 then
     (match code e with
     | some c=>(match zaz c (parts.map fun x=>zG ro m x.2) with
      | some l=>bif Nat.beq (csz c) sz then K (.lst c l) (some (dst.getD 0,e)) else none
      | none=>none)
     | none=>bif zjZ sz (parts.map fun x=>zG ro m x.2) then K (.rows (parts.map fun x=>zG ro m x.2)) (some (dst.getD 0,e)) else none)
    else none
   | none=>none)
  | _,_=>none)
 | none=>none
def zuz (x:S) (K:S->Option β):Option β :=
 match x with
 | .loc i off=>K (.loc i off)
 | .elt cs off=>K (.elt cs off)
 | .gel g off=>(match GL g with | some _=>K (.gel g off) | none=>none)
 | _=>none
def zuA (t:TypeId) (x:S) (K:S->Option β):Option β :=
 match x with
 | .lst c l=>(match qH P t with | some _=>K (.int .i64 l.length) | none=>none)
 | .rows vs=>(match qH P t with | some _=>K (.int .i64 vs.length) | none=>none)
 | .str s=>(match Zb P t with | .str=>K (.int .i64 s.length) | _=>none)
 | _=>none
def zhd (b:Builtin) (args:List S) (tys:List TypeId) (K:S->Option β):Option β :=
 match b,args,tys with
 | .len,[x],[t]=>zuA P t x K
 | .max,[.int k a,.int k' b],[_,_]=>if k = k' then K (.int k (max a b)) else none
 | .min,[.int k a,.int k' b],[_,_]=>if k = k' then K (.int k (min a b)) else none
 | _,_,_=>none
noncomputable def zj1 (o:Oper) (x:Operand) (K:S->Tk->Option β):Option β :=
 match x with
 | .const (.slice none 0 0)=>(match qH P o.type with
  | some e=>(match code e with
   | some c=>K (.lst c []) (some (o.dst.getD 0,e))
   | none=>K (.rows []) (some (o.dst.getD 0,e)))
  | none=>K (.rows []) none)
 | x=>K (zG ro m x) (ztg ro m x)
def zrG (c a b:S) (K:S->Option β):Option β :=
 match c with
 | .bool t=>(match a,b with
  | .bool x,.bool y=>K (.bool (bif t then x else y))
  | .int k x,.int k' y=>if k = k' then K (.int k (bif t then x else y)) else none
  | .str x,.str y=>K (.str (bif t then x else y))
  | a,b=>br t (K a) (K b))
 | _=>none
noncomputable def zrH (o:Oper) (K:S->Tk->Option β):Option β :=
 match o.op with
 | .move x=>K (zG ro m x) (ztg ro m x)
 | .assign x=>zj1 P code ro m o x K
 | .pick c x y=>zrG (zG ro m c) (zG ro m x) (zG ro m y) (K · none)
 | .load t x=>zl3 P code ro m t (zG ro m x) (K · none)
 | .binOp op xT x y _=>zuy P op xT (zG ro m x) (zG ro m y) (K · none)
 | .unOp op _ x=>unX op (zG ro m x) (K · none)
 | .convert s d x=>zrF P s d (zG ro m x) (K · none)
 | .makeInterface t x=>bif zja P t then K (.iface t (zG ro m x)) none else none
 | .makeFunc f first cap=>K (.fn f (first.toList.map (zG ro m)) (cap.toList.map (zG ro m))) none
 | .slice t x lo hi mx=>zjY P code ro m t (zG ro m x) lo hi mx o.dst K
 | .fieldAddr s x i=>znu P s i (zG ro m x) (K · none)
 | .field s x i=>znv P s i (zG ro m x) (K · none)
 | .indexAddr t x i=>znw P code t (zG ro m x) (zG ro m i) (K · none)
 | .index t x i=>znx P code t (zG ro m x) (zG ro m i) (K · none)
 | .extract x i=>(match zG ro m x with | .tup vs=>(match vs[i]? with | some v=>K v none | none=>none) | _=>none)
 | .build t parts=>zny P ro m t parts.toList (K · none)
 | .buildSlice t len parts=>zj0 P code ro m t len parts.toList o.dst K
 | .nilCheck x=>zuz (zG ro m x) (K · none)
 | .call { callee:=.builtin b,args,argTypes }=>zhd P b (args.toList.map (zG ro m)) argTypes.toList (K · none)
 | _=>none
end
end Go.X
namespace Go.X
open Go.Eng
open Go.RowKit
mutual
def QK (f:Nat->Nat):S->S
 | .loc i off=>.loc (f i) off
 | .loco i off n ix=>.loco (f i) off n ix
 | .mref i=>.mref (f i)
 | .agg cs=>.agg (zaZ f cs)
 | .tup cs=>.tup (zaZ f cs)
 | .elt cs off=>.elt (zaZ f cs) off
 | .rows vs=>.rows (zaZ f vs)
 | .fn g first cap=>.fn g (zaZ f first) (zaZ f cap)
 | .iface t v=>.iface t (QK f v)
 | v=>v
def zaZ (f:Nat->Nat):List S->List S
 | []=>[]
 | c :: cs=>QK f c :: zaZ f cs
end
mutual
def ZU:S->List Nat
 | .loc i _=>[i]
 | .loco i _ _ _=>[i]
 | .mref i=>[i]
 | .agg cs=>y8 cs
 | .tup cs=>y8 cs
 | .elt cs _=>y8 cs
 | .rows vs=>y8 vs
 | .fn _ first cap=>y8 first++y8 cap
 | .iface _ v=>ZU v
 | _=>[]
def y8:List S->List Nat
 | []=>[]
 | c :: cs=>ZU c++y8 cs
end
def QE:List Nat->List Nat->List Nat
 | [],acc=>acc
 | i :: is,acc=>bif acc.any (Nat.beq i) then QE is acc else QE is (acc++[i])
def zeA:List Nat->Nat->Nat
 | [],_=>0
 | x :: xs,i=>bif Nat.beq x i then 0 else zeA xs i + 1
def zb9:qr->Bool
 | .cells cs _=>qX cs
 | .map _ _ _ _=>true
structure zb (P:Program) where
 f:FuncId
 run:{β:Type}->List S->List qr->(S->List qr->Option β)->Option (Option β)
 sound:∀ {β:Type} (args:List S) (ins:List qr) (K:S->List qr->Option β) (r:β),run args ins K = some (some r) ->
  ∃ res outs,K res outs = some r/\zbO P f = true/\Go.Eng.Fn P f (zj args) (ins.map yc) (toV res) (outs.map yc)/\yM res = true/\(∀ B ∈ outs,zb9 B = true)/\outs.length = ins.length
def zl5 (v:Value):Option FuncId->Array Value
 | none=>#[v]
 | some g=>#[v,.func (.func g) #[] #[]]
structure ztU (P:Program) (f:FuncId) (g:Option FuncId) {α:Type} (enc:α->V) (sz:Nat) (srt:List α->List α):Prop where
 nil:∀ (w:World) (pr:Nat->Nat->Prop) (base:Option Addr) (cap:Nat),HL w pr->Calls P f (zl5 (.slice base 0 cap) g) w fun en w'=>en = .returned (.tuple #[])/\Below w.heap.size w w'/\DLE w w'
 row:∀ (w:World) (pr:Nat->Nat->Prop) (lam:Nat->Option Nat) (blk cap:Nat) (d:List α) (cur:Array Value) (e:TypeId),HL w pr->(∀ k vs,GL k = some vs->blk ≠ k)->d ≠ []->d.length <= cap->cap <= maxLen->d.length < 4611686018427387904 ->
  w.heap[blk]? = some (.cells cur e (0,0))->cur.size = cap * sz->RR ⟨w,pr,lam⟩ blk sz 0 (d.map enc) ->
  Calls P f (zl5 (.slice (some ⟨blk,0,none⟩) d.length cap) g) w fun en w'=>en = .returned (.tuple #[]) /\
   ∃ w1 cur',zfy w w1 blk/\w1.heap[blk]? = some (.cells cur' e (0,0))/\cur'.size = cur.size/\RR ⟨w1,pr,lam⟩ blk sz 0 ((srt d).map enc)/\Below w1.heap.size w1 w'/\DLE w1 w'
 len:∀ d,(srt d).length = d.length
structure zcL (P:Program) where
 f:FuncId
 g:Option FuncId
 c:C
 srt:List (den c)->List (den c)
 sound:ztU P f g (enc c) (csz c) srt
 go:zbO P f = true
structure zbg (P:Program) where
 f:FuncId
 c:C
 e:TypeId
 run:List S->Option (Option (List (den c)))
 sound:∀ (args:List S) (l:List (den c)),run args = some (some l)->zbO P f = true/\FnO P f (zj args) (.list (l.map (enc c))) e
structure zl6 (P:Program) where
 f:FuncId
 p:Nat
 c:C
 e:TypeId
 run:{β:Type}->List S->List qr->(List (den c)->List qr->Option β)->Option (Option β)
 sound:∀ {β:Type} (args:List S) (ins:List qr) (K:List (den c)->List qr->Option β) (r:β),run args ins K = some (some r) ->
  ∃ l outs,K l outs = some r/\zbO P f = true/\FnM P f (zj args) (ins.map yc) p e (.list (l.map (enc c))) (outs.map yc)/\(∀ B ∈ outs,zb9 B = true)/\outs.length = ins.length
def zfS {P:Program}:List (zl6 P)->FuncId->Option (zl6 P)
 | [],_=>none
 | s :: ss,f=>bif Nat.beq s.f f then some s else zfS ss f
def zfT {P:Program}:List (zbg P)->FuncId->Option (zbg P)
 | [],_=>none
 | s :: ss,f=>bif Nat.beq s.f f then some s else zfT ss f
def ztk:Option Nat->Option Nat->Bool
 | none,none=>true
 | some a,some b=>Nat.beq a b
 | _,_=>false
def zca {P:Program}:List (zcL P)->FuncId->Option FuncId->Option (zcL P)
 | [],_,_=>none
 | s :: ss,f,g=>bif Nat.beq s.f f && ztk s.g g then some s else zca ss f g
def zvo {α:Type} (srt:List α->List α) (l:List α):Option (List α):=if l.length < 4611686018427387904 then some (srt l) else none
structure zc6 (P:Program) where
 code:TypeId->Option C
 wr:Nat
 key:TypeId->Bool
 keyed:∀ t,key t = true->KeyT P t
 known:List (zb P)
 sorts:List (zcL P):=[]
 owned:List (zbg P):=[]
 muts:List (zl6 P):=[]
def za0 {P:Program} {β:Type}:List (zb P)->FuncId->List S->List qr->(S->List qr->Option β)->Option (Option β)
 | [],_,_,_,_=>none
 | s :: ss,f,args,ins,K=>bif Nat.beq s.f f then (match s.run args ins K with | some r=>some r | none=>za0 ss f args ins K) else za0 ss f args ins K
section
variable {P:Program} (X:zc6 P) (ro:RO)
variable {β:Type}
noncomputable def zeB (m:Mm):List Nat->Option (List qr)
 | []=>some []
 | i :: is=>match yj ro m i with
  | some B=>bif zb9 B && ro.ownB i then (match zeB m is with | some bs=>some (B :: bs) | none=>none) else none
  | none=>none
def zhe (bx:List (Option qr)):List Nat->List qr->List (Option qr)
 | i :: is,B :: bs=>zhe (bx.set i (some B)) is bs
 | _,_=>bx
noncomputable def zrI (dr:Bool) (m:Mm) (f:FuncId) (args:List S) (dst:Option Nat) (k:Mm->Option β):Option β :=
 match QE (y8 args) [] with
 | []=>(match za0 X.known f args [] (fun res _=>Zg ro m dst res none k) with
  | some r=>r
  | none=>none)
 | π=>bif dr || !Nat.ble ro.nb m.bx.length then none else (match zeB ro m π with
  | some ins=>(match za0 X.known f (zaZ (zeA π) args) ins (fun res outs=>Zg ro ⟨m.sl,zhe m.bx π outs⟩ dst res none k) with
   | some r=>r
   | none=>none)
  | none=>none)
noncomputable def zfU (m:Mm) (B:qr) (dst:Option Nat) (v:S) (k:Mm->Option β):Option β :=
 bif Nat.ble ro.nb m.bx.length then Zg ro ⟨m.sl,m.bx++[some B]⟩ dst v none k else none
noncomputable def ztl (m:Mm) (e:TypeId) (v:S) (dst:Option Nat) (k:Mm->Option β):Option β :=
 match zb6 v with
 | some _=>bif Nat.blt e 1000000000 then zfU ro m (.cells (Ze v) e) dst (.loc m.bx.length 0) k else none
 | none=>none
def zvp {α:Type} (l:List α) (i:Int) (x:α):Option (List α):=if 0 <= i/\i < l.length then some (l.set i.toNat x) else none
def zdS (c:C):Nat->List (den c)->Nat->List S
 | 0,_,_=>[]
 | n + 1,l,k=>refl c (l.getD k (dfl c)) :: zdS c n l (k + 1)
def ztV:S->Bool
 | .agg _=>false
 | _=>true
noncomputable def znz (m:Mm) (t:TypeId) (x y:S) (dst:Option Nat) (k:Mm->Option β):Option β :=
 match x,dst with
 | .loc i off,none=>(match yj ro m i,zA P t,zb6 y with
  | some (.cells cs ty),some n,some n'=>bif Nat.blt ty 1000000000 && Nat.beq n' n && Nat.ble (off + n) cs.length && ro.ownB i then
    k ⟨m.sl,m.bx.set i (some (.cells (cs.take off++Ze y++cs.drop (off + n)) ty))⟩ else none
  | _,_,_=>none)
 | .loco i a n ix,none=>(match yj ro m i,X.code t,zA P t with
  | some (.cells cs ty),some c,some z=>(match zaz c ((cs.drop a).take n),qW c y with
   | some l,some v=>bif Nat.blt ty 1000000000 && Nat.beq z 1 && Nat.beq (csz c) 1 && ztV y && Nat.ble (a + n) cs.length && ro.ownB i then
     (zvp l ix v).bind fun l'=>k ⟨m.sl,m.bx.set i (some (.cells (cs.take a++zdS c n l' 0++cs.drop (a + n)) ty))⟩ else none
   | _,_=>none)
  | _,_,_=>none)
 | _,_=>none
noncomputable def zj2 (m:Mm) (ss:Nat) (x:S) (t u:TypeId) (dst:Option Nat) (k:Mm->Option β):Option β :=
 match zV ro m ss,qH P t with
 | (.lst c l,some (tk,e)),some e'=>(match zA P e,zaI P e,zb8 P e with
  | some sz,some by',some zv=>(match zb6 zv with
   | some zn=>bif Nat.beq e e' && Nat.blt (tcl tk) 2 && zgp P u && Nat.beq zn sz && Nat.beq (csz c) sz && !Nat.beq by' 0 then
     (match x with
     | .lst c' l2=>if h:c' = c then (app by' l (h ▸ l2:List (den c))).bind fun r=>Zg ro ⟨m.sl.mapV (zaY tk),m.bx⟩ dst (.lst c r) (some (tk,e)) k else none
     | .rows []=>(app by' l []).bind fun r=>Zg ro ⟨m.sl.mapV (zaY tk),m.bx⟩ dst (.lst c r) (some (tk,e)) k
     | .str s=>if h:C.u8 = c then (app by' l (h ▸ yu s:List (den c))).bind fun r=>Zg ro ⟨m.sl.mapV (zaY tk),m.bx⟩ dst (.lst c r) (some (tk,e)) k else none
     | _=>none)
    else none
   | none=>none)
  | _,_,_=>none)
 | _,_=>none
mutual
def qA:S->Bool
 | .lst _ _=>false
 | .gel _ _=>false
 | .rows vs=>vs.isEmpty
 | .elt cs _=>cs.isEmpty
 | .agg cs=>zai cs
 | .tup cs=>zai cs
 | .fn _ a b=>zai a && zai b
 | .iface _ v=>qA v
 | _=>true
def zai:List S->Bool
 | []=>true
 | c :: cs=>qA c && zai cs
end
def zbx:qr->Bool
 | .cells cs _=>zai cs
 | .map _ kc vc _=>Z7 kc && Z7 vc
def zaA (tk:Nat) (new:S) (x:S × Tk):S × Tk :=
 match x.2 with
 | some (t,e)=>bif Nat.beq t tk then (new,x.2) else bif Nat.beq (tcl t) 2 then x else bif qA x.1 then x else bif Nat.beq (tcl t) 0 then
   (match x.1 with | .lst c _=>bif Z7 c then x else (.any,none) | _=>(.any,none)) else (.any,none)
 | none=>bif qA x.1 then x else (.any,none)
noncomputable def T.findK {α:Type} (p:α->Bool) (t:T α):Option Nat :=
 T.rec (motive:=fun _=>Option Nat) none (fun _ v _ fl fr=>bif (match v with | some x=>p x | none=>false) then some 0 else
  match fl with
  | some q=>some (2 * q + 1)
  | none=>(match fr with | some q=>some (2 * q + 2) | none=>none)) t
def zl7 {α:Type} (l:List α) (i:Int) (x:α):List α:=l.set i.toNat x
noncomputable def zrJ (m:Mm) (tk:Nat):Option Nat:=m.sl.findK fun x=>match x.2 with | some (t,_)=>Nat.beq t tk | none=>false
noncomputable def zj3 (m:Mm) (t:TypeId) (ss:Nat) (i:S) (dst:Option Nat) (k:Mm->Option β):Option β :=
 match zV ro m ss,i with
 | (.lst c l,some (tk,e)),.int _ i=>(match zcK P t c with
  | some (e',sz)=>bif Nat.beq (tcl tk) 0 && Nat.beq e e' then br (inB i l.length) (Zg ro m dst (.ptr i sz 0) (some (tk + 3000000,e)) k) none else none
  | none=>none)
 | _,_=>none
noncomputable def zj4 (m:Mm) (s:TypeId) (d0 fi:Nat) (dst:Option Nat) (k:Mm->Option β):Option β :=
 match zV ro m d0,Qm P s fi with
 | (.ptr i sz f,some (u,e)),some (fo,t)=>(match zA P t with
  | some n=>bif !Nat.beq n 0 && Nat.ble 3000000 u && Nat.beq (tcl (u - 3000000)) 0 then Zg ro m dst (.ptr i sz (f + fo)) (some (u,e)) k else none
  | none=>none)
 | _,_=>none
noncomputable def znA (m:Mm) (t:TypeId) (d0:Nat) (dst:Option Nat) (k:Mm->Option β):Option β :=
 match zV ro m d0 with
 | (.ptr i sz f,some (u,_))=>(match zrJ m (u - 3000000) with
  | some ss=>(match zV ro m ss,zA P t,Zt P t with
   | (.lst c l,some (tk,e)),some n,some ag=>bif Nat.beq (tk + 3000000) u && Nat.beq (tcl tk) 0 && Nat.beq (csz c) sz && (match zA P e with | some z=>Nat.beq z sz | none=>false) then
     (idx l i).bind fun x=>(match ag with
      | true=>bif Nat.ble (f + n) (Ze (refl c x)).length then Zg ro m dst (.agg (((Ze (refl c x)).drop f).take n)) none k else none
      | false=>(match (Ze (refl c x))[f]? with | some y=>Zg ro m dst y none k | none=>none)) else none
   | _,_,_=>none)
  | none=>none)
 | _=>none
def zj5 (c:C) (x:den c) (f n:Nat) (y:S):Option (den c) :=
 match refl c x with
 | .agg cs=>qW c (.agg (cs.take f++Ze y++cs.drop (f + n)))
 | _=>bif Nat.beq f 0 && Nat.beq n 1 then (match y with | .agg _=>none | y=>qW c y) else none
noncomputable def zj6 (m:Mm) (t:TypeId) (d0:Nat) (y:S) (dst:Option Nat) (k:Mm->Option β):Option β :=
 match zV ro m d0,dst with
 | (.ptr i sz f,some (u,_)),none=>(match zrJ m (u - 3000000) with
  | some ss=>(match zV ro m ss,zA P t,zb6 y with
   | (.lst c l,some (tk,e)),some n,some n'=>bif Nat.beq (tk + 3000000) u && Nat.beq (tcl tk) 0 && Nat.beq (csz c) sz && (match zA P e with | some z=>Nat.beq z sz | none=>false) && Nat.beq n' n && Nat.ble (f + n) sz && qA y && Z7 c && ro.fl &&
      m.bx.all (fun B=>match B with | some B=>zbx B | none=>true) then
     (idx l i).bind fun x=>(match zj5 c x f n y with
      | some x'=>k ⟨m.sl.mapV (zaA tk (.lst c (zl7 l i x'))),m.bx⟩
      | none=>none) else none
   | _,_,_=>none)
  | none=>none)
 | _,_=>none
def mkL {α:Type} (z:α) (by':Nat) (l c:Int):Option (List α):=if 0 <= l/\l <= c/\(by':Int) * c <= 281474976710656/\c <= maxLen then some (List.replicate l.toNat z) else none
noncomputable def znB (m:Mm) (t:TypeId) (l c:S) (dst:Option Nat) (k:Mm->Option β):Option β :=
 match l,c,qH P t with
 | .int _ l,.int _ n,some e=>(match X.code e,zA P e,zaI P e,zb8 P e with
  | some c,some sz,some by',some zv=>(match qW c zv,zb6 zv with
   | some z,some zn=>bif Nat.beq zn sz && Nat.beq (csz c) sz && Nat.beq (tcl (dst.getD 0)) 0 then (mkL z by' l n).bind fun r=>Zg ro ⟨m.sl.mapV (zaY (dst.getD 0)),m.bx⟩ dst (.lst c r) (some (dst.getD 0,e)) k else none
   | _,_=>none)
  | _,_,_,_=>none)
 | _,_,_=>none
noncomputable def zl8 (m:Mm):Operand->Option Nat
 | .tmp t=>(match (zV ro m t).1 with | .ptr _ _ _=>some t | _=>none)
 | _=>none
noncomputable def zo3 (m:Mm) (Q:zcL P) (ss:Nat) (dst:Option Nat) (k:Mm->Option β):Option β :=
 match zV ro m ss with
 | (.lst c l,some (tk,e))=>if h:c = Q.c then
   (bif Nat.beq (tcl tk) 0 && (match zA P e with | some z=>Nat.beq z (csz Q.c) | none=>false) && ro.fl && m.bx.all (fun B=>match B with | some B=>zbx B | none=>true) then
    (zvo Q.srt (h ▸ l)).bind fun r=>Zg ro ⟨m.sl.mapV (zaA tk (.lst Q.c r)),m.bx⟩ dst (.tup []) none k else none) else none
 | _=>none
noncomputable def zuB (m:Mm) (Q:zbg P) (args:List S) (dst:Option Nat) (k:Mm->Option β):Option β :=
 bif (y8 args).isEmpty && Nat.beq (tcl (dst.getD 0)) 0 then
  (match Q.run args with
  | some r=>r.bind fun l=>Zg ro ⟨m.sl.mapV (zaY (dst.getD 0)),m.bx⟩ dst (.lst Q.c l) (some (dst.getD 0,Q.e)) k
  | none=>none)
 else none
def ZM (tk:Nat) (x:S × Tk):S × Tk :=
 match x.2 with
 | some (t,_)=>bif Nat.beq t tk then (.any,none) else zaA tk (.lst .i64 []) x
 | none=>zaA tk (.lst .i64 []) x
noncomputable def zct (m:Mm) (tk:Nat) (ops:List Operand) (p:Nat) (v:S) (cap:List S):List S:=(ops.map (zG ro ⟨m.sl.mapV (ZM tk),m.bx⟩)).set p v++cap
noncomputable def zuC (m:Mm) (Q:zl6 P) (ops:List Operand) (cap:List S) (dst:Option Nat) (k:Mm->Option β):Option β :=
 match ops[Q.p]? with
 | some (.tmp ss)=>(match zV ro m ss with
  | (.lst c l,some (tk,e)) =>
   bif Nat.beq (tcl tk) 0 && Nat.beq e Q.e && Nat.beq (tcl (dst.getD 0)) 0 && ro.fl && m.bx.all (fun B=>match B with | some B=>zbx B | none=>true) && zai cap && Nat.ble ro.nb m.bx.length then
    (match zeB ro m (QE (y8 (zct ro m tk ops Q.p (.lst c l) cap)) []) with
    | some ins=>(match Q.run (zaZ (zeA (QE (y8 (zct ro m tk ops Q.p (.lst c l) cap)) [])) (zct ro m tk ops Q.p (.lst c l) cap)) ins (fun r outs =>
      Zg ro ⟨(m.sl.mapV (ZM tk)).mapV (zaY (dst.getD 0)),zhe m.bx (QE (y8 (zct ro m tk ops Q.p (.lst c l) cap)) []) outs⟩ dst (.lst Q.c r) (some (dst.getD 0,Q.e)) k) with
     | some r=>r
     | none=>none)
    | none=>none)
   else none
  | _=>none)
 | _=>none
noncomputable def zuD (m:Mm) (t:TypeId) (ss:Nat) (y:S) (dst:Option Nat) (k:Mm->Option β):Option β :=
 match zV ro m ss,y with
 | (.lst c l,some (tk,e)),.int _ i=>(match zcK P t c with
  | some (e',sz)=>bif Nat.beq e e' && Nat.beq (tcl tk) 0 && Z7 c && Nat.beq (tcl (dst.getD 0)) 0 && ro.fl && m.bx.all (fun B=>match B with | some B=>zbx B | none=>true) then
    (slc l 0 i).bind fun r=>Zg ro ⟨(m.sl.mapV (ZM tk)).mapV (zaY (dst.getD 0)),m.bx⟩ dst (.lst c r) (some (dst.getD 0,e)) k
   else none
  | none=>none)
 | _,_=>none
noncomputable def zrK (m:Mm) (s t:TypeId) (ss:Nat) (dst:Option Nat) (k:Mm->Option β):Option (Option β) :=
 match zV ro m ss with
 | (.lst .u8 l0,some (tk,e))=>bif Nat.beq (tcl tk) 0 && Nat.beq s t then (match l0 with
   | x :: l=>some (match zcK P t .u8,Zb P e with
    | some (e',sz),.int .u8=>bif Nat.beq e e' && ro.fl && m.bx.all (fun B=>match B with | some B=>zbx B | none=>true) then
      Zg ro ⟨m.sl.mapV (ZM tk),m.bx⟩ dst (.lst .u8 (x :: l)) none k
     else none
    | _,_=>none)
   | []=>none)
  else none
 | _=>none
noncomputable def zj7 (m:Mm) (ss:Nat) (x:S) (t u:TypeId) (dst:Option Nat) (k:Mm->Option β):Option β :=
 match zV ro m ss,qH P t,x with
 | (.lst c l,some (tk,e)),some e',.lst c' (y :: l2)=>(match zA P e,zaI P e,zb8 P e with
  | some sz,some by',some zv=>(match zb6 zv with
   | some zn=>bif Nat.beq e e' && Nat.blt (tcl tk) 2 && zgp P u && Nat.beq zn sz && Nat.beq (csz c) sz && !Nat.beq by' 0 && Nat.beq (tcl (dst.getD 0)) 0 then
     if h:c' = c then (app by' l (h ▸ (y :: l2):List (den c))).bind fun r=>Zg ro ⟨(m.sl.mapV (zaY tk)).mapV (zaY (dst.getD 0)),m.bx⟩ dst (.lst c r) (some (dst.getD 0,e)) k else none
    else none
   | none=>none)
  | _,_,_=>none)
 | _,_,_=>none
def zvq {α:Type} (l:List α) (i:Int) (z:α):Option (List α):=if 0 <= i/\i < l.length then some (l.take i.toNat++List.replicate (l.length - i.toNat) z) else none
noncomputable def zrL (o2 o3:Oper) (m:Mm) (k:Mm->Option β):Option β :=
 match o2.guard,o3.guard,o3.dst,o2.dst,o2.op with
 | none,none,none,some c,.slice t (.tmp ss) (some y) none none=>bif zod c t o3.op then (match zV ro m ss,zG ro m y with
  | (.lst cc l,some (tk,e)),.int _ i=>(match zcK P t cc,zb8 P e with
   | some (e',sz),some zv=>(match qW cc zv,zb6 zv with
    | some z,some zn=>bif Nat.beq e e' && Nat.beq (tcl tk) 0 && Nat.beq zn sz && Z7 cc && ro.fl && m.bx.all (fun B=>match B with | some B=>zbx B | none=>true) then
      (zvq l i z).bind fun r=>Zg ro ⟨m.sl.mapV (zaA tk (.lst cc r)),m.bx⟩ (some c) .any none k
     else none
    | _,_=>none)
   | _,_=>none)
  | _,_=>none) else none
 | _,_,_,_,_=>none
noncomputable def zhf {γ:Type} (A B:Option γ):Option γ:=open Classical in if A = B then B else none
noncomputable def ztm {α γ:Type} (l:List α) (A B:Option γ):Option γ:=match l with
 | []=>zhf A B
 | _ :: _=>B
noncomputable def znC (m:Mm) (op:BinOp) (t:TypeId) (x:S) (dst:Option Nat) (k:Mm->Option β):Option (Option β) :=
 match x,op,qH P t with
 | .lst _ l,.eql,some _=>some (ztm l (Zg ro m dst (.bool true) none k) (Zg ro m dst (.bool false) none k))
 | .lst _ l,.neq,some _=>some (ztm l (Zg ro m dst (.bool false) none k) (Zg ro m dst (.bool true) none k))
 | _,_,_=>none
noncomputable def zj8 (m:Mm) (t:TypeId) (mx x:S) (dst:Option Nat) (k:Mm->Option β):Option β :=
 match mx,zcF P t,dst with
 | .mref i,some (kt,_),none=>(match yj ro m i with
  | some (.map mt kc vc l)=>(match ckC kc,dq kc,keyT P kt with
   | some (ag,ks),some d,some (ag',ks')=>(match qW kc x with
    | some kk=>bif X.key kt && (ag == ag') && zjU ks ks' && ro.ownB i then
      (@zuu _ _ d (znt kc) l kk).bind fun l'=>k ⟨m.sl,m.bx.set i (some (.map mt kc vc l'))⟩ else none
    | _=>none)
   | _,_,_=>none)
  | _=>none)
 | _,_,_=>none
noncomputable def zj9 (m:Mm) (t:TypeId) (i:Nat) (dst:Option Nat) (k:Mm->Option β):Option β :=
 match zcF P t,yj ro m i with
 | some _,some (.map _ _ _ l)=>Zg ro m dst (.int .i64 l.length) none k
 | _,_=>none
noncomputable def zuE (o:Oper) (m:Mm) (k:Mm->Option β):Option (Option β) :=
 match o.op with
 | .indexAddr t (.tmp ss) ix=>bif (match o.dst with | some d=>Nat.testBit X.wr d | none=>false) then some (zj3 (P:=P) ro m t ss (zG ro m ix) o.dst k) else none
 | .fieldAddr s x fi=>(match zl8 ro m x with | some d0=>some (zj4 (P:=P) ro m s d0 fi o.dst k) | none=>none)
 | .load t x=>(match zl8 ro m x with | some d0=>some (znA (P:=P) ro m t d0 o.dst k) | none=>none)
 | .store t x y=>(match zl8 ro m x with | some d0=>some (zj6 (P:=P) ro m t d0 (zG ro m y) o.dst k) | none=>none)
 | .call { callee:=.value fo,args,.. }=>(match zG ro m fo with
  | .fn (.func f) first cap=>(match zfT X.owned f with
   | some Q=>some (zuB ro m Q (first++args.toList.map (zG ro m)++cap) o.dst k)
   | none=>(match first,zfS X.muts f with
   | [],some Q=>some (zuC ro m Q args.toList cap o.dst k)
   | _,_=>(match first,cap,args.toList with
    | [],[],[.tmp ss]=>(match zca X.sorts f none with | some Q=>some (zo3 ro m Q ss o.dst k) | none=>none)
    | [],[],[.tmp ss,y]=>(match zG ro m y with
     | .fn (.func g) [] []=>(match zca X.sorts f (some g) with | some Q=>some (zo3 ro m Q ss o.dst k) | none=>none)
     | _=>none)
    | _,_,_=>none)))
  | _=>none)
 | .slice t (.tmp ss) none (some y) none=>bif (match o.dst with | some d=>Nat.testBit X.wr d | none=>false) then some (zuD (P:=P) ro m t ss (zG ro m y) o.dst k) else none
 | .call { callee:=.builtin .append,args,argTypes }=>bif (match o.dst with | some d=>Nat.testBit X.wr d | none=>false) then (match args.toList,argTypes.toList with
  | [.tmp ss,x],[t,u]=>some (zj7 (P:=P) ro m ss (zG ro m x) t u o.dst k)
  | _,_=>none) else none
 | .convert s t (.tmp ss)=>zrK (P:=P) ro m s t ss o.dst k
 | .makeSlice t l c=>some (znB X ro m t (zG ro m l) (zG ro m c) o.dst k)
 | .binOp op t x (.const (.slice none 0 0)) _=>znC (P:=P) ro m op t (zG ro m x) o.dst k
 | .call { callee:=.builtin .delete,args,argTypes }=>(match args.toList,argTypes.toList with
  | [mx,x],[t,_]=>some (zj8 X ro m t (zG ro m mx) (zG ro m x) o.dst k)
  | _,_=>none)
 | .call { callee:=.builtin .len,args,argTypes }=>(match args.toList,argTypes.toList with
  | [mx],[t]=>(match zG ro m mx with
   | .mref i=>some (zj9 (P:=P) ro m t i o.dst k)
   | _=>none)
  | _,_=>none)
 | _=>none
noncomputable def znD (m:Mm) (t:TypeId) (dst:Option Nat) (k:Mm->Option β):Option β :=
 match zcF P t with
 | some (kt,et)=>(match X.code kt,X.code et with
  | some kc,some vc=>zfU ro m (.map t kc vc []) dst (.mref m.bx.length) k
  | _,_=>none)
 | none=>none
noncomputable def zka (m:Mm) (t:TypeId) (mx x:S) (ok:Bool) (K:S->Option β):Option β :=
 match mx,zcF P t with
 | .mref i,some (kt,et)=>(match yj ro m i with
  | some (.map _ kc vc l)=>(match ckC kc,dq kc,keyT P kt,zb8 P et with
   | some (ag,ks),some d,some (ag',ks'),some zv=>(match qW kc x,qW vc zv with
    | some k,some z=>bif X.key kt && (ag == ag') && zjU ks ks' then
      (@zth _ _ d (znt kc) l k).bind fun o=>K (bif ok then .tup [refl vc (o.getD z),.bool o.isSome] else refl vc (o.getD z)) else none
    | _,_=>none)
   | _,_,_,_=>none)
  | _=>none)
 | _,_=>none
noncomputable def zkb (m:Mm) (t:TypeId) (mx x y:S) (dst:Option Nat) (k:Mm->Option β):Option β :=
 match mx,zcF P t,dst with
 | .mref i,some (kt,_),none=>(match yj ro m i with
  | some (.map mt kc vc l)=>(match ckC kc,dq kc,keyT P kt with
   | some (ag,ks),some d,some (ag',ks')=>(match qW kc x,qW vc y with
    | some kk,some v=>bif X.key kt && (ag == ag') && zjU ks ks' && ro.ownB i then
      (@zti _ _ d (znt kc) l kk v).bind fun l'=>k ⟨m.sl,m.bx.set i (some (.map mt kc vc l'))⟩ else none
    | _,_=>none)
   | _,_,_=>none)
  | _=>none)
 | _,_,_=>none
noncomputable def opX (dr:Bool) (o:Oper) (m:Mm) (k:Mm->Option β):Option β :=
 match (bif dr then none else zuE X ro o m k) with
 | some r=>r
 | none =>
 match o.op with
 | .box e x=>ztl ro m e (zG ro m x) o.dst k
 | .alloc e=>(match zb8 P e with | some v=>ztl ro m e v o.dst k | none=>none)
 | .store t x y=>znz X ro m t (zG ro m x) (zG ro m y) o.dst k
 | .call { callee:=.builtin .append,args,argTypes }=>(match args.toList,argTypes.toList with
  | [.tmp ss,x],[t,u]=>zj2 (P:=P) ro m ss (zG ro m x) t u o.dst k
  | _,_=>none)
 | .call { callee:=.value f,args,.. }=>(match zG ro m f with
  | .fn (.func g) first cap=>zrI X ro dr m g (first++args.toList.map (zG ro m)++cap) o.dst k
  | _=>none)
 | .makeMap t none=>znD X ro m t o.dst k
 | .mapUpdate t mx x y=>zkb X ro m t (zG ro m mx) (zG ro m x) (zG ro m y) o.dst k
 | .lookup t mx x ok=>zka X ro m t (zG ro m mx) (zG ro m x) ok fun v=>zo2 ro m dr o v none k
 | _=>zrH P X.code ro m o fun v tk=>zo2 ro m dr o v tk k
noncomputable def Y8 (m:Mm) (x:Operand) (b:Bool):Mm :=
 match x with
 | .tmp t=>bif ro.own t then ⟨m.sl.set t (.bool b,(zV ro m t).2),m.bx⟩ else m
 | _=>m
noncomputable def gdX (ds:List (Option Nat)) (m:Mm) (g:Option (Nat × Bool)) (A B:Mm->Option β):Option β :=
 match g with
 | none=>A m
 | some (j,want)=>(match ds[j]? with
  | some (some d)=>(match (zV ro m d).1 with
   | .bool b=>br b (bif want then A (Y8 ro m (.tmp d) true) else B (Y8 ro m (.tmp d) true)) (bif want then B (Y8 ro m (.tmp d) false) else A (Y8 ro m (.tmp d) false))
   | .un=>B m
   | _=>none)
  | _=>B m)
def zcu (o:Oper):Bool:=match o.guard with
 | none=>true
 | some _=>false
structure zuF where
 t:TypeId
 op:BinOp
 s:Nat
 r:Nat
 c:Int
 d2:Nat
 d3:Nat
 d4:Nat
 d5:Nat
def znE (dr:Bool) (o2:Oper) (os:List Oper):Option zuF :=
 match o2.op with
 | .lookup t (.tmp s) (.tmp r) false=>(match os with
  | [o3,o4,o5,o6]=>(match o4.op with
   | .mapEntry t' (.tmp s') (.tmp r')=>(match o3.op with
    | .binOp op _ (.tmp a2) (.const (.int .i64 c)) _=>(match o5.op with
     | .extract (.tmp a4) i=>(match o6.op with
      | .entryStore t'' (.tmp s'') (.tmp a5) (.tmp a3)=>(match o2.dst,o3.dst,o4.dst,o5.dst,o6.dst with
       | some d2,some d3,some d4,some d5,none =>
        bif dr && (zcu o2 && zcu o3 && zcu o4 && zcu o5 && zcu o6) && (Nat.beq t' t && Nat.beq t'' t && Nat.beq s' s && Nat.beq s'' s && Nat.beq r' r && Nat.beq a2 d2 && Nat.beq a3 d3 && Nat.beq a4 d4 && Nat.beq a5 d5 && Nat.beq i 1) &&
         (!Nat.beq d2 d3 && !Nat.beq d2 d4 && !Nat.beq d2 d5 && !Nat.beq d3 d4 && !Nat.beq d3 d5 && !Nat.beq d4 d5) && (!Nat.beq s d2 && !Nat.beq s d3 && !Nat.beq s d4 && !Nat.beq s d5) && (!Nat.beq r d2 && !Nat.beq r d3 && !Nat.beq r d4 && !Nat.beq r d5) then
         some ⟨t,op,s,r,c,d2,d3,d4,d5⟩ else none
       | _,_,_,_,_=>none)
      | _=>none)
     | _=>none)
    | _=>none)
   | _=>none)
  | _=>none)
 | _=>none
def arX (op:BinOp) (a b:Int):Option Int:=match op with
 | .add=>zD .i64 a b
 | .sub=>Z9 .i64 a b
 | _=>none
noncomputable def zuG (m:Mm) (q:zuF) (k:Mm->Option β):Option β :=
 match zG ro m (.tmp q.s),zcF P q.t with
 | .mref i,some (kt,et)=>(match yj ro m i with
  | some (.map mt kc .i64 l)=>(match ckC kc,dq kc,keyT P kt,zb8 P et with
   | some (ag,ks),some d,some (ag',ks'),some zv=>(match qW kc (zG ro m (.tmp q.r)),qW .i64 zv with
    | some kk,some z=>bif X.key kt && (ag == ag') && zjU ks ks' && ro.ownB i then
      (@zth _ _ d (znt kc) l kk).bind fun o=>(arX q.op (o.getD z) q.c).bind fun y=>(@zti _ _ d (znt kc) l kk y).bind fun l' =>
       Zg ro ⟨m.sl,m.bx.set i (some (.map mt kc .i64 l'))⟩ (some q.d2) (.int .i64 (o.getD z)) none fun m=>Zg ro m (some q.d3) (.int .i64 y) none fun m=>Zg ro m (some q.d4) .any none fun m=>Zg ro m (some q.d5) .any none k else none
    | _,_=>none)
   | _,_,_,_=>none)
  | _=>none)
 | _,_=>none
noncomputable def znF (dr:Bool) (ds:List (Option Nat)):List Oper->Mm->(Mm->Option β)->Option β
 | [],m,k=>k m
 | o :: os,m,k=>match znE dr o os with
  | some q=>zuG X ro m q k
  | none=>gdX ro ds m o.guard (fun m=>opX X ro dr o m fun m'=>znF dr ds os m' k) (fun m=>Zg ro m o.dst .un none fun m'=>znF dr ds os m' k)
noncomputable def zo4 (o:Oper) (m:Mm) (k:Mm->Option β):Option β :=
 match o.op with
 | .move x=>Zg ro m o.dst (zG ro m x) (ztg ro m x) k
 | .binOp .add _ x y _=>(match zG ro m x,zG ro m y with
  | .int k1 a,.int k2 b=>if k1 = k2 then (zD k1 a b).bind fun n=>Zg ro m o.dst (.int k1 n) none k else none
  | _,_=>none)
 | .binOp .sub _ x y _=>(match zG ro m x,zG ro m y with
  | .int k1 a,.int k2 b=>if k1 = k2 then (Z9 k1 a b).bind fun n=>Zg ro m o.dst (.int k1 n) none k else none
  | _,_=>none)
 | .indexAddr t x i=>(match zG ro m x,zG ro m i with
  | .lst c l,.int _ i=>(match zcK P t c with
   | some _=>(idx l i).bind fun x=>Zg ro m o.dst (.elt (Ze (refl c x)) 0) none k
   | none=>none)
  | _,_=>none)
 | .slice t x lo hi none=>(match zG ro m x with
  | .lst c l=>zjX P ro m t (.lst c l) lo hi none o.dst fun v tk=>Zg ro m o.dst v tk k
  | _=>none)
 | _=>none
noncomputable def zrM (o o':Oper) (m:Mm) (k:Mm->Option β):Option β :=
 match o.op,o'.op with
 | .load t x,.load t' x'=>zl3 P X.code ro m t (zG ro m x) fun v=>zl3 P X.code ro m t' (zG ro m x') fun u=>Zg ro m o.dst v none fun m=>Zg ro m o'.dst u none k
 | _,_=>none
noncomputable def zo5:List Oper->Mm->(Mm->Option β)->Option β
 | [],_,_=>none
 | o :: os,m,k=>match os with
  | []=>none
  | [o3]=>zrL (P:=P) ro o o3 m k
  | _=>(match o.guard with | none=>opX X ro false o m fun m'=>zo5 os m' k | some _=>none)
noncomputable def ztn {γ:Type} (f:Nat->Option γ):List Nat->Option γ
 | []=>none
 | j :: l=>match l with
  | []=>f j
  | _=>zhf (f j) (ztn f l)
noncomputable def zdT (ops:Array Oper) (ds:List (Option Nat)):Nat->Array Bool->Mm->(Mm->Option β)->Option β
 | 0,listed,m,k=>(match Region.ready .any ops listed with | []=>k m | _=>none)
 | fuel + 1,listed,m,k=>(match Region.ready .any ops listed with
  | []=>k m
  | i :: is=>(match (i :: is).find? (zdm ops listed) with
   | some j=>(match ops[j]? with
    | some o=>zo4 (P:=P) ro o m fun m'=>zdT ops ds fuel (listed.setIfInBounds j true) m' k
    | none=>none)
   | none=>ztn (fun j=>match ops[j]? with
    | some o=>gdX ro ds m o.guard (fun m=>opX X ro false o m fun m'=>zdT ops ds fuel (listed.setIfInBounds j true) m' k) (fun m=>Zg ro m o.dst .un none fun m'=>zdT ops ds fuel (listed.setIfInBounds j true) m' k)
    | none=>none) (i :: is)))
noncomputable def zkc (ops:Array Oper) (ds:List (Option Nat)):List (Nat × Nat)->Mm->(Mm->Option β)->Option β
 | [],m,k=>k m
 | (i,t) :: l,m,k=>match ops[i]? with
  | none=>none
  | some o=>match t with
   | 1=>zo4 (P:=P) ro o m fun m'=>zkc ops ds l m' k
   | j + 2=>(match ops[j]? with
    | some o'=>zrM X ro o o' m fun m'=>zkc ops ds l m' k
    | none=>none)
   | 0=>gdX ro ds m o.guard (fun m=>opX X ro false o m fun m'=>zkc ops ds l m' k) (fun m=>Zg ro m o.dst .un none fun m'=>zkc ops ds l m' k)
end
inductive Yt (σ ρ:Type) where
 | next (s:σ)
 | done (r:ρ)
def zby {σ ρ:Type} (F:σ->Option (Yt σ ρ)):Nat->σ->Option ρ
 | 0,_=>none
 | n + 1,s=>match F s with
  | some (.next s')=>zby F n s'
  | some (.done r)=>some r
  | none=>none
open Classical in
noncomputable def qg {σ ρ:Type} (F:σ->Option (Yt σ ρ)) (s:σ):Option ρ :=
 if h:∃ r n,zby F n s = some r then some h.choose else none
inductive LV where
 | slot (s:Nat) (c:C) (tk:Tk)
 | box (i:Nat) (c:C)
 | mapb (i:Nat) (kc vc:C)
@[reducible] def LV.ty:LV->Type
 | .slot _ c _=>den c
 | .box _ c=>den c
 | .mapb _ kc vc=>List (den kc × den vc)
@[reducible] def zhV:List LV->Type
 | []=>Unit
 | [v]=>v.ty
 | v :: w :: vs=>v.ty × zhV (w :: vs)
def zuH:Tk->Tk->Bool
 | none,_=>true
 | some (t,e),some (t',e')=>Nat.beq t t' && Nat.beq e e'
 | some _,none=>false
def zo6 (B:Option qr):TypeId:=match B with
 | some (.cells _ ty)=>ty
 | some (.map mt _ _ _)=>mt
 | none=>0
noncomputable def zeC (old:Nat->Option qr) (ro:RO) (m:Mm):(v:LV)->Option v.ty
 | .slot s c tk=>bif zuH tk (zV ro m s).2 then qW c (zV ro m s).1 else none
 | .box i c=>(match yj ro m i with
  | some (.cells cs ty)=>bif Nat.beq ty (zo6 (old i)) then (match qW c (.agg cs) with
   | some y=>some y
   | none=>(match cs with
    | [.agg _]=>none
    | [x]=>qW c x
    | _=>none)) else none
  | _=>none)
 | .mapb i kc vc=>(match yj ro m i with | some (.map mt kc' vc' l)=>bif Nat.beq mt (zo6 (old i)) then (if h:kc' = kc/\vc' = vc then some (h.1 ▸ h.2 ▸ l) else none) else none | _=>none)
noncomputable def zcb (old:Nat->Option qr) (ro:RO) (m:Mm):(L:List LV)->Option (zhV L)
 | []=>some ()
 | [v]=>zeC old ro m v
 | v :: w :: vs=>match zeC old ro m v,zcb old ro m (w :: vs) with
  | some x,some y=>some (x,y)
  | _,_=>none
noncomputable def ZI (old:Nat->Option qr) (m:Mm):(v:LV)->v.ty->Mm
 | .slot s c tk,x=>⟨m.sl.set s (refl c x,tk),m.bx⟩
 | .box i c,x=>⟨m.sl,m.bx.set i (some (.cells (Ze (refl c x)) (zo6 (old i))))⟩
 | .mapb i kc vc,x=>⟨m.sl,m.bx.set i (some (.map (zo6 (old i)) kc vc x))⟩
noncomputable def Ya (old:Nat->Option qr) (m:Mm):(L:List LV)->zhV L->Mm
 | [],_=>m
 | [v],x=>ZI old m v x
 | v :: w :: vs,x=>Ya old (ZI old m v x.1) (w :: vs) x.2
inductive EX where
 | exit (id:Nat) | ret
 deriving DecidableEq
def EX.of:Exit->Option EX
 | .exit id=>some (.exit id)
 | .ret=>some .ret
 | _=>none
def EX.to:EX->Exit
 | .exit id=>.exit id
 | .ret=>.ret
def EX.beq:EX->EX->Bool
 | .exit i,.exit j=>Nat.beq i j
 | .ret,.ret=>true
 | _,_=>false
@[reducible] def zrN:List (EX × List LV)->Type
 | []=>Empty
 | [e]=>zhV e.2
 | e :: f :: es=>zhV e.2 ⊕ zrN (f :: es)
noncomputable def zcv (old:Nat->Option qr) (ro:RO) (m:Mm) (ex:EX):(es:List (EX × List LV))->Option (zrN es)
 | []=>none
 | [e]=>bif e.1.beq ex then zcb old ro m e.2 else none
 | e :: f :: es=>bif e.1.beq ex then (match zcb old ro m e.2 with | some x=>some (.inl x) | none=>none) else (match zcv old ro m ex (f :: es) with | some x=>some (.inr x) | none=>none)
noncomputable def zcc {β:Type} (old:Nat->Option qr) (m:Mm) (k:Exit->Mm->Option β):(es:List (EX × List LV))->zrN es->Option β
 | [],x=>none
 | [e],x=>k e.1.to (Ya old m e.2 x)
 | e :: f :: es,x=>Sum.elim (fun y=>k e.1.to (Ya old m e.2 y)) (fun y=>zcc old m k (f :: es) y) x
inductive Ann where
 | no
 | sch
 | full
 | two (a b:Ann)
 | loop (ds bs:List Nat) (L:List LV) (es:List (EX × List LV)) (a:Ann)
def Ann.l:Ann->Ann
 | .two a _=>a
 | a=>.no
def Ann.r:Ann->Ann
 | .two _ b=>b
 | a=>.no
def Ann.isSch:Ann->Bool
 | .sch=>true
 | _=>false
def Ann.isFull:Ann->Bool
 | .full=>true
 | _=>false
def zkd (l:List Nat):Nat:=l.foldl (fun a s=>a ||| (1 <<< s)) 0
def qu:List LV->Nat->Bool
 | [],_=>false
 | .slot _ _ _ :: L,i=>qu L i
 | .box j _ :: L,i=>Nat.beq j i || qu L i
 | .mapb j _ _ :: L,i=>Nat.beq j i || qu L i
def Qx:List LV->List Nat
 | []=>[]
 | .slot _ _ _ :: L=>Qx L
 | .box j _ :: L=>j :: Qx L
 | .mapb j _ _ :: L=>j :: Qx L
noncomputable def znG (sl:T (S × Tk)):List Nat->T (S × Tk)
 | []=>sl
 | s :: ss=>znG (sl.set s (.any,none)) ss
def ZC (mu:Bool) (x:S × Tk):S × Tk :=
 match x.2 with
 | some (t,e)=>bif Nat.beq (tcl t) 2 then x else bif !mu || qA x.1 then (x.1,none) else (.any,none)
 | none=>bif !mu || qA x.1 then x else (.any,none)
noncomputable def Ym (mu:Bool) (ro:RO) (m:Mm) (ds bs:List Nat):RO :=
 { all:=false,mask:=zkd ds,sl:=fun s=>ZC mu (zV ro m s),nb:=m.bx.length,bmask:=zkd bs,bx:=fun i=>yj ro m i,
   fl:=mu && (List.range m.bx.length).all (fun i=>match yj ro m i with | some B=>zbx B | none=>true) }
def inD (ds:List (Option Nat)) (t:Nat):Bool:=ds.any (fun d=>match d with | some d=>Nat.beq d (t % 1000000) | none=>false)
def zhW (ds:List (Option Nat)) (x:S × Tk):S × Tk:=match x.2 with
 | some (t,_)=>bif Nat.blt (tcl t) 2 && inD ds t then (x.1,none) else x
 | none=>x
noncomputable def za1 {P:Program} (X:zc6 P):Code->Ann->RO->Mm->{β:Type}->(Exit->Mm->Option β)->Option β
 | .skip,_,_,m,_,k=>k .normal m
 | .label _,_,_,m,_,k=>k .normal m
 | .region _ ops dr,a,ro,m,_,k=>bif dr && a.isFull then zdT X ro ops (ops.toList.map (·.dst)) ops.size (Array.replicate ops.size false) m (k .normal) else bif dr && a.isSch then (match zqH ops with
  | some l=>zkc X ro ops (ops.toList.map (·.dst)) l m (k .normal)
  | none=>none) else bif a.isSch then zo5 X ro ops.toList m (k .normal) else znF X ro dr (ops.toList.map (·.dst)) ops.toList (bif dr then ⟨m.sl.mapV (zhW ((ops.toList.filter Q5).map (·.dst))),m.bx⟩ else m) (k .normal)
 | .seq x y,a,ro,m,_,k=>za1 X x a.l ro m fun ex m'=>match ex with
  | .normal=>za1 X y a.r ro m' k
  | e=>k e m'
 | .cond c x y,a,ro,m,_,k=>(match zG ro m c with
  | .bool b=>br b (za1 X x a.l ro (Y8 ro m c true) k) (za1 X y a.r ro (Y8 ro m c false) k)
  | _=>none)
 | .block id x,a,ro,m,_,k=>za1 X x a ro m fun ex m'=>match ex with
  | .exit id'=>bif Nat.beq id' id then k .normal m' else k (.exit id') m'
  | e=>k e m'
 | .exit id,_,_,m,_,k=>k (.exit id) m
 | .ret,_,_,m,_,k=>k .ret m
 | .loop x,.loop ds bs L es a,ro,m,_,k =>
  bif ds.all ro.own && bs.all ro.ownB && bs.all (fun i=>Nat.blt i m.bx.length) && bs.all (qu L) && es.all (fun e=>bs.all (qu e.2)) && Nat.ble ro.nb m.bx.length && (Qx L).all (fun i=>bs.any (Nat.beq i)) && es.all (fun e=>(Qx e.2).all (fun i=>bs.any (Nat.beq i))) then
   (match zcb (yj ro m) ro m L with
   | some v=>(qg (σ:=zhV L) (ρ:=zrN es) (fun v=>za1 X x a (Ym (!Nat.beq X.wr 0) ro m ds bs) (Ya (yj ro m) ⟨.nil,List.replicate m.bx.length none⟩ L v) fun ex m'=>match ex with
     | .normal=>(match zcb (yj ro m) (Ym (!Nat.beq X.wr 0) ro m ds bs) m' L with | some w=>some (.next w) | none=>none)
     | ex=>(match EX.of ex with
      | some ex=>(match zcv (yj ro m) (Ym (!Nat.beq X.wr 0) ro m ds bs) m' ex es with | some w=>some (.done w) | none=>none)
      | none=>none)) v).bind fun w =>
      zcc (yj ro m) ⟨znG (m.sl.mapV (ZC (!Nat.beq X.wr 0))) ds,m.bx⟩ k es w
   | none=>none)
  else none
 | _,_,_,_,_,_=>none
def qK:RO:={ all:=true,mask:=0,sl:=fun _=>(.any,none),nb:=0,bmask:=0,bx:=fun _=>none,fl:=true }
noncomputable def Qs:Nat->List S->T (S × Tk)
 | _,[]=>.nil
 | n,s :: ss=>(Qs (n + 1) ss).set n (s,some (2000000,0))
noncomputable def znH {P:Program} (m:Mm):List ResultVar->Option (List S)
 | []=>some []
 | r :: rs=>match (match r with
   | .tmp t=>some (zV qK m t).1
   | .cell a t=>(match (zV qK m a).1 with
    | .loc i off=>(match yj qK m i,Zt P t with
     | some (.cells cs ty),some true=>(match zA P t with | some n=>bif Nat.blt ty 1000000000 && Nat.ble (off + n) cs.length then some (.agg ((cs.drop off).take n)) else none | none=>none)
     | some (.cells cs ty),some false=>bif Nat.blt ty 1000000000 then cs[off]? else none
     | _,_=>none)
    | _=>none)),znH (P:=P) m rs with
  | some v,some vs=>some (v :: vs)
  | _,_=>none
noncomputable def zhg (m:Mm):Nat->Nat->Option (List qr)
 | _,0=>some []
 | i,n + 1=>match yj qK m i,zhg m (i + 1) n with
  | some B,some bs=>bif zb9 B then some (B :: bs) else none
  | _,_=>none
noncomputable def zrO {P:Program} (X:zc6 P) (rs:List ResultVar) (c:Code) (a:Ann) (args:List S) (ins:List qr) {β:Type} (K:S->List qr->Option β):Option β :=
 za1 X c a qK ⟨Qs 0 args,ins.map some⟩ fun ex m=>match (match ex with | .ret | .normal=>true | _=>false),znH (P:=P) m rs,zhg m 0 ins.length with
  | true,some [v],some outs=>bif yM v then K v outs else none
  | true,some vs,some outs=>bif qX vs then K (.tup vs) outs else none
  | _,_,_=>none
noncomputable def zvr {P:Program} (X:zc6 P) (rs:List ResultVar) (c:Code) (a:Ann) (args:List S) (cc:C) (e:TypeId):Option (List (den cc)) :=
 za1 X c a qK ⟨Qs 0 args,[]⟩ fun ex m=>match (match ex with | .ret | .normal=>true | _=>false),rs with
  | true,[.tmp s]=>(match zV qK m s with
   | (.lst c' l,some (t,e'))=>bif Nat.beq (tcl t) 0 && Nat.beq e' e then (if h:c' = cc then some (h ▸ l:List (den cc)) else none) else none
   | (.rows [],some (t,e'))=>bif Nat.beq (tcl t) 0 && Nat.beq e' e then some [] else none
   | _=>none)
  | _,_=>none
end Go.X
namespace Go.X
open Go.Eng
open Go.RowKit
theorem yp {α:Type} {c:Bool} {a:Option α} {r:α} (h:(bif c then a else none) = some r):c = true/\a = some r:=by
 cases c
 ·cases h
 ·exact ⟨rfl,h⟩
theorem brS {α:Type} {b:Bool} {x y:Option α} {r:α} (h:br b x y = some r):(b = true/\x = some r) ∨ (b = false/\y = some r):=by
 cases b
 ·exact .inr ⟨rfl,h⟩
 ·exact .inl ⟨rfl,h⟩
theorem zbB {α:Type} {c:Prop} [Decidable c] {a:Option α} {r:α} (h:(if c then a else none) = some r):c/\a = some r:=by
 split at h
 ·exact ⟨‹_›,h⟩
 ·cases h
theorem y9 (cs:List S):(zj cs).length = cs.length:=by rw [Z8]; simp
theorem za2 (cs:List S) (n:Nat):zj (cs.drop n) = (zj cs).drop n:=by simp [Z8,List.map_drop]
theorem za3 (cs:List S) (n:Nat):zj (cs.take n) = (zj cs).take n:=by simp [Z8,List.map_take]
theorem qY (cs ds:List S):zj (cs++ds) = zj cs++zj ds:=by simp [Z8]
theorem Y9 (cs:List S) (n:Nat):(zj cs)[n]? = (cs[n]?).map toV:=by simp [Z8]
theorem QF (cs:List S) (o n:Nat):zj ((cs.drop o).take n) = ((zj cs).drop o).take n:=by rw [za3,za2]
theorem zhh (v:Value):toV (zhc v) = Qn v:=by
 unfold zhc
 split
 case h_3 =>
  simp only [Qn]
  rename_i s
  by_cases hc:s.size <= maxLen
  ·rw [if_pos hc,Nat.ble_eq_true_of_le hc]; simp [toV]
  ·have:Nat.ble s.size maxLen = false:=by
    cases hb:Nat.ble s.size maxLen
    ·rfl
    ·exact absurd (zvK hb) hc
   rw [if_neg hc,this]; simp [toV]
 all_goals first
  | (simp [Qn,toV,zj]; done)
  | (unfold Qn; split <;> simp_all [toV,zj])
theorem zeD (v:Value):toV (zbf v) = qO v:=by
 unfold zbf
 split
 ·rename_i cs
  simp only [qO]
  by_cases h:cs.toList.all (fun x=>x.oneCell') = true
  ·rw [if_pos h,h]; simp only [cond_true,toV,Z8,List.map_map]
   congr 1
   exact List.map_congr_left fun x _=>zhh x
  ·rw [if_neg h]
   rw [Bool.not_eq_true] at h
   rw [h]; simp [toV]
 ·simp only [qO,toV,Z8,List.map_map]
  congr 1
  exact List.map_congr_left fun x _=>zhh x
 ·rename_i h1 h2
  rw [zhh]
  cases v <;> first | rfl | (exact absurd rfl (h1 _)) | (exact absurd rfl (h2 _))
theorem zfd (vs:List Value):zj (vs.map zbf) = vs.map qO:=by
 rw [Z8,List.map_map]
 exact List.map_congr_left fun x _=>zeD x
theorem zq (ro:RO) (m:Mm) (x:Operand):toV (zG ro m x) = (za ro m).eval x:=by
 cases x with
 | tmp t=>rfl
 | const v=>exact zeD v
 | global g =>
  simp only [zG,toV,St.eval]
  cases GL g <;> rfl
 | func f=>simp [zG,toV,zj,St.eval]
theorem zcd (ro:RO) (m:Mm) (xs:List Operand):zj (xs.map (zG ro m)) = xs.map (za ro m).eval:=by
 rw [Z8,List.map_map]
 exact List.map_congr_left fun x _=>zq ro m x
theorem znI (ro:RO) (m:Mm) (x:Operand):ztg ro m x = (za ro m).tokOf x:=by
 cases x <;> rfl
theorem zrP (x:IV):(zah x).csize = some 1:=by cases x <;> rfl
theorem zcw (x:IV):(zah x).cellsL = [zah x]:=by cases x <;> rfl
theorem zaj {s:S} {n:Nat} (h:zb6 s = some n):(toV s).csize = some n:=by
 cases s <;> simp only [zb6,zvL,reduceCtorEq] at h <;> subst h <;> first | (simp only [toV]; exact zrP _) | simp [toV,V.csize,y9]
theorem za4 {s:S} {n:Nat} (h:zb6 s = some n):zj (Ze s) = (toV s).cellsL:=by
 cases s <;> simp only [zb6,zvL,reduceCtorEq] at h <;> first | (simp only [toV,zj,Ze]; exact (zcw _).symm) | simp [toV,zj,V.cellsL,Ze]
theorem zrQ (c:C) (x:den c):zb6 (refl c x) = some (csz c):=by
 cases c <;> rfl
theorem Qt (c:C) (x:den c):zj (Ze (refl c x)) = (enc c x).cellsL:=by
 rw [za4 (zrQ c x),qJ]
theorem zaB (c:C) (x:den c):yM (refl c x) = true:=by
 cases c <;> rfl
theorem zbh (v:Value):(Qn v).noLoc = true:=by
 unfold Qn
 split <;> try (simp [V.noLoc,V.noLocL]; done)
 split <;> simp [V.noLoc]
theorem zcx {l:List V} (h:∀ v ∈ l,v.noLoc = true):V.noLocL l = true:=by
 induction l with
 | nil=>rfl
 | cons x l ih=>simp [V.noLocL,h x (by simp),ih fun v hv=>h v (by simp [hv])]
theorem zke (v:Value):(qO v).noLoc = true:=by
 unfold qO
 split
 ·split
  ·simp only [V.noLoc]
   refine zcx fun v hv=>?_
   obtain ⟨x,_,rfl⟩:=List.mem_map.1 hv
   exact zbh x
  ·rfl
 ·simp only [V.noLoc]
  refine zcx fun v hv=>?_
  obtain ⟨x,_,rfl⟩:=List.mem_map.1 hv
  exact zbh x
 ·exact zbh _
theorem ziS (g off:Nat):(toV (.gel g off)).noLoc = true:=by
 simp only [toV]
 split
 ·simp only [V.noLoc]
  refine zcx fun v hv=>?_
  obtain ⟨x,_,rfl⟩:=List.mem_map.1 hv
  exact zke x
 ·rfl
mutual
theorem zdU:∀ s:S,yM s = true->(toV s).noLoc = true
 | .any,_=>by simp [toV,V.noLoc]
 | .un,_=>by simp [toV,V.noLoc]
 | .int _ _,_=>by simp [toV,V.noLoc]
 | .bool _,_=>by simp [toV,V.noLoc]
 | .str _,_=>by simp [toV,V.noLoc]
 | .agg cs,h=>by simp only [yM] at h; simp only [toV,V.noLoc]; exact ZO cs h
 | .tup cs,h=>by simp only [yM] at h; simp only [toV,V.noLoc]; exact ZO cs h
 | .loc _ _,h=>by simp [yM] at h
 | .loco _ _ _ _,h=>by simp [yM] at h
 | .elt cs _,h=>by simp only [yM] at h; simp only [toV,V.noLoc]; exact ZO cs h
 | .gel g off,_=>ziS g off
 | .nilp,_=>by simp [toV,V.noLoc]
 | .lst c l,_=>by simp only [toV,V.noLoc]; exact yR (YP c) l
 | .rows vs,h=>by simp only [yM] at h; simp only [toV,V.noLoc]; exact ZO vs h
 | .fn _ a b,h=>by
  simp only [yM,zvI] at h; simp only [toV,V.noLoc,zvI]
  exact ⟨ZO a h.1,ZO b h.2⟩
 | .nilfn,_=>by simp [toV,V.noLoc]
 | .iface _ v,h=>by simp only [yM] at h; simp only [toV,V.noLoc]; exact zdU v h
 | .nilif,_=>by simp [toV,V.noLoc]
 | .mref _,h=>by simp [yM] at h
 | .nilm,_=>by simp [toV,V.noLoc]
 | .ptr _ _ _,_=>by simp [toV,V.noLoc]
 | .ivd x,_=>by simp only [toV]; exact zdO x
theorem ZO:∀ cs:List S,qX cs = true->V.noLocL (zj cs) = true
 | [],_=>by simp [zj,V.noLocL]
 | c :: cs,h=>by
  simp only [qX,zvI] at h
  simp only [zj,V.noLocL,zvI]
  exact ⟨zdU c h.1,ZO cs h.2⟩
end
theorem zhi {kc vc:C} (l:List (den kc × den vc)):V.noLocL (zaa (enc kc) (enc vc) l) = true:=by
 refine zcx fun v hv=>?_
 obtain ⟨x,_,rfl⟩:=List.mem_map.1 hv
 simp [V.noLoc,V.noLocL,YP]
theorem zdV {B:qr} (h:zb9 B = true):V.noLocL (yc B).cells = true:=by
 cases B with
 | cells cs ty=>exact ZO cs h
 | map mt kc vc l=>exact zhi l
theorem zl9 {ro:RO} {m:Mm} {d:Nat} {v:S} {tk:Tk} (ho:ro.own d = true):za ro ⟨m.sl.set d (v,tk),m.bx⟩ = (za ro m).put (some d) (toV v) tk:=by
 have hb:∀ i,yj ro ⟨m.sl.set d (v,tk),m.bx⟩ i = yj ro m i:=fun i=>rfl
 have hs:∀ s,zV ro ⟨m.sl.set d (v,tk),m.bx⟩ s = if s = d then (v,tk) else zV ro m s:=by
  intro s
  unfold zV
  by_cases h:s = d
  ·subst h; rw [ho,if_pos rfl]; simp [T.get_set]
  ·rw [if_neg h]; simp [T.get_set,h]
 unfold za St.put
 simp only [hb,hs]
 congr 1
 funext s
 unfold upd
 split <;> rfl
variable {β:Type}
theorem zz {ro:RO} {m:Mm} {dst:Option Nat} {v:S} {tk:Tk} {k:Mm->Option β} {r:β} (h:Zg ro m dst v tk k = some r) :
  ∃ m',(za ro m).put dst (toV v) tk = za ro m'/\k m' = some r:=by
 unfold Zg at h
 split at h
 ·exact ⟨m,rfl,h⟩
 ·rename_i d
  obtain ⟨h1,h2⟩:=yp h
  exact ⟨_,(zl9 h1).symm,h2⟩
section
variable {P:Program} {code:TypeId->Option C} {ro:RO} {m:Mm} {r:β} {K:S->Option β} {Kp:V->Prop} {K2:S->Tk->Option β} {K2p:V->Tk->Prop}
theorem ziT {k:IntKind} {a b n:Int} (h:zD k a b = some n):InR k (a + b)/\n = a + b:=by
 obtain ⟨h1,h2⟩:=zbB h; cases h2; exact ⟨h1,rfl⟩
theorem zeE {k:IntKind} {a b n:Int} (h:Z9 k a b = some n):InR k (a - b)/\n = a - b:=by
 obtain ⟨h1,h2⟩:=zbB h; cases h2; exact ⟨h1,rfl⟩
theorem zpW {k:IntKind} {a b n:Int} (h:zbA k a b = some n):InR k (a * b)/\n = a * b:=by
 obtain ⟨h1,h2⟩:=zbB h; cases h2; exact ⟨h1,rfl⟩
theorem zpX {k:IntKind} {a b n:Int} (h:zez k a b = some n):(b ≠ 0/\InR k (a.tdiv b))/\n = a.tdiv b:=by
 obtain ⟨h1,h2⟩:=zbB h; cases h2; exact ⟨h1,rfl⟩
theorem zpY {a b n:Int} (h:zhU a b = some n):b ≠ 0/\n = a.tmod b:=by
 obtain ⟨h1,h2⟩:=zbB h; cases h2; exact ⟨h1,rfl⟩
theorem zpZ {s t n:List UInt8} (h:qQ s t = some n):s.length + t.length <= maxLen/\n = s++t:=by
 obtain ⟨h1,h2⟩:=zbB h; cases h2; exact ⟨h1,rfl⟩
theorem Qa {α:Type} {l q:List α} {lo hi:Int} (h:slc l lo hi = some q):(0 <= lo/\lo <= hi/\hi <= l.length)/\q = (l.take hi.toNat).drop lo.toNat:=by
 obtain ⟨h1,h2⟩:=zbB h; cases h2; exact ⟨h1,rfl⟩
theorem zak {α:Type} {l:List α} {i:Int} {x:α} (h:idx l i = some x):0 <= i/\i < l.length/\l[i.toNat]? = some x:=by
 obtain ⟨h1,h2⟩:=zbB h
 have:=(List.getElem?_eq_some_iff.1 h2).1
 exact ⟨h1,by omega,h2⟩
theorem za5 {c:C}:∀ {ss:List S} {l:List (den c)},zaz c ss = some l->zj ss = l.map (enc c)
 | [],l,h=>by simp only [zaz,zvL] at h; subst h; simp [zj]
 | s :: ss,l,h=>by
  simp only [zaz] at h
  split at h
  ·rename_i x hx
   split at h
   ·rename_i xs hxs
    cases h
    simp only [zj,List.map_cons,yy hx,za5 hxs]
   ·cases h
  ·cases h
theorem zeF {c:C} {g off n:Nat} {x:den c} (h:zjV c g off n = some x):∃ vs,GL g = some vs/\off + n <= vs.length/\V.agg (((vs.map qO).drop off).take n) = enc c x:=by
 unfold zjV at h
 split at h
 ·rename_i vs hg
  obtain ⟨h1,h2⟩:=zbB h
  refine ⟨vs,hg,h1,?_⟩
  rw [<- yy h2]
  simp only [toV,QF,zfd]
 ·cases h
theorem zp0 {c:C} {g off:Nat} {x:den c} (h:zpV c g off = some x):∃ vs,GL g = some vs/\(vs.map qO)[off]? = some (enc c x):=by
 unfold zpV at h
 split at h
 ·rename_i vs hg
  split at h
  ·rename_i s hs
   refine ⟨vs,hg,?_⟩
   rw [<- zfd,Y9,hs,Option.map_some,yy h]
  ·cases h
 ·cases h
theorem zce {t:TypeId} {x:S} (hK:∀ s,K s = some r->Kp (toV s)) (h:zl3 P code ro m t x K = some r):YT P t (za ro m).box (toV x) Kp:=by
 unfold zl3 at h
 split at h
 ·rename_i cs off ha
  split at h
  ·rename_i n hs
   obtain ⟨h1,h2⟩:=yp h
   simp only [toV,YT,ha,hs]
   refine ⟨by rw [y9]; exact zvK h1,?_⟩
   have:=hK _ h2
   simpa only [toV,QF] using this
  ·cases h
 ·rename_i cs off ha
  split at h
  ·rename_i c hc
   simp only [toV,YT,ha,Y9,hc,Option.map_some]
   exact hK _ h
  ·cases h
 ·rename_i i off ha
  split at h
  ·rename_i cs ty n hB hs
   obtain ⟨h1,h2⟩:=yp h
   simp only [zvI] at h1
   have hb:(za ro m).box i = some ⟨zj cs,ty⟩:=by show (yj ro m i).map yc = _; rw [hB]; rfl
   simp only [toV,YT,ha,hb,hs]
   refine ⟨zvK h1.1,by rw [y9]; exact zvK h1.2,?_⟩
   have:=hK _ h2
   simpa only [toV,QF] using this
  ·cases h
 ·rename_i i off ha
  split at h
  ·rename_i cs ty hB
   obtain ⟨h1,h2⟩:=yp h
   have hb:(za ro m).box i = some ⟨zj cs,ty⟩:=by show (yj ro m i).map yc = _; rw [hB]; rfl
   split at h2
   ·rename_i c hc
    simp only [toV,YT,ha,hb,Y9,hc,Option.map_some]
    exact ⟨zvK h1,hK _ h2⟩
   ·cases h2
  ·cases h
 ·rename_i i a n ix ha
  split at h
  ·rename_i cs ty c hB hc
   obtain ⟨h1,h2⟩:=yp h
   simp only [zvI] at h1
   have hb:(za ro m).box i = some ⟨zj cs,ty⟩:=by show (yj ro m i).map yc = _; rw [hB]; rfl
   split at h2
   ·rename_i l hl
    obtain ⟨y,h3,h4⟩:=bind_some h2
    obtain ⟨q1,q2,q3⟩:=zak h3
    have hle:=zvK h1.2
    have hseg:=za5 hl
    have hlen:l.length = n:=by
     have:=congrArg List.length hseg
     rw [y9,List.length_map,List.length_take,List.length_drop] at this
     omega
    have hget:(zj cs)[a + ix.toNat]? = some (enc c y):=by
     have:((zj ((cs.drop a).take n)))[ix.toNat]? = some (enc c y):=by rw [hseg,List.getElem?_map,q3]; rfl
     rw [QF,List.getElem?_take,if_pos (by omega),List.getElem?_drop] at this
     exact this
    simp only [toV,YT,ha,hb,hget]
    refine ⟨zvK h1.1,?_⟩
    rw [<- qJ]
    exact hK _ h4
   ·cases h2
  ·cases h
 ·rename_i g off ha
  split at h
  ·rename_i n c hs hc
   obtain ⟨y,h1,h2⟩:=bind_some h
   obtain ⟨vs,q1,q2,q3⟩:=zeF h1
   simp only [toV,q1,YT,ha,hs]
   refine ⟨by simpa using q2,?_⟩
   rw [q3,<- qJ]
   exact hK _ h2
  ·cases h
 ·rename_i g off ha
  split at h
  ·rename_i c hc
   obtain ⟨y,h1,h2⟩:=bind_some h
   obtain ⟨vs,q1,q2⟩:=zp0 h1
   simp only [toV,q1,YT,ha,q2]
   rw [<- qJ]
   exact hK _ h2
  ·cases h
 ·cases h
theorem znJ {op:BinOp} {k:IntKind} {a b:Int} (hK:∀ s,K s = some r->Kp (toV s)) (h:zuw op k a b K = some r):zqp op k a b Kp:=by
 have hK':∀ s v,K s = some r->toV s = v->Kp v:=fun s v h e=>e ▸ hK s h
 cases op <;> simp only [zuw,reduceCtorEq] at h
 case add=>obtain ⟨n,h1,h2⟩:=bind_some h; obtain ⟨q1,rfl⟩:=ziT h1; exact ⟨q1,hK' _ _ h2 (by simp [toV])⟩
 case sub=>obtain ⟨n,h1,h2⟩:=bind_some h; obtain ⟨q1,rfl⟩:=zeE h1; exact ⟨q1,hK' _ _ h2 (by simp [toV])⟩
 case mul=>obtain ⟨n,h1,h2⟩:=bind_some h; obtain ⟨q1,rfl⟩:=zpW h1; exact ⟨q1,hK' _ _ h2 (by simp [toV])⟩
 case quo=>obtain ⟨n,h1,h2⟩:=bind_some h; obtain ⟨q1,rfl⟩:=zpX h1; exact ⟨q1.1,q1.2,hK' _ _ h2 (by simp [toV])⟩
 case rem=>obtain ⟨n,h1,h2⟩:=bind_some h; obtain ⟨q1,rfl⟩:=zpY h1; exact ⟨q1,hK' _ _ h2 (by simp [toV])⟩
 all_goals exact hK' _ _ h (by simp [toV])
theorem znK {op:BinOp} {a b:List UInt8} (hK:∀ s,K s = some r->Kp (toV s)) (h:zux op a b K = some r):zqq op a b Kp:=by
 have hK':∀ s v,K s = some r->toV s = v->Kp v:=fun s v h e=>e ▸ hK s h
 cases op <;> simp only [zux,reduceCtorEq] at h
 case add=>obtain ⟨n,h1,h2⟩:=bind_some h; obtain ⟨q1,rfl⟩:=zpZ h1; exact ⟨q1,hK' _ _ h2 (by simp [toV])⟩
 all_goals exact hK' _ _ h (by simp [toV])
theorem zhj {a b:S} {k k':CK} (ha:zfc a = some k) (hb:zfc b = some k'):QH (toV a) (toV b) = zfR a b:=by
 cases a <;> simp only [zfc,reduceCtorEq] at ha <;> cases b <;> simp only [zfc,reduceCtorEq] at hb <;> simp [toV,QH,zfR]
theorem zp1 {a b:CK} (h:zpU a b = true):a = b:=by
 cases a <;> cases b <;> simp_all [zpU]
theorem zto {a:S} {k:CK} (h:zfc a = some k):QO (toV a) = some k:=by
 cases a <;> simp only [zfc,reduceCtorEq] at h <;> simpa [toV,QO] using h
theorem zcf {k:CK} {ks:List CK} {c:S} {cs:List S} (h:ZH (k :: ks) (c :: cs) = true):zfc c = some k/\ZH ks cs = true:=by
 simp only [ZH,zvI] at h
 refine ⟨?_,h.2⟩
 have h1:=h.1
 split at h1
 ·rename_i k' hk; rw [hk,zp1 h1]
 ·cases h1
theorem zcg:∀ {ks:List CK} {cs:List S},ZH ks cs = true->Yw ks (zj cs)
 | [],[],_=>by simp [zj,Yw]
 | [],_ :: _,h=>by simp [ZH] at h
 | _ :: _,[],h=>by simp [ZH] at h
 | k :: ks,c :: cs,h=>by
  obtain ⟨h1,h2⟩:=zcf h
  simp only [zj,Yw]
  exact ⟨zto h1,zcg h2⟩
theorem zrR:∀ {ks:List CK} {cs ds:List S},ZH ks cs = true->ZH ks ds = true->eqV (zj cs) (zj ds) = eqS cs ds
 | [],[],[],_,_=>by simp [zj,eqV,eqS]
 | [],_ :: _,_,h,_=>by simp [ZH] at h
 | [],[],_ :: _,_,h=>by simp [ZH] at h
 | _ :: _,[],_,h,_=>by simp [ZH] at h
 | _ :: _,_ :: _,[],_,h=>by simp [ZH] at h
 | k :: ks,c :: cs,d :: ds,h1,h2=>by
  obtain ⟨a1,a2⟩:=zcf h1
  obtain ⟨b1,b2⟩:=zcf h2
  have ih:=zrR a2 b2
  cases cs with
  | nil =>
   cases ds with
   | nil=>simp only [zj,eqV,eqS]; exact zhj a1 b1
   | cons d' ds=>cases ks <;> simp [ZH] at a2 b2
  | cons c' cs =>
   cases ds with
   | nil=>cases ks <;> simp [ZH] at a2 b2
   | cons d' ds =>
    simp only [zj] at ih ⊢
    rw [eqV,eqS,ih,zhj a1 b1]
    ·simp
    ·simp
theorem znL {op:BinOp} {xT:TypeId} {a b:S} (hK:∀ s,K s = some r->Kp (toV s)) (h:zuy P op xT a b K = some r):zeQ P op xT (toV a) (toV b) Kp:=by
 have hK':∀ s v,K s = some r->toV s = v->Kp v:=fun s v h e=>e ▸ hK s h
 unfold zuy at h
 split at h
 ·rename_i k x k' y
  simp only [toV,zeQ]
  cases hs:zuv op with
  | true =>
   rw [hs] at h
   simp only [cond_true] at h
   right
   unfold shX at h
   unfold zt2
   cases op <;> simp only [zuv,Bool.false_eq_true] at hs
   ·obtain ⟨n,h1,h2⟩:=bind_some h
    obtain ⟨h3,h4⟩:=zbB h1
    cases h4
    exact ⟨h3,hK' _ _ h2 (by simp [toV])⟩
   ·obtain ⟨n,h1,h2⟩:=bind_some h
    obtain ⟨h3,h4⟩:=zbB h1
    cases h4
    exact ⟨h3,hK' _ _ h2 (by simp [toV])⟩
  | false =>
   rw [hs] at h
   simp only [cond_false] at h
   obtain ⟨h1,h2⟩:=zbB h
   exact .inl ⟨h1,znJ hK h2⟩
 ·simp only [toV,zeQ]
  exact znK hK h
 ·simp only [toV,zeQ]
  split at h
  ·rename_i hb; simp only [hb]; exact hK' _ _ h (by simp [toV])
  ·rename_i hb; simp only [hb]; exact hK' _ _ h (by simp [toV])
  ·cases h
 ·rename_i cs ds
  simp only [toV,zeQ]
  split at h
  ·rename_i ks hk
   obtain ⟨h1,h2⟩:=yp h
   simp only [zvI] at h1
   simp only [hk]
   exact ⟨zcg h1.1,zcg h1.2,hK' _ _ h2 (by simp [toV,zrR h1.1 h1.2])⟩
  ·rename_i ks hk
   obtain ⟨h1,h2⟩:=yp h
   simp only [zvI] at h1
   simp only [hk]
   exact ⟨zcg h1.1,zcg h1.2,hK' _ _ h2 (by simp [toV,zrR h1.1 h1.2])⟩
  ·cases h
 ·cases h
theorem zp2 {op:UnOp} {x:S} (hK:∀ s,K s = some r->Kp (toV s)) (h:unX op x K = some r):zqr op (toV x) Kp:=by
 have hK':∀ s v,K s = some r->toV s = v->Kp v:=fun s v h e=>e ▸ hK s h
 unfold unX at h
 split at h
 ·simp only [toV,zqr]; exact hK' _ _ h (by simp [toV])
 ·obtain ⟨n,h1,h2⟩:=bind_some h
  obtain ⟨q1,rfl⟩:=zeE h1
  simp only [toV,zqr]; exact ⟨q1,hK' _ _ h2 (by simp [toV])⟩
 ·cases h
theorem zma (s:List UInt8):(yu s).map (enc .u8) = qy s:=by
 simp [yu,qy,enc,zgZ]
theorem zp3 {l:List Int} {s:List UInt8} (h:Y7 l = some s):l.map (enc .u8) = qy s:=by
 obtain ⟨h1,h2⟩:=zbB h
 cases h2
 simp only [qy,List.map_map]
 refine List.map_congr_left fun n hn=>?_
 have:=List.all_eq_true.1 h1 n hn
 simp only [zvI,decide_eq_true_eq] at this
 simp only [enc,zgZ,Function.comp]
 congr 1
 have h3:n.toNat < 256:=by omega
 rw [UInt8.toNat_ofNat',Nat.mod_eq_of_lt h3]
 omega
theorem zmb {s d:TypeId} {x:S} (hK:∀ s,K s = some r->Kp (toV s)) (h:zrF P s d x K = some r):zbC P s d (toV x) Kp:=by
 have hK':∀ s v,K s = some r->toV s = v->Kp v:=fun s v h e=>e ▸ hK s h
 unfold zrF at h
 split at h
 ·rename_i h1 h2
  simp only [toV,zbC,h1,h2]; exact hK' _ _ h (by simp [toV])
 ·rename_i h1 h2
  simp only [toV,zbC,h1,h2]; exact hK' _ _ h (by simp [toV])
 ·rename_i h1 h2
  split at h
  ·rename_i e he
   split at h
   ·rename_i hb
    simp only [toV,zbC,h1,h2,he,hb]
    refine hK' _ _ h ?_
    simp only [toV]
    rw [zma]
   ·cases h
  ·cases h
 ·rename_i h1 h2
  split at h
  ·rename_i e he
   split at h
   ·rename_i hb
    obtain ⟨y,h3,h4⟩:=bind_some h
    simp only [toV,zbC,h1,h2,he,hb]
    exact ⟨y,zp3 h3,hK' _ _ h4 (by simp [toV])⟩
   ·cases h
  ·cases h
 ·cases h
theorem Qu {x:Option Operand} {d:Nat} {Ki:Int->Option β} {Kn:Nat->Prop} (hK:∀ i,Ki i = some r->0 <= i/\Kn i.toNat) (h:zc5 ro m x d Ki = some r):zar (za ro m) x d Kn:=by
 unfold zc5 at h
 unfold zar
 cases x with
 | none=>have:=(hK _ h).2; simpa using this
 | some x =>
  simp only at h ⊢
  rw [<- zq]
  split at h
  ·rename_i k i hi; simp only [hi,toV]; exact hK _ h
  ·cases h
theorem Yb {t:TypeId} {c:C} {e:TypeId} {n:Nat} (h:zcK P t c = some (e,n)):qH P t = some e/\zA P e = some n/\n = csz c:=by
 unfold zcK at h
 split at h
 ·rename_i e' he
  split at h
  ·rename_i n' hn
   obtain ⟨h1,h2⟩:=yp h
   cases h2
   exact ⟨he,hn,Nat.eq_of_beq_eq_true h1⟩
  ·cases h
 ·cases h
theorem yX (c:C) (l:List (den c)):qq (csz c) (l.map (enc c)):=by
 intro v hv
 obtain ⟨x,_,rfl⟩:=List.mem_map.1 hv
 exact ziG c x
theorem zdW {t:TypeId} {x:S} {lo hi mx:Option Operand} {dst:Option Nat} (hK:∀ s tk,K2 s tk = some r->K2p (toV s) tk) (h:zjX P ro m t x lo hi mx dst K2 = some r) :
  YV P t (za ro m) (toV x) lo hi mx dst K2p:=by
 have hK':∀ s tk v,K2 s tk = some r->toV s = v->K2p v tk:=fun s tk v h e=>e ▸ hK s tk h
 unfold zjX at h
 split at h
 ·rename_i s
  split at h
  ·rename_i hb
   simp only [toV,YV,hb]
   refine Qu (fun a ha=>?_) h
   have hb2:zar (za ro m) hi _ _:=Qu (Kn:=fun h=>a.toNat <= h/\h <= s.length/\K2p (.str ((List.take h s).drop a.toNat)) none) (fun b hb=>?_) ha
   ·refine ⟨?_,hb2⟩
    rcases hi with _ | hi
    ·simp only [zc5] at ha
     obtain ⟨y,h1,_⟩:=bind_some ha
     exact (Qa h1).1.1
    ·simp only [zc5] at ha
     split at ha
     ·obtain ⟨y,h1,_⟩:=bind_some ha
      exact (Qa h1).1.1
     ·cases ha
   ·obtain ⟨y,h1,h2⟩:=bind_some hb
    obtain ⟨⟨q1,q2,q3⟩,rfl⟩:=Qa h1
    exact ⟨by omega,by omega,by omega,hK' _ _ _ h2 (by simp [toV])⟩
  ·cases h
 ·rename_i c l
  split at h
  ·rename_i en he
   obtain ⟨e,n⟩:=en
   obtain ⟨e1,e2,rfl⟩:=Yb he
   simp only [toV,YV,e1,e2]
   refine ⟨yX c l,?_⟩
   refine Qu (fun a ha=>?_) h
   rw [List.length_map]
   have hb2:zar (za ro m) hi _ _:=Qu (Kn:=fun h=>a.toNat <= h/\h <= l.length/\K2p (.list ((List.take h (l.map (enc c))).drop a.toNat)) none) (fun b hb=>?_) ha
   ·refine ⟨?_,hb2⟩
    rcases hi with _ | hi
    ·simp only [zc5] at ha
     obtain ⟨y,h1,_⟩:=bind_some ha
     exact (Qa h1).1.1
    ·simp only [zc5] at ha
     split at ha
     ·obtain ⟨y,h1,_⟩:=bind_some ha
      exact (Qa h1).1.1
     ·cases ha
   ·obtain ⟨y,h1,h2⟩:=bind_some hb
    obtain ⟨⟨q1,q2,q3⟩,rfl⟩:=Qa h1
    exact ⟨by omega,by omega,by omega,hK' _ _ _ h2 (by simp [toV,List.map_drop,List.map_take])⟩
  ·cases h
 ·rename_i c l mx
  split at h
  ·rename_i e n hi he
   obtain ⟨e1,e2,rfl⟩:=Yb he
   simp only [toV,YV,e1,e2]
   refine ⟨yX c l,?_⟩
   refine Qu (fun a ha=>?_) h
   rw [List.length_map]
   have h0:0 <= a:=by
    simp only [zc5] at ha
    split at ha
    ·split at ha
     ·rcases brS ha with ⟨_,ha⟩ | ⟨_,ha⟩
      ·obtain ⟨y,h1,_⟩:=bind_some ha
       exact (Qa h1).1.1
      ·cases ha
     ·cases ha
    ·cases ha
   refine ⟨h0,Qu (fun b hb=>?_) ha⟩
   have hb':=hb
   simp only [zc5] at hb
   split at hb
   ·rename_i kk i hi'
    rcases brS hb with ⟨q0,hb⟩ | ⟨_,hb⟩
    ·obtain ⟨y,h1,h2⟩:=bind_some hb
     obtain ⟨⟨q1,q2,q3⟩,rfl⟩:=Qa h1
     simp only [decide_eq_true_eq] at q0
     subst q0
     refine ⟨by omega,?_⟩
     unfold zar
     simp only
     rw [<- zq,hi']
     simp only [toV]
     exact ⟨by omega,trivial,by omega,by omega,hK' _ _ _ h2 (by simp [toV,List.map_drop,List.map_take])⟩
    ·cases hb
   ·cases hb
  ·cases h
 ·cases h
theorem ziU {c:C} {g n:Nat}:∀ {k off:Nat} {l:List (den c)},zjW c g n k off = some l->0 < k->∃ vs,GL g = some vs/\off + k * n <= vs.length/\QG n k ((vs.map qO).drop off) = l.map (enc c)
 | 0,_,_,_,h0=>absurd h0 (by omega)
 | k + 1,off,l,h,_=>by
  simp only [zjW] at h
  split at h
  ·rename_i x l' h1 h2
   cases h
   obtain ⟨vs,q1,q2,q3⟩:=zeF h1
   by_cases hk:0 < k
   ·obtain ⟨vs',r1,r2,r3⟩:=ziU h2 hk
    rw [q1] at r1; cases r1
    refine ⟨vs,q1,by rw [Nat.add_mul]; omega,?_⟩
    simp only [QG,List.map_cons,q3,List.drop_drop,r3]
   ·obtain rfl:k = 0:=by omega
    simp only [zjW,zvL] at h2
    subst h2
    refine ⟨vs,q1,by omega,?_⟩
    simp only [QG,List.map_cons,q3,List.map_nil]
  ·cases h
theorem zhX {t:TypeId} {x:S} {lo hi mx:Option Operand} {dst:Option Nat} (hK:∀ s tk,K2 s tk = some r->K2p (toV s) tk) (h:zjY P code ro m t x lo hi mx dst K2 = some r) :
  YV P t (za ro m) (toV x) lo hi mx dst K2p:=by
 unfold zjY at h
 split at h
 ·rename_i g a
  split at h
  ·rename_i len e hT
   split at h
   ·rename_i n c hs hc
    obtain ⟨h1,h2⟩:=yp h
    simp only [zvI] at h1
    obtain ⟨y,h3,h4⟩:=bind_some h2
    have hl0:0 < len:=zvK h1.2
    obtain ⟨vs,q1,q2,q3⟩:=ziU h3 hl0
    simp only [toV,q1,YV,hT,hs]
    refine ⟨by simpa using q2,zvK h1.1.2,hl0,?_⟩
    rw [q3]
    have:=hK _ _ h4
    simpa only [toV] using this
   ·cases h
  ·cases h
 ·exact zdW hK h
theorem zkf {s:TypeId} {i:Nat} {x:S} (hK:∀ s,K s = some r->Kp (toV s)) (h:znu P s i x K = some r):zfE P s i (toV x) Kp:=by
 have hK':∀ s v,K s = some r->toV s = v->Kp v:=fun s v h e=>e ▸ hK s h
 unfold znu at h
 unfold zfE
 split at h
 ·rename_i off t hf
  simp only [hf]
  split at h
  ·rename_i n hs
   simp only [hs]
   cases hn:Nat.beq n 0 with
   | true=>rw [hn] at h; cases h
   | false =>
    rw [hn] at h
    have hn':n ≠ 0:=fun e=>by subst e; cases hn
    simp only [cond_false] at h
    refine ⟨hn',?_⟩
    split at h
    ·simp only [toV]; exact hK' _ _ h (by simp [toV])
    ·simp only [toV]; exact hK' _ _ h (by simp [toV])
    ·rename_i g a
     split at h
     ·rename_i vs hv
      simp only [toV,hv]
      exact hK' _ _ h (by simp [toV,hv])
     ·cases h
    ·cases h
  ·cases h
 ·cases h
end
end Go.X
