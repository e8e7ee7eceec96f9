import Derived.Test.YtjcbpfhlgebgdaaGreatDoorE16
import Derived.KernelRfl
open Bool renaming and_eq_true -> zuc
open Nat renaming le_of_ble_eq_true -> zue
open Option.some renaming injEq -> zuf
set_option linter.unusedSimpArgs false
set_option linter.unusedVariables false
namespace Go.X
open Go.Eng
open Go.RowKit
structure ID where
 Node:Int
 Seq:Int
 Off:Int
 deriving DecidableEq,Inhabited,Repr
structure Outc where
 Tick:Int
 Node:Int
 Kind:Int
 ID:ID
 Other:Int
 deriving DecidableEq,Inhabited,Repr
structure Word where
 At:Int
 Key:List UInt8
 Text:List UInt8
 deriving DecidableEq,Inhabited,Repr
structure Row where
 At:Int
 Words:List (Word)
 deriving DecidableEq,Inhabited,Repr
structure Fault where
 Err:Int
 At:Int
 deriving DecidableEq,Inhabited,Repr
structure Mrk where
 ID:ID
 Until:Int
 deriving DecidableEq,Inhabited,Repr
structure W3 where
 a:Int
 b:Int
 c:Int
 deriving DecidableEq,Inhabited,Repr
structure Pair where
 a:Int
 b:Int
 deriving DecidableEq,Inhabited,Repr
structure Scanner where
 s:List UInt8
 pos:Int
 deriving DecidableEq,Inhabited,Repr
inductive IV where
 | int (t:Nat) (n:Int)
 | id (t:Nat) (x:ID)
 deriving DecidableEq,Inhabited,Repr
inductive C where
 | i64 | u64 | i32 | u32 | u8 | i16 | u16 | i8 | bool | str | iv | a4_u64 | ID | Outc | Word | Row | Fault | Mrk | W3 | Pair | Scanner | l_W3 | l_Mrk | l_Word | l_Row | l_u8 | l_i64 | l_str | l_u64
 deriving DecidableEq
@[reducible] def den:C->Type
 | .i64=>Int
 | .u64=>Int
 | .i32=>Int
 | .u32=>Int
 | .u8=>Int
 | .i16=>Int
 | .u16=>Int
 | .i8=>Int
 | .bool=>Bool
 | .str=>List UInt8
 | .iv=>IV
 | .a4_u64=>List Int
 | .ID=>ID
 | .Outc=>Outc
 | .Word=>Word
 | .Row=>Row
 | .Fault=>Fault
 | .Mrk=>Mrk
 | .W3=>W3
 | .Pair=>Pair
 | .Scanner=>Scanner
 | .l_W3=>List (W3)
 | .l_Mrk=>List (Mrk)
 | .l_Word=>List (Word)
 | .l_Row=>List (Row)
 | .l_u8=>List (Int)
 | .l_i64=>List (Int)
 | .l_str=>List (List UInt8)
 | .l_u64=>List (Int)
def ziS:Int->V:=fun x=>.int .i64 x
def ziT:Int->V:=fun x=>.int .u64 x
def znn:Int->V:=fun x=>.int .i32 x
def zno:Int->V:=fun x=>.int .u32 x
def zgm:Int->V:=fun x=>.int .u8 x
def znp:Int->V:=fun x=>.int .i16 x
def znq:Int->V:=fun x=>.int .u16 x
def zpY:Int->V:=fun x=>.int .i8 x
def zkv:Bool->V:=fun x=>.bool x
def zaU:List UInt8->V:=fun x=>.str x
def zaq:IV->V
 | .int t n=>.iface t (.int .i64 n)
 | .id t x=>.iface t (.agg [.int .i64 x.Node,.int .u64 x.Seq,.int .i64 x.Off])
def zcG:List Int->V:=fun x=>.agg [.int .u64 (x.getD 0 0),.int .u64 (x.getD 1 0),.int .u64 (x.getD 2 0),.int .u64 (x.getD 3 0)]
def zd7:ID->V:=fun x=>.agg [.int .i64 x.Node,.int .u64 x.Seq,.int .i64 x.Off]
def zaC:Outc->V:=fun x=>.agg [.int .i64 x.Tick,.int .i64 x.Node,.int .i64 x.Kind,.int .i64 x.ID.Node,.int .u64 x.ID.Seq,.int .i64 x.ID.Off,.int .i64 x.Other]
def QQ:Word->V:=fun x=>.agg [.int .i64 x.At,.str x.Key,.str x.Text]
def zd8:Fault->V:=fun x=>.agg [.int .i64 x.Err,.int .i64 x.At]
def qQ:Mrk->V:=fun x=>.agg [.int .i64 x.ID.Node,.int .u64 x.ID.Seq,.int .i64 x.ID.Off,.int .i64 x.Until]
def ziU:W3->V:=fun x=>.agg [.int .i64 x.a,.int .i64 x.b,.int .i64 x.c]
def zaD:Pair->V:=fun x=>.agg [.int .i64 x.a,.int .i64 x.b]
def zbF:Scanner->V:=fun x=>.agg [.str x.s,.int .i64 x.pos]
def zgn:List (W3)->V:=fun x=>.list (x.map ziU)
def YA:List (Mrk)->V:=fun x=>.list (x.map qQ)
def zcH:List (Word)->V:=fun x=>.list (x.map QQ)
def zgo:List (Int)->V:=fun x=>.list (x.map zgm)
def zd9:List (Int)->V:=fun x=>.list (x.map ziS)
def zea:List (List UInt8)->V:=fun x=>.list (x.map zaU)
def zeb:List (Int)->V:=fun x=>.list (x.map ziT)
def zaV:Row->V:=fun x=>.agg [.int .i64 x.At,.list (x.Words.map QQ)]
def zec:List (Row)->V:=fun x=>.list (x.map zaV)
def Y5 (l:List Int):List Int:=[l.getD 0 0,l.getD 1 0,l.getD 2 0,l.getD 3 0]
theorem zcq {l:List Int} (h:l.length = 4):Y5 l = l:=by
 refine List.ext_getElem? fun i=>?_
 unfold Y5
 by_cases hi:i < 4
 ·rw [List.getElem?_eq_getElem (by omega)]
  rcases (by omega:i = 0 ∨ i = 1 ∨ i = 2 ∨ i = 3) with rfl | rfl | rfl | rfl
  all_goals simp [List.getD_eq_getElem?_getD,h]
 ·rw [List.getElem?_eq_none (by simp; omega),List.getElem?_eq_none (by omega)]
def zt6:C->Option (C × Nat)
 | .a4_u64=>some (.u64,4)
 | _=>none
def dfl:∀ c:C,den c
 | .i64=>(0:Int)
 | .u64=>(0:Int)
 | .i32=>(0:Int)
 | .u32=>(0:Int)
 | .u8=>(0:Int)
 | .i16=>(0:Int)
 | .u16=>(0:Int)
 | .i8=>(0:Int)
 | .bool=>(false:Bool)
 | .str=>([]:List UInt8)
 | .iv=>(.int 0 0:IV)
 | .a4_u64=>([]:List Int)
 | .ID=>(⟨0,0,0⟩:ID)
 | .Outc=>(⟨0,0,0,⟨0,0,0⟩,0⟩:Outc)
 | .Word=>(⟨0,[],[]⟩:Word)
 | .Row=>(⟨0,[]⟩:Row)
 | .Fault=>(⟨0,0⟩:Fault)
 | .Mrk=>(⟨⟨0,0,0⟩,0⟩:Mrk)
 | .W3=>(⟨0,0,0⟩:W3)
 | .Pair=>(⟨0,0⟩:Pair)
 | .Scanner=>(⟨[],0⟩:Scanner)
 | .l_W3=>([]:List (W3))
 | .l_Mrk=>([]:List (Mrk))
 | .l_Word=>([]:List (Word))
 | .l_Row=>([]:List (Row))
 | .l_u8=>([]:List (Int))
 | .l_i64=>([]:List (Int))
 | .l_str=>([]:List (List UInt8))
 | .l_u64=>([]:List (Int))
def enc:∀ c:C,den c->V
 | .i64=>ziS
 | .u64=>ziT
 | .i32=>znn
 | .u32=>zno
 | .u8=>zgm
 | .i16=>znp
 | .u16=>znq
 | .i8=>zpY
 | .bool=>zkv
 | .str=>zaU
 | .iv=>zaq
 | .a4_u64=>zcG
 | .ID=>zd7
 | .Outc=>zaC
 | .Word=>QQ
 | .Row=>zaV
 | .Fault=>zd8
 | .Mrk=>qQ
 | .W3=>ziU
 | .Pair=>zaD
 | .Scanner=>zbF
 | .l_W3=>zgn
 | .l_Mrk=>YA
 | .l_Word=>zcH
 | .l_Row=>zec
 | .l_u8=>zgo
 | .l_i64=>zd9
 | .l_str=>zea
 | .l_u64=>zeb
def csz:C->Nat
 | .i64=>1
 | .u64=>1
 | .i32=>1
 | .u32=>1
 | .u8=>1
 | .i16=>1
 | .u16=>1
 | .i8=>1
 | .bool=>1
 | .str=>1
 | .iv=>1
 | .a4_u64=>4
 | .ID=>3
 | .Outc=>7
 | .Word=>3
 | .Row=>2
 | .Fault=>2
 | .Mrk=>4
 | .W3=>3
 | .Pair=>2
 | .Scanner=>2
 | .l_W3=>1
 | .l_Mrk=>1
 | .l_Word=>1
 | .l_Row=>1
 | .l_u8=>1
 | .l_i64=>1
 | .l_str=>1
 | .l_u64=>1
theorem yH {α:Type} {f:α->V} (h:∀ x,(f x).noLoc = true):∀ l:List α,V.noLocL (l.map f) = true
 | []=>rfl
 | x :: l=>by simp [V.noLocL,h x,yH h l]
theorem zhR:∀ (c:C) (x:den c),(enc c x).csize = some (csz c):=by
 intro c x; cases c <;> first | rfl | (cases x <;> rfl)
theorem zgp (x:IV):(zaq x).noLoc = true:=by cases x <;> rfl
theorem zhS (x:Int):(ziS x).noLoc = true:=rfl
theorem zhT (x:Int):(ziT x).noLoc = true:=rfl
theorem zn9 (x:Int):(znn x).noLoc = true:=rfl
theorem zoa (x:Int):(zno x).noLoc = true:=rfl
theorem zkw (x:Int):(zgm x).noLoc = true:=rfl
theorem zob (x:Int):(znp x).noLoc = true:=rfl
theorem zoc (x:Int):(znq x).noLoc = true:=rfl
theorem zpZ (x:Int):(zpY x).noLoc = true:=rfl
theorem zlU (x:Bool):(zkv x).noLoc = true:=rfl
theorem zhU (x:List UInt8):(zaU x).noLoc = true:=rfl
theorem ziV (x:List Int):(zcG x).noLoc = true:=rfl
theorem zp0 (x:ID):(zd7 x).noLoc = true:=rfl
theorem zlV (x:Outc):(zaC x).noLoc = true:=rfl
theorem zcI (x:Word):(QQ x).noLoc = true:=rfl
theorem zkx (x:Fault):(zd8 x).noLoc = true:=rfl
theorem zhV (x:Mrk):(qQ x).noLoc = true:=rfl
theorem zky (x:W3):(ziU x).noLoc = true:=rfl
theorem zlW (x:Pair):(zaD x).noLoc = true:=rfl
theorem zhc (x:Scanner):(zbF x).noLoc = true:=rfl
theorem zlX (x:List (W3)):(zgn x).noLoc = true:=by simp only [zgn,V.noLoc]; exact yH zky x
theorem zkz (x:List (Mrk)):(YA x).noLoc = true:=by simp only [YA,V.noLoc]; exact yH zhV x
theorem ziW (x:List (Word)):(zcH x).noLoc = true:=by simp only [zcH,V.noLoc]; exact yH zcI x
theorem zlY (x:List (Int)):(zgo x).noLoc = true:=by simp only [zgo,V.noLoc]; exact yH zkw x
theorem zkA (x:List (Int)):(zd9 x).noLoc = true:=by simp only [zd9,V.noLoc]; exact yH zhS x
theorem zkB (x:List (List UInt8)):(zea x).noLoc = true:=by simp only [zea,V.noLoc]; exact yH zhU x
theorem zkC (x:List (Int)):(zeb x).noLoc = true:=by simp only [zeb,V.noLoc]; exact yH zhT x
theorem zhW (x:Row):(zaV x).noLoc = true:=by simp [zaV,V.noLoc,V.noLocL,yH zcI]
theorem zkD (x:List (Row)):(zec x).noLoc = true:=by simp only [zec,V.noLoc]; exact yH zhW x
theorem Z4:∀ (c:C) (x:den c),(enc c x).noLoc = true
 | .i64,x=>zhS x
 | .u64,x=>zhT x
 | .i32,x=>zn9 x
 | .u32,x=>zoa x
 | .u8,x=>zkw x
 | .i16,x=>zob x
 | .u16,x=>zoc x
 | .i8,x=>zpZ x
 | .bool,x=>zlU x
 | .str,x=>zhU x
 | .iv,x=>zgp x
 | .a4_u64,x=>ziV x
 | .ID,x=>zp0 x
 | .Outc,x=>zlV x
 | .Word,x=>zcI x
 | .Row,x=>zhW x
 | .Fault,x=>zkx x
 | .Mrk,x=>zhV x
 | .W3,x=>zky x
 | .Pair,x=>zlW x
 | .Scanner,x=>zhc x
 | .l_W3,x=>zlX x
 | .l_Mrk,x=>zkz x
 | .l_Word,x=>ziW x
 | .l_Row,x=>zkD x
 | .l_u8,x=>zlY x
 | .l_i64,x=>zkA x
 | .l_str,x=>zkB x
 | .l_u64,x=>zkC x
inductive S:Type where
 | any | un
 | int (k:IntKind) (n:Int)
 | bool (b:Bool)
 | str (s:List UInt8)
 | agg (cs:List S)
 | tup (vs:List S)
 | loc (i off:Nat)
 | loco (i off n:Nat) (ix:Int)
 | elt (cs:List S) (off:Nat)
 | gel (g off:Nat)
 | nilp
 | lst (c:C) (l:List (den c))
 | rows (vs:List S)
 | fn (f:Go.Fn) (first cap:List S)
 | nilfn
 | iface (t:TypeId) (v:S)
 | nilif
 | mref (i:Nat)
 | nilm
 | ptr (i:Int) (sz f:Nat)
 | ivd (x:IV)
 deriving Inhabited
def asInt (k:IntKind):S->Option Int
 | .int k' n=>if k' = k then some n else none
 | _=>none
def asBool:S->Option Bool
 | .bool b=>some b
 | _=>none
def zgq:S->Option (List UInt8)
 | .str b=>some b
 | _=>none
def zsJ:S->Option IV
 | .ivd x=>some x
 | .iface t (.int .i64 n)=>some (.int t n)
 | .iface t (.agg [.int .i64 a,.int .u64 b,.int .i64 c])=>some (.id t ⟨a,b,c⟩)
 | _=>none
def zbG (c:C):S->Option (List (den c))
 | .lst c' l=>if h:c' = c then some (h ▸ l) else none
 | .rows []=>some []
 | _=>none
def zbH:Int->S:=fun x=>.int .i64 x
def zgr:Int->S:=fun x=>.int .u64 x
def zkE:Int->S:=fun x=>.int .i32 x
def zkF:Int->S:=fun x=>.int .u32 x
def ziX:Int->S:=fun x=>.int .u8 x
def zkG:Int->S:=fun x=>.int .i16 x
def zkH:Int->S:=fun x=>.int .u16 x
def znr:Int->S:=fun x=>.int .i8 x
def zhX:Bool->S:=fun x=>.bool x
def YP:List UInt8->S:=fun x=>.str x
def zns:IV->S:=fun x=>.ivd x
def zeF:List Int->S:=fun x=>.agg [.int .u64 (x.getD 0 0),.int .u64 (x.getD 1 0),.int .u64 (x.getD 2 0),.int .u64 (x.getD 3 0)]
def znt:ID->S:=fun x=>.agg [.int .i64 x.Node,.int .u64 x.Seq,.int .i64 x.Off]
def zhY:Outc->S:=fun x=>.agg [.int .i64 x.Tick,.int .i64 x.Node,.int .i64 x.Kind,.int .i64 x.ID.Node,.int .u64 x.ID.Seq,.int .i64 x.ID.Off,.int .i64 x.Other]
def zhZ:Word->S:=fun x=>.agg [.int .i64 x.At,.str x.Key,.str x.Text]
def zkI:Row->S:=fun x=>.agg [.int .i64 x.At,.lst .Word x.Words]
def zgs:Fault->S:=fun x=>.agg [.int .i64 x.Err,.int .i64 x.At]
def zkJ:Mrk->S:=fun x=>.agg [.int .i64 x.ID.Node,.int .u64 x.ID.Seq,.int .i64 x.ID.Off,.int .i64 x.Until]
def znu:W3->S:=fun x=>.agg [.int .i64 x.a,.int .i64 x.b,.int .i64 x.c]
def zh0:Pair->S:=fun x=>.agg [.int .i64 x.a,.int .i64 x.b]
def zdt:Scanner->S:=fun x=>.agg [.str x.s,.int .i64 x.pos]
def zh1:List (W3)->S:=fun x=>.lst .W3 x
def zgt:List (Mrk)->S:=fun x=>.lst .Mrk x
def zeG:List (Word)->S:=fun x=>.lst .Word x
def zgu:List (Row)->S:=fun x=>.lst .Row x
def zh2:List (Int)->S:=fun x=>.lst .u8 x
def zgv:List (Int)->S:=fun x=>.lst .i64 x
def zgw:List (List UInt8)->S:=fun x=>.lst .str x
def zgx:List (Int)->S:=fun x=>.lst .u64 x
def refl:∀ c:C,den c->S
 | .i64=>zbH
 | .u64=>zgr
 | .i32=>zkE
 | .u32=>zkF
 | .u8=>ziX
 | .i16=>zkG
 | .u16=>zkH
 | .i8=>znr
 | .bool=>zhX
 | .str=>YP
 | .iv=>zns
 | .a4_u64=>zeF
 | .ID=>znt
 | .Outc=>zhY
 | .Word=>zhZ
 | .Row=>zkI
 | .Fault=>zgs
 | .Mrk=>zkJ
 | .W3=>znu
 | .Pair=>zh0
 | .Scanner=>zdt
 | .l_W3=>zh1
 | .l_Mrk=>zgt
 | .l_Word=>zeG
 | .l_Row=>zgu
 | .l_u8=>zh2
 | .l_i64=>zgv
 | .l_str=>zgw
 | .l_u64=>zgx
def zed:S->Option (List Int)
 | .agg [p0,p1,p2,p3]=>(asInt .u64 p0).bind fun q0=>(asInt .u64 p1).bind fun q1=>(asInt .u64 p2).bind fun q2=>(asInt .u64 p3).bind fun q3=>(some [q0,q1,q2,q3])
 | _=>none
def zp1:S->Option (ID)
 | .agg [p0,p1,p2]=>(asInt .i64 p0).bind fun q0=>(asInt .u64 p1).bind fun q1=>(asInt .i64 p2).bind fun q2=>(some ⟨q0,q1,q2⟩)
 | _=>none
def ziY:S->Option (Outc)
 | .agg [p0,p1,p2,p3,p4,p5,p6]=>(asInt .i64 p0).bind fun q0=>(asInt .i64 p1).bind fun q1=>(asInt .i64 p2).bind fun q2=>(asInt .i64 p3).bind fun q3=>(asInt .u64 p4).bind fun q4=>(asInt .i64 p5).bind fun q5=>(asInt .i64 p6).bind fun q6=>(some ⟨q0,q1,q2,⟨q3,q4,q5⟩,q6⟩)
 | _=>none
def ziZ:S->Option (Word)
 | .agg [p0,p1,p2]=>(asInt .i64 p0).bind fun q0=>(zgq p1).bind fun q1=>(zgq p2).bind fun q2=>(some ⟨q0,q1,q2⟩)
 | _=>none
def zlZ:S->Option (Row)
 | .agg [p0,p1]=>(asInt .i64 p0).bind fun q0=>(zbG .Word p1).bind fun q1=>(some ⟨q0,q1⟩)
 | _=>none
def zgy:S->Option (Fault)
 | .agg [p0,p1]=>(asInt .i64 p0).bind fun q0=>(asInt .i64 p1).bind fun q1=>(some ⟨q0,q1⟩)
 | _=>none
def zl0:S->Option (Mrk)
 | .agg [p0,p1,p2,p3]=>(asInt .i64 p0).bind fun q0=>(asInt .u64 p1).bind fun q1=>(asInt .i64 p2).bind fun q2=>(asInt .i64 p3).bind fun q3=>(some ⟨⟨q0,q1,q2⟩,q3⟩)
 | _=>none
def zp2:S->Option (W3)
 | .agg [p0,p1,p2]=>(asInt .i64 p0).bind fun q0=>(asInt .i64 p1).bind fun q1=>(asInt .i64 p2).bind fun q2=>(some ⟨q0,q1,q2⟩)
 | _=>none
def zi0:S->Option (Pair)
 | .agg [p0,p1]=>(asInt .i64 p0).bind fun q0=>(asInt .i64 p1).bind fun q1=>(some ⟨q0,q1⟩)
 | _=>none
def zcJ:S->Option (Scanner)
 | .agg [p0,p1]=>(zgq p0).bind fun q0=>(asInt .i64 p1).bind fun q1=>(some ⟨q0,q1⟩)
 | _=>none
def qC:∀ c:C,S->Option (den c)
 | .i64=>fun s=>asInt .i64 s
 | .u64=>fun s=>asInt .u64 s
 | .i32=>fun s=>asInt .i32 s
 | .u32=>fun s=>asInt .u32 s
 | .u8=>fun s=>asInt .u8 s
 | .i16=>fun s=>asInt .i16 s
 | .u16=>fun s=>asInt .u16 s
 | .i8=>fun s=>asInt .i8 s
 | .bool=>fun s=>asBool s
 | .str=>fun s=>zgq s
 | .iv=>fun s=>zsJ s
 | .a4_u64=>zed
 | .ID=>zp1
 | .Outc=>ziY
 | .Word=>ziZ
 | .Row=>zlZ
 | .Fault=>zgy
 | .Mrk=>zl0
 | .W3=>zp2
 | .Pair=>zi0
 | .Scanner=>zcJ
 | .l_W3=>fun s=>zbG .W3 s
 | .l_Mrk=>fun s=>zbG .Mrk s
 | .l_Word=>fun s=>zbG .Word s
 | .l_Row=>fun s=>zbG .Row s
 | .l_u8=>fun s=>zbG .u8 s
 | .l_i64=>fun s=>zbG .i64 s
 | .l_str=>fun s=>zbG .str s
 | .l_u64=>fun s=>zbG .u64 s
def ZP:C->Bool
 | .i64=>true
 | .u64=>true
 | .i32=>true
 | .u32=>true
 | .u8=>true
 | .i16=>true
 | .u16=>true
 | .i8=>true
 | .bool=>true
 | .str=>true
 | .iv=>false
 | .a4_u64=>true
 | .ID=>true
 | .Outc=>true
 | .Word=>true
 | .Row=>false
 | .Fault=>true
 | .Mrk=>true
 | .W3=>true
 | .Pair=>true
 | .Scanner=>true
 | .l_W3=>false
 | .l_Mrk=>false
 | .l_Word=>false
 | .l_Row=>false
 | .l_u8=>false
 | .l_i64=>false
 | .l_str=>false
 | .l_u64=>false
def dq:∀ c:C,Option (DecidableEq (den c))
 | .i64=>some (inferInstanceAs (DecidableEq (Int)))
 | .u64=>some (inferInstanceAs (DecidableEq (Int)))
 | .str=>some (inferInstanceAs (DecidableEq (List UInt8)))
 | .Pair=>some (inferInstanceAs (DecidableEq (Pair)))
 | .ID=>some (inferInstanceAs (DecidableEq (ID)))
 | .Outc=>some (inferInstanceAs (DecidableEq (Outc)))
 | _=>none
mutual
def toV:S->V
 | .any=>.any
 | .un=>.un
 | .int k n=>.int k n
 | .bool b=>.bool b
 | .str s=>.str s
 | .agg cs=>.agg (zg cs)
 | .tup cs=>.tup (zg cs)
 | .loc i off=>.loc i off
 | .loco i off _ ix=>.loc i (off + ix.toNat)
 | .elt cs off=>.elt (zg cs) off
 | .gel g off=>(match GL g with | some vs=>.elt (vs.map qU) off | none=>.any)
 | .nilp=>.nilp
 | .lst c l=>.list (l.map (enc c))
 | .rows vs=>.list (zg vs)
 | .fn f first cap=>.fn f (zg first) (zg cap)
 | .nilfn=>.nilfn
 | .iface t v=>.iface t (toV v)
 | .nilif=>.nilif
 | .mref i=>.mref i
 | .nilm=>.nilm
 | .ptr i sz f=>.ptr (i.toNat * sz + f)
 | .ivd x=>zaq x
def zg:List S->List V
 | []=>[]
 | c :: cs=>toV c :: zg cs
end
theorem ZQ:∀ cs:List S,zg cs = cs.map toV
 | []=>by simp [zg]
 | c :: cs=>by simp [zg,ZQ cs]
theorem zl1 {k:IntKind} {s:S} {n:Int} (h:asInt k s = some n):s = .int k n:=by
 cases s <;> simp only [asInt,reduceCtorEq] at h
 split at h
 ·rename_i e; subst e; cases h; rfl
 ·cases h
theorem zkK {s:S} {n:Bool} (h:asBool s = some n):s = .bool n:=by
 cases s <;> simp only [asBool,reduceCtorEq] at h
 cases h; rfl
theorem zl2 {s:S} {n:List UInt8} (h:zgq s = some n):s = .str n:=by
 cases s <;> simp only [zgq,reduceCtorEq] at h
 cases h; rfl
theorem Zw {c:C} {s:S} {l:List (den c)} (h:zbG c s = some l):toV s = .list (l.map (enc c)):=by
 unfold zbG at h
 split at h
 ·split at h
  ·rename_i e; subst e; cases h; simp [toV]
  ·cases h
 ·cases h; simp [toV,zg]
 ·cases h
theorem bind_some {α β:Type} {o:Option α} {f:α->Option β} {r:β} (h:o.bind f = some r):∃ x,o = some x/\f x = some r:=by
 cases o with
 | none=>cases h
 | some x=>exact ⟨x,rfl,h⟩
theorem yq {k:IntKind} {s:S} {n:Int} (h:asInt k s = some n):toV s = .int k n:=by rw [zl1 h]; simp [toV]
theorem zp3 {s:S} {n:Bool} (h:asBool s = some n):toV s = .bool n:=by rw [zkK h]; simp [toV]
theorem zsK {s:S} {n:IV} (h:zsJ s = some n):toV s = zaq n:=by
 unfold zsJ at h
 split at h
 ·cases h; simp [toV]
 ·cases h; simp [toV,zaq]
 ·cases h; simp [toV,zg,zaq]
 ·cases h
theorem zfo {s:S} {n:List UInt8} (h:zgq s = some n):toV s = .str n:=by rw [zl2 h]; simp [toV]
theorem zhd {s:S} {x:List Int} (h:zed s = some x):toV s = zcG x:=by
 unfold zed at h
 split at h
 ·obtain ⟨q0,h0,h⟩:=bind_some h
  obtain ⟨q1,h1,h⟩:=bind_some h
  obtain ⟨q2,h2,h⟩:=bind_some h
  obtain ⟨q3,h3,h⟩:=bind_some h
  cases h
  simp only [toV,zg,yq h0,yq h1,yq h2,yq h3]
  rfl
 ·cases h
theorem zod {s:S} {x:ID} (h:zp1 s = some x):toV s = zd7 x:=by
 unfold zp1 at h
 split at h
 ·obtain ⟨q0,h0,h⟩:=bind_some h
  obtain ⟨q1,h1,h⟩:=bind_some h
  obtain ⟨q2,h2,h⟩:=bind_some h
  cases h
  simp only [toV,zg,yq h0,yq h1,yq h2]
  rfl
 ·cases h
theorem zkL {s:S} {x:Outc} (h:ziY s = some x):toV s = zaC x:=by
 unfold ziY at h
 split at h
 ·obtain ⟨q0,h0,h⟩:=bind_some h
  obtain ⟨q1,h1,h⟩:=bind_some h
  obtain ⟨q2,h2,h⟩:=bind_some h
  obtain ⟨q3,h3,h⟩:=bind_some h
  obtain ⟨q4,h4,h⟩:=bind_some h
  obtain ⟨q5,h5,h⟩:=bind_some h
  obtain ⟨q6,h6,h⟩:=bind_some h
  cases h
  simp only [toV,zg,yq h0,yq h1,yq h2,yq h3,yq h4,yq h5,yq h6]
  rfl
 ·cases h
theorem zkM {s:S} {x:Word} (h:ziZ s = some x):toV s = QQ x:=by
 unfold ziZ at h
 split at h
 ·obtain ⟨q0,h0,h⟩:=bind_some h
  obtain ⟨q1,h1,h⟩:=bind_some h
  obtain ⟨q2,h2,h⟩:=bind_some h
  cases h
  simp only [toV,zg,yq h0,zfo h1,zfo h2]
  rfl
 ·cases h
theorem zl3 {s:S} {x:Row} (h:zlZ s = some x):toV s = zaV x:=by
 unfold zlZ at h
 split at h
 ·obtain ⟨q0,h0,h⟩:=bind_some h
  obtain ⟨q1,h1,h⟩:=bind_some h
  cases h
  simp only [toV,zg,yq h0,Zw h1]
  rfl
 ·cases h
theorem zi1 {s:S} {x:Fault} (h:zgy s = some x):toV s = zd8 x:=by
 unfold zgy at h
 split at h
 ·obtain ⟨q0,h0,h⟩:=bind_some h
  obtain ⟨q1,h1,h⟩:=bind_some h
  cases h
  simp only [toV,zg,yq h0,yq h1]
  rfl
 ·cases h
theorem zl4 {s:S} {x:Mrk} (h:zl0 s = some x):toV s = qQ x:=by
 unfold zl0 at h
 split at h
 ·obtain ⟨q0,h0,h⟩:=bind_some h
  obtain ⟨q1,h1,h⟩:=bind_some h
  obtain ⟨q2,h2,h⟩:=bind_some h
  obtain ⟨q3,h3,h⟩:=bind_some h
  cases h
  simp only [toV,zg,yq h0,yq h1,yq h2,yq h3]
  rfl
 ·cases h
theorem zoe {s:S} {x:W3} (h:zp2 s = some x):toV s = ziU x:=by
 unfold zp2 at h
 split at h
 ·obtain ⟨q0,h0,h⟩:=bind_some h
  obtain ⟨q1,h1,h⟩:=bind_some h
  obtain ⟨q2,h2,h⟩:=bind_some h
  cases h
  simp only [toV,zg,yq h0,yq h1,yq h2]
  rfl
 ·cases h
theorem zkN {s:S} {x:Pair} (h:zi0 s = some x):toV s = zaD x:=by
 unfold zi0 at h
 split at h
 ·obtain ⟨q0,h0,h⟩:=bind_some h
  obtain ⟨q1,h1,h⟩:=bind_some h
  cases h
  simp only [toV,zg,yq h0,yq h1]
  rfl
 ·cases h
theorem zgz {s:S} {x:Scanner} (h:zcJ s = some x):toV s = zbF x:=by
 unfold zcJ at h
 split at h
 ·obtain ⟨q0,h0,h⟩:=bind_some h
  obtain ⟨q1,h1,h⟩:=bind_some h
  cases h
  simp only [toV,zg,zfo h0,yq h1]
  rfl
 ·cases h
theorem yl:∀ {c:C} {s:S} {x:den c},qC c s = some x->toV s = enc c x
 | .i64,s,x,h=>yq h
 | .u64,s,x,h=>yq h
 | .i32,s,x,h=>yq h
 | .u32,s,x,h=>yq h
 | .u8,s,x,h=>yq h
 | .i16,s,x,h=>yq h
 | .u16,s,x,h=>yq h
 | .i8,s,x,h=>yq h
 | .bool,s,x,h=>zp3 h
 | .str,s,x,h=>zfo h
 | .iv,s,x,h=>zsK h
 | .a4_u64,s,x,h=>zhd h
 | .ID,s,x,h=>zod h
 | .Outc,s,x,h=>zkL h
 | .Word,s,x,h=>zkM h
 | .Row,s,x,h=>zl3 h
 | .Fault,s,x,h=>zi1 h
 | .Mrk,s,x,h=>zl4 h
 | .W3,s,x,h=>zoe h
 | .Pair,s,x,h=>zkN h
 | .Scanner,s,x,h=>zgz h
 | .l_W3,s,x,h=>Zw h
 | .l_Mrk,s,x,h=>Zw h
 | .l_Word,s,x,h=>Zw h
 | .l_Row,s,x,h=>Zw h
 | .l_u8,s,x,h=>Zw h
 | .l_i64,s,x,h=>Zw h
 | .l_str,s,x,h=>Zw h
 | .l_u64,s,x,h=>Zw h
theorem qw:∀ (c:C) (x:den c),toV (refl c x) = enc c x:=by
 intro c x; cases c <;> simp only [refl,enc,zbH,zgr,zkE,zkF,ziX,zkG,zkH,znr,zhX,YP,zns,zeF,znt,zhY,zhZ,zkI,zgs,zkJ,znu,zh0,zdt,zh1,zgt,zeG,zgu,zh2,zgv,zgw,zgx,toV,zg] <;> rfl
end Go.X
namespace Go.X
open Go.Eng
open Go.RowKit
inductive T (α:Type) where
 | nil
 | node (l:T α) (v:Option α) (r:T α)
noncomputable def T.get {α:Type} (t:T α):Nat->Option α :=
 T.rec (motive:=fun _=>Nat->Option α) (fun _=>none) (fun _ v _ gl gr n=>cond (Nat.beq n 0) v (cond (Nat.beq (n % 2) 1) (gl (n / 2)) (gr (n / 2 - 1)))) t
noncomputable def T.setF {α:Type} (f:Nat):T α->Nat->α->T α :=
 Nat.rec (motive:=fun _=>T α->Nat->α->T α) (fun t _ _=>t) (fun _ ih t n x=>T.casesOn (motive:=fun _=>T α) t
  (cond (Nat.beq n 0) (.node .nil (some x) .nil) (cond (Nat.beq (n % 2) 1) (.node (ih .nil (n / 2) x) none .nil) (.node .nil none (ih .nil (n / 2 - 1) x))))
  (fun l v r=>cond (Nat.beq n 0) (.node l (some x) r) (cond (Nat.beq (n % 2) 1) (.node (ih l (n / 2) x) v r) (.node l v (ih r (n / 2 - 1) x))))) f
theorem T.get_node0 {α:Type} (l:T α) (v:Option α) (r:T α) (n:Nat):(T.node l v r).get n = cond (Nat.beq n 0) v (cond (Nat.beq (n % 2) 1) (l.get (n / 2)) (r.get (n / 2 - 1))):=rfl
theorem T.setF_nil {α:Type} (f n:Nat) (x:α):T.setF (f + 1) .nil n x = cond (Nat.beq n 0) (.node .nil (some x) .nil) (cond (Nat.beq (n % 2) 1) (.node (T.setF f .nil (n / 2) x) none .nil) (.node .nil none (T.setF f .nil (n / 2 - 1) x))):=rfl
theorem T.setF_node {α:Type} (f:Nat) (l:T α) (v:Option α) (r:T α) (n:Nat) (x:α):T.setF (f + 1) (.node l v r) n x = cond (Nat.beq n 0) (.node l (some x) r) (cond (Nat.beq (n % 2) 1) (.node (T.setF f l (n / 2) x) v r) (.node l v (T.setF f r (n / 2 - 1) x))):=rfl
noncomputable def T.set {α:Type} (t:T α) (n:Nat) (x:α):T α:=T.setF (n + 1) t n x
theorem zee {n m:Nat} (h:¬ n = m):Nat.beq n m = false:=by
 cases hb:Nat.beq n m
 ·rfl
 ·exact absurd (Nat.eq_of_beq_eq_true hb) h
theorem T.get_nil {α:Type} (n:Nat):(T.nil:T α).get n = none:=rfl
theorem T.get_node {α:Type} (l:T α) (v:Option α) (r:T α) (n:Nat) :
  (T.node l v r).get n = if n = 0 then v else if n % 2 = 1 then l.get (n / 2) else r.get (n / 2 - 1):=by
 rw [T.get_node0]
 by_cases h:n = 0
 ·subst h; rfl
 ·have:Nat.beq n 0 = false:=zee h
  rw [this,if_neg h]
  by_cases h1:n % 2 = 1
  ·rw [if_pos h1,h1]; rfl
  ·have:Nat.beq (n % 2) 1 = false:=zee h1
   rw [this,if_neg h1]; rfl
theorem T.setF_succ {α:Type} (f:Nat) (t:T α) (n:Nat) (x:α):∃ l v r,(∀ m,t.get m = (T.node l v r).get m) /\
  T.setF (f + 1) t n x = if n = 0 then .node l (some x) r else if n % 2 = 1 then .node (T.setF f l (n / 2) x) v r else .node l v (T.setF f r (n / 2 - 1) x):=by
 cases t with
 | nil =>
  refine ⟨.nil,none,.nil,fun m=>by rw [T.get_node]; simp [T.get_nil],?_⟩
  rw [T.setF_nil]
  by_cases h:n = 0
  ·subst h; rfl
  ·have:Nat.beq n 0 = false:=zee h
   rw [this,if_neg h]
   by_cases h1:n % 2 = 1
   ·rw [if_pos h1,h1]; rfl
   ·have:Nat.beq (n % 2) 1 = false:=zee h1
    rw [this,if_neg h1]; rfl
 | node l v r =>
  refine ⟨l,v,r,fun m=>rfl,?_⟩
  rw [T.setF_node]
  by_cases h:n = 0
  ·subst h; rfl
  ·have:Nat.beq n 0 = false:=zee h
   rw [this,if_neg h]
   by_cases h1:n % 2 = 1
   ·rw [if_pos h1,h1]; rfl
   ·have:Nat.beq (n % 2) 1 = false:=zee h1
    rw [this,if_neg h1]; rfl
theorem T.get_setF {α:Type} (x:α):∀ (f:Nat) (t:T α) (n:Nat),n + 1 < 2 ^ f->∀ m,(T.setF f t n x).get m = if m = n then some x else t.get m
 | 0,_,n,h,_=>by simp at h
 | f + 1,t,n,h,m=>by
  obtain ⟨l,v,r,h1,h2⟩:=T.setF_succ f t n x
  rw [h2,h1 m]
  rw [Nat.pow_succ] at h
  by_cases h0:n = 0
  ·subst h0
   rw [if_pos rfl,T.get_node,T.get_node]
   by_cases hm:m = 0
   ·rw [if_pos hm,if_pos hm]
   ·rw [if_neg hm,if_neg hm,if_neg hm]
  ·rw [if_neg h0]
   by_cases h3:n % 2 = 1
   ·rw [if_pos h3,T.get_node,T.get_node]
    by_cases hm:m = 0
    ·rw [if_pos hm,if_pos hm,if_neg (by omega)]
    ·rw [if_neg hm,if_neg hm]
     by_cases hm1:m % 2 = 1
     ·rw [if_pos hm1,if_pos hm1,T.get_setF x f l (n / 2) (by omega) (m / 2)]
      by_cases he:m / 2 = n / 2
      ·rw [if_pos he,if_pos (by omega)]
      ·rw [if_neg he,if_neg (by omega)]
     ·rw [if_neg hm1,if_neg hm1,if_neg (by omega)]
   ·rw [if_neg h3,T.get_node,T.get_node]
    by_cases hm:m = 0
    ·rw [if_pos hm,if_pos hm,if_neg (by omega)]
    ·rw [if_neg hm,if_neg hm]
     by_cases hm1:m % 2 = 1
     ·rw [if_pos hm1,if_pos hm1,if_neg (by omega)]
     ·rw [if_neg hm1,if_neg hm1,T.get_setF x f r (n / 2 - 1) (by omega) (m / 2 - 1)]
      by_cases he:m / 2 - 1 = n / 2 - 1
      ·rw [if_pos he,if_pos (by omega)]
      ·rw [if_neg he,if_neg (by omega)]
theorem T.get_set {α:Type} {t:T α} {n:Nat} {x:α} (m:Nat):(t.set n x).get m = if m = n then some x else t.get m :=
 T.get_setF x (n + 1) t n Nat.lt_two_pow_self m
noncomputable def T.mapV {α:Type} (f:α->α) (t:T α):T α :=
 T.rec (motive:=fun _=>T α) .nil (fun _ v _ ml mr=>.node ml (v.map f) mr) t
theorem T.get_mapV {α:Type} (f:α->α):∀ (t:T α) (n:Nat),(t.mapV f).get n = (t.get n).map f
 | .nil,n=>rfl
 | .node l v r,n=>by
  show (T.node (l.mapV f) (v.map f) (r.mapV f)).get n = _
  rw [T.get_node,T.get_node]
  split
  ·rfl
  split
  ·exact T.get_mapV f l _
  ·exact T.get_mapV f r _
abbrev Tk:=Option (Nat × TypeId)
inductive yW where
 | cells (cs:List S) (ty:TypeId)
 | map (mt:TypeId) (kc vc:C) (l:List (den kc × den vc))
def zD:yW->Box
 | .cells cs ty=>⟨zg cs,ty⟩
 | .map mt kc vc l=>⟨QJ (enc kc) (enc vc) l,1000000000 + mt⟩
structure RO where
 all:Bool
 mask:Nat
 sl:Nat->S × Tk
 nb:Nat
 bmask:Nat
 bx:Nat->Option yW
 fl:Bool
structure Mm where
 sl:T (S × Tk)
 bx:List (Option yW)
def RO.own (ro:RO) (s:Nat):Bool:=bif ro.all then true else Nat.testBit ro.mask s
def RO.ownB (ro:RO) (i:Nat):Bool:=bif Nat.ble ro.nb i then true else Nat.testBit ro.bmask i
noncomputable def zy (ro:RO) (m:Mm) (s:Nat):S × Tk:=bif ro.own s then (m.sl.get s).getD (.any,none) else ro.sl s
noncomputable def zT (ro:RO) (m:Mm) (i:Nat):Option yW:=bif ro.ownB i then (m.bx[i]?).getD none else ro.bx i
noncomputable def za (ro:RO) (m:Mm):St :=
 ⟨m.bx.length,fun s=>(toV (zy ro m s).1,(zy ro m s).2),fun i=>(zT ro m i).map zD⟩
variable {β:Type}
noncomputable def qS (ro:RO) (m:Mm) (dst:Option Nat) (v:S) (tk:Tk) (k:Mm->Option β):Option β :=
 match dst with
 | none=>k m
 | some d=>bif ro.own d then k ⟨m.sl.set d (v,tk),m.bx⟩ else none
def zaE (t:Nat) (x:S × Tk):S × Tk:=match x.2 with
 | some (t',e)=>bif Nat.beq t' t || Nat.beq t' (t + 3000000) then (x.1,none) else x
 | none=>x
noncomputable def znv (ro:RO) (m:Mm) (dr:Bool) (o:Oper) (v:S) (tk:Tk) (k:Mm->Option β):Option β :=
 bif yE o then qS ro m o.dst v tk k else
  match tk with
  | none=>qS ro m o.dst v none k
  | some (t,e)=>bif Nat.blt (tcl t) 2 && (!dr || QD o && (match o.dst with | some d=>Nat.beq d (t % 1000000) | none=>false)) then qS ro ⟨m.sl.mapV (zaE t),m.bx⟩ o.dst v (some (t,e)) k else none
def zgA:Value->S
 | .int k n=>.int k n
 | .bool b=>.bool b
 | .string s=>bif Nat.ble s.size maxLen then .str s.data.toList else .any
 | .pointer none=>.nilp
 | .slice none 0 0=>.rows []
 | .nilFunc=>.nilfn
 | .nilIface=>.nilif
 | _=>.any
def zaW:Value->S
 | .agg cs=>bif cs.toList.all (fun x=>x.oneCell') then .agg (cs.toList.map zgA) else .any
 | .tuple cs=>.tup (cs.toList.map zgA)
 | v=>zgA v
noncomputable def zx (ro:RO) (m:Mm):Operand->S
 | .tmp t=>(zy ro m t).1
 | .const v=>zaW v
 | .global g=>.gel g 0
 | .func f=>.fn (.func f) [] []
noncomputable def zrA (ro:RO) (m:Mm):Operand->Tk
 | .tmp t=>(zy ro m t).2
 | _=>none
instance (k:IntKind) (n:Int):Decidable (InR k n):=inferInstanceAs (Decidable (k.wrap n = n))
def zO (k:IntKind) (a b:Int):Option Int:=if InR k (a + b) then some (a + b) else none
def Yb (k:IntKind) (a b:Int):Option Int:=if InR k (a - b) then some (a - b) else none
def zbd (k:IntKind) (a b:Int):Option Int:=if InR k (a * b) then some (a * b) else none
def zkO (k:IntKind) (a b:Int):Option Int:=if b ≠ 0/\InR k (a.tdiv b) then some (a.tdiv b) else none
def zl5 (a b:Int):Option Int:=if b ≠ 0 then some (a.tmod b) else none
def zaF (s t:List UInt8):Option (List UInt8):=if s.length + t.length <= maxLen then some (s++t) else none
def slc {α:Type} (l:List α) (lo hi:Int):Option (List α):=if 0 <= lo/\lo <= hi/\hi <= l.length then some ((l.take hi.toNat).drop lo.toNat) else none
def idx {α:Type} (l:List α) (i:Int):Option α:=if 0 <= i then l[i.toNat]? else none
def yi (s:List UInt8) (i:Int):Option Int:=(idx s i).map fun b=>(b.toNat:Int)
def app {α:Type} (by':Nat) (l m:List α):Option (List α):=if (l.length + m.length) * by' <= 140737488355328 then some (l++m) else none
def yd (s:List UInt8):List Int:=s.map fun b=>(b.toNat:Int)
def zab (l:List Int):Option (List UInt8):=if l.all (fun n=>decide (0 <= n) && decide (n < 256)) then some (l.map fun n=>UInt8.ofNat n.toNat) else none
def br {α:Type} (b:Bool) (x y:α):α:=cond b x y
def zbI:S->Option Nat
 | .agg cs=>some cs.length
 | .any | .un | .tup _=>none
 | .gel _ _=>none
 | _=>some 1
def qN:S->List S
 | .agg cs=>cs
 | v=>[v]
def zeH:S->Option CK
 | .int k _=>some (.int k)
 | .bool _=>some .bool
 | .str _=>some .str
 | _=>none
def zfp:S->S->Bool
 | .int _ a,.int _ b=>a == b
 | .bool a,.bool b=>a == b
 | .str a,.str b=>a == b
 | _,_=>false
def eqS:List S->List S->Bool
 | [x],[y]=>zfp x y
 | x :: xs,y :: ys=>zfp x y && eqS xs ys
 | _,_=>true
def zof:CK->CK->Bool
 | .int k,.int k'=>decide (k = k')
 | .bool,.bool=>true
 | .str,.str=>true
 | _,_=>false
def Zx:List CK->List S->Bool
 | [],[]=>true
 | k :: ks,c :: cs=>(match zeH c with | some k'=>zof k' k | none=>false) && Zx ks cs
 | _,_=>false
mutual
def yD:S->Bool
 | .loc _ _=>false
 | .loco _ _ _ _=>false
 | .mref _=>false
 | .agg cs=>qD cs
 | .tup cs=>qD cs
 | .elt cs _=>qD cs
 | .rows vs=>qD vs
 | .fn _ first cap=>qD first && qD cap
 | .iface _ v=>yD v
 | _=>true
def qD:List S->Bool
 | []=>true
 | c :: cs=>yD c && qD cs
end
def zl6:(c:C)->den c->Bool
 | .i64,n=>decide (InR .i64 n)
 | .u64,n=>decide (InR .u64 n)
 | .str,_=>true
 | .Pair,p=>decide (InR .i64 p.a) && decide (InR .i64 p.b)
 | .ID,p=>decide (InR .i64 p.Node) && decide (InR .u64 p.Seq) && decide (InR .i64 p.Off)
 | .Outc,p=>decide (InR .i64 p.Tick) && decide (InR .i64 p.Node) && decide (InR .i64 p.Kind) && decide (InR .i64 p.ID.Node) && decide (InR .u64 p.ID.Seq) && decide (InR .i64 p.ID.Off) && decide (InR .i64 p.Other)
 | _,_=>false
def ckC:C->Option (Bool × List CK)
 | .i64=>some (false,[.int .i64])
 | .u64=>some (false,[.int .u64])
 | .str=>some (false,[.str])
 | .Pair=>some (true,[.int .i64,.int .i64])
 | .ID=>some (true,[.int .i64,.int .u64,.int .i64])
 | .Outc=>some (true,[.int .i64,.int .i64,.int .i64,.int .i64,.int .u64,.int .i64,.int .i64])
 | _=>none
def zi2:List CK->List CK->Bool
 | [],[]=>true
 | a :: l,b :: m=>zof a b && zi2 l m
 | _,_=>false
def zrB {α β:Type} [DecidableEq α] (kin:α->Bool) (l:List (α × β)) (k:α):Option (Option β):=bif kin k && l.all (fun e=>kin e.1) then some (zg5 l k) else none
def zrC {α β:Type} [DecidableEq α] (kin:α->Bool) (l:List (α × β)) (k:α) (v:β):Option (List (α × β)):=bif kin k && l.all (fun e=>kin e.1) then some (znR l k v) else none
def zsL {α β:Type} [DecidableEq α] (kin:α->Bool) (l:List (α × β)) (k:α):Option (List (α × β)):=bif kin k && l.all (fun e=>kin e.1) then some (zo7 l k) else none
theorem zrD {a b:CK} (h:zof a b = true):a = b:=by
 cases a <;> cases b <;> simp [zof] at h <;> simp [*]
theorem zdu:∀ {a b:List CK},zi2 a b = true->a = b
 | [],[],_=>rfl
 | [],_ :: _,h=>by simp [zi2] at h
 | _ :: _,[],h=>by simp [zi2] at h
 | a :: l,b :: m,h=>by
  simp only [zi2,zuc] at h
  rw [zrD h.1,zdu h.2]
theorem zac {c:C} {ag:Bool} {ks:List CK} (h:ckC c = some (ag,ks)) {x:den c} (hx:zl6 c x = true):Qg ag ks (enc c x):=by
 cases c <;> simp only [ckC,zuf,Prod.mk.injEq,reduceCtorEq] at h <;> obtain ⟨rfl,rfl⟩:=h <;>
  simp only [zl6,zuc,decide_eq_true_eq] at hx
 ·exact ⟨rfl,rfl,⟨⟨rfl,hx⟩,trivial⟩⟩
 ·exact ⟨rfl,rfl,⟨⟨rfl,hx⟩,trivial⟩⟩
 ·exact ⟨rfl,rfl,trivial⟩
 ·exact ⟨rfl,rfl,⟨⟨rfl,hx.1.1⟩,⟨rfl,hx.1.2⟩,⟨rfl,hx.2⟩,trivial⟩⟩
 ·obtain ⟨⟨⟨⟨⟨⟨h1,h2⟩,h3⟩,h4⟩,h5⟩,h6⟩,h7⟩:=hx
  exact ⟨rfl,rfl,⟨⟨rfl,h1⟩,⟨rfl,h2⟩,⟨rfl,h3⟩,⟨rfl,h4⟩,⟨rfl,h5⟩,⟨rfl,h6⟩,⟨rfl,h7⟩,trivial⟩⟩
 ·exact ⟨rfl,rfl,⟨⟨rfl,hx.1⟩,⟨rfl,hx.2⟩,trivial⟩⟩
theorem zbJ {c:C} {d:DecidableEq (den c)} (h:dq c = some d) (a b:den c):qM (enc c a) (enc c b) = decide (a = b):=by
 have key:(qM (enc c a) (enc c b) = true ↔ a = b):=by
  cases c <;> simp only [dq,reduceCtorEq] at h
  ·show qM (.int .i64 a) (.int .i64 b) = true ↔ a = b
   simp [qM,V.cellsL,eqV,Qn]
  ·show qM (.int .u64 a) (.int .u64 b) = true ↔ a = b
   simp [qM,V.cellsL,eqV,Qn]
  ·show qM (.str a) (.str b) = true ↔ a = b
   simp [qM,V.cellsL,eqV,Qn]
  ·obtain ⟨a1,a2,a3⟩:=a; obtain ⟨b1,b2,b3⟩:=b
   show qM (zd7 ⟨a1,a2,a3⟩) (zd7 ⟨b1,b2,b3⟩) = true ↔ _
   simp [qM,zd7,V.cellsL,eqV,Qn]
  ·obtain ⟨a1,a2,a3,⟨a4,a5,a6⟩,a7⟩:=a; obtain ⟨b1,b2,b3,⟨b4,b5,b6⟩,b7⟩:=b
   show qM (zaC ⟨a1,a2,a3,⟨a4,a5,a6⟩,a7⟩) (zaC ⟨b1,b2,b3,⟨b4,b5,b6⟩,b7⟩) = true ↔ _
   simp [qM,zaC,V.cellsL,eqV,Qn,and_assoc]
  ·obtain ⟨a1,a2⟩:=a; obtain ⟨b1,b2⟩:=b
   show qM (zaD ⟨a1,a2⟩) (zaD ⟨b1,b2⟩) = true ↔ _
   simp [qM,zaD,V.cellsL,eqV,Qn]
 rw [Bool.eq_iff_iff,key]; simp
section
variable (P:Program) (code:TypeId->Option C) (ro:RO) (m:Mm)
def zad (c:C):List S->Option (List (den c))
 | []=>some []
 | s :: ss=>match qC c s with
  | some x=>(match zad c ss with | some xs=>some (x :: xs) | none=>none)
  | none=>none
def zrE (c:C) (g off n:Nat):Option (den c):=match GL g with
 | some vs=>if off + n <= vs.length then qC c (.agg (((vs.map zaW).drop off).take n)) else none
 | none=>none
def zsM (c:C) (g off:Nat):Option (den c):=match GL g with
 | some vs=>(match (vs.map zaW)[off]? with | some s=>qC c s | none=>none)
 | none=>none
def zp4 (c:C) (g n:Nat):Nat->Nat->Option (List (den c))
 | 0,_=>some []
 | k + 1,off=>match zrE c g off n,zp4 c g n k (off + n) with
  | some x,some l=>some (x :: l)
  | _,_=>none
def ztD (t:TypeId):Option (C × Nat):=match code t with | some c=>zt6 c | none=>none
noncomputable def zkP (t:TypeId) (x:S) (K:S->Option β):Option β :=
 match x,Zb P t with
 | .elt cs off,some true=>(match zj P t with | some n=>bif Nat.ble (off + n) cs.length then K (.agg ((cs.drop off).take n)) else none | none=>none)
 | .elt cs off,some false=>(match cs[off]? with | some c=>K c | none=>none)
 | .loc i off,some true=>(match zT ro m i,zj P t with | some (.cells cs ty),some n=>bif Nat.blt ty 1000000000 && Nat.ble (off + n) cs.length then K (.agg ((cs.drop off).take n)) else none | _,_=>none)
 | .loc i off,some false=>(match zT ro m i with | some (.cells cs ty)=>bif Nat.blt ty 1000000000 then (match cs[off]? with | some c=>K c | none=>none) else none | _=>none)
 | .loco i a n ix,some false=>(match zT ro m i,code t with
  | some (.cells cs ty),some c=>bif Nat.blt ty 1000000000 && Nat.ble (a + n) cs.length then (match zad c ((cs.drop a).take n) with | some l=>(idx l ix).bind fun y=>K (refl c y) | none=>none) else none
  | _,_=>none)
 | .gel g off,some true=>(match zj P t,code t with | some n,some c=>(zrE c g off n).bind fun y=>K (refl c y) | _,_=>none)
 | .gel g off,some false=>(match code t with | some c=>(zsM c g off).bind fun y=>K (refl c y) | none=>none)
 | _,_=>none
def zt7 (k:IntKind) (a b:Int):Option Int:=if 0 <= b then some (k.wrap (a * 2 ^ (min b.toNat k.bits))) else none
def zrF (k:IntKind) (a b:Int):Option Int:=if 0 <= b then some (a.fdiv (2 ^ (min b.toNat k.bits))) else none
def shX (op:BinOp) (k:IntKind) (a b:Int) (K:S->Option β):Option β :=
 match op with
 | .shl=>(zt7 k a b).bind fun n=>K (.int k n)
 | .shr=>(zrF k a b).bind fun n=>K (.int k n)
 | _=>none
def zsN:BinOp->Bool
 | .shl=>true
 | .shr=>true
 | _=>false
def zsO (op:BinOp) (k:IntKind) (a b:Int) (K:S->Option β):Option β :=
 match op with
 | .add=>(zO k a b).bind fun n=>K (.int k n)
 | .sub=>(Yb k a b).bind fun n=>K (.int k n)
 | .mul=>(zbd k a b).bind fun n=>K (.int k n)
 | .quo=>(zkO k a b).bind fun n=>K (.int k n)
 | .rem=>(zl5 a b).bind fun n=>K (.int k n)
 | .eql=>K (.bool (a == b))
 | .neq=>K (.bool (a != b))
 | .lss=>K (.bool (decide (a < b)))
 | .leq=>K (.bool (decide (a <= b)))
 | .gtr=>K (.bool (decide (b < a)))
 | .geq=>K (.bool (decide (b <= a)))
 | .and=>K (.int k (zcj .and k a b))
 | .or=>K (.int k (zcj .or k a b))
 | .xor=>K (.int k (zcj .xor k a b))
 | .andNot=>K (.int k (zcj .andNot k a b))
 | _=>none
def zsP (op:BinOp) (s t:List UInt8) (K:S->Option β):Option β :=
 match op with
 | .add=>(zaF s t).bind fun r=>K (.str r)
 | .eql=>K (.bool (s == t))
 | .neq=>K (.bool (!(s == t)))
 | .lss=>K (.bool (Op.bytesLess s t))
 | .leq=>K (.bool (Op.bytesLess s t || s == t))
 | .gtr=>K (.bool (!(Op.bytesLess s t || s == t)))
 | .geq=>K (.bool (!Op.bytesLess s t))
 | _=>none
def zsQ (op:BinOp) (xT:TypeId) (a b:S) (K:S->Option β):Option β :=
 match a,b with
 | .int k x,.int k' y=>bif zsN op then shX op k x y K else if k = k' then zsO op k x y K else none
 | .str s,.str t=>zsP op s t K
 | .bool x,.bool y=>(match op,qK P xT with
  | .eql,.bool=>K (.bool (x == y))
  | .neq,.bool=>K (.bool (!(x == y)))
  | _,_=>none)
 | .agg cs,.agg ds=>(match op,eqT P xT with
  | .eql,some ks=>bif Zx ks cs && Zx ks ds then K (.bool (eqS cs ds)) else none
  | .neq,some ks=>bif Zx ks cs && Zx ks ds then K (.bool (!eqS cs ds)) else none
  | _,_=>none)
 | _,_=>none
def unX (op:UnOp) (x:S) (K:S->Option β):Option β :=
 match op,x with
 | .not,.bool b=>K (.bool (!b))
 | .neg,.int k n=>(Yb k 0 n).bind fun r=>K (.int k r)
 | _,_=>none
def zp5 (s d:TypeId) (x:S) (K:S->Option β):Option β :=
 match x,qK P s,qK P d with
 | .int _ n,.int _,.int k=>K (.int k (k.wrap n))
 | .str l,.str,.str=>K (.str l)
 | .str l,.str,.other=>(match qv P d with
  | some e=>(match qK P e with | .int .u8=>K (.lst .u8 (yd l)) | _=>none)
  | none=>none)
 | .lst .u8 rows,.other,.str=>(match qv P s with
  | some e=>(match qK P e with | .int .u8=>(zab rows).bind fun r=>K (.str r) | _=>none)
  | none=>none)
 | _,_,_=>none
noncomputable def zcK (x:Option Operand) (d:Int) (K:Int->Option β):Option β :=
 match x with
 | none=>K d
 | some x=>(match zx ro m x with
  | .int _ i=>K i
  | _=>none)
def zcr (t:TypeId) (c:C):Option (TypeId × Nat):=match qv P t with
 | some e=>(match zj P e with | some n=>bif Nat.beq n (csz c) then some (e,n) else none | none=>none)
 | none=>none
noncomputable def zi3 (t:TypeId) (x:S) (lo hi mx:Option Operand) (dst:Option Nat) (K:S->Tk->Option β):Option β :=
 match x,mx with
 | .str s,none=>(match qK P t with
  | .str=>zcK ro m lo 0 fun l=>zcK ro m hi s.length fun h=>(slc s l h).bind fun r=>K (.str r) none
  | _=>none)
 | .lst c l,none=>(match zcr P t c with
  | some _=>zcK ro m lo 0 fun a=>zcK ro m hi l.length fun h=>(slc l a h).bind fun r=>K (.lst c r) none
  | none=>none)
 | .lst c l,some mx=>(match zcr P t c,hi with
  | some (e,_),some hi=>zcK ro m lo 0 fun a=>zcK ro m (some hi) l.length fun h=>zcK ro m (some mx) l.length fun h'=>br (decide (h' = h)) ((slc l a h).bind fun r=>K (.lst c r) (some (zij hi (dst.getD 0),e))) none
  | _,_=>none)
 | _,_=>none
noncomputable def zi4 (t:TypeId) (x:S) (lo hi mx:Option Operand) (dst:Option Nat) (K:S->Tk->Option β):Option β :=
 match x with
 | .gel g a=>(match lo,hi,mx,zfz P t with
  | none,none,none,some (len,e)=>(match zj P e,code e with
   | some n,some c=>bif Nat.beq n (csz c) && Nat.ble len maxLen && Nat.blt 0 len then (zp4 c g n len a).bind fun r=>K (.lst c r) none else none
   | _,_=>none)
  | _,_,_,_=>none)
 | x=>zi3 P ro m t x lo hi mx dst K
def zl7 (s:TypeId) (i:Nat) (x:S) (K:S->Option β):Option β :=
 match Y1 P s i with
 | some (off,t)=>(match zj P t with
  | some n=>bif Nat.beq n 0 then none else (match x with
   | .loc j a=>K (.loc j (a + off))
   | .elt cs a=>K (.elt cs (a + off))
   | .gel g a=>(match GL g with | some _=>K (.gel g (a + off)) | none=>none)
   | _=>none)
  | none=>none)
 | none=>none
def zl8 (s:TypeId) (i:Nat) (x:S) (K:S->Option β):Option β :=
 match Y1 P s i,x with
 | some (off,t),.agg cs=>(match Zb P t,zj P t with
  | some true,some n=>K (.agg ((cs.drop off).take n))
  | some false,_=>(match cs[off]? with | some c=>K c | none=>none)
  | _,_=>none)
 | _,_=>none
def inB (i:Int) (n:Nat):Bool:=decide (0 <= i) && decide (i < (n:Int))
def zl9 (t:TypeId) (x i:S) (K:S->Option β):Option β :=
 match x,i with
 | .lst c l,.int _ i=>(match zcr P t c with
  | some _=>(idx l i).bind fun x=>K (.elt (qN (refl c x)) 0)
  | none=>none)
 | .loc j a,.int _ i=>(match zfz P t with
  | some (len,e)=>(match zj P e with
   | some n=>(match ztD code t with
    | some (_,k)=>bif Nat.beq n 1 && Nat.beq k len then br (inB i len) (K (.loco j a len i)) none else none
    | none=>br (inB i len) (K (.loc j (a + i.toNat * n))) none)
   | none=>none)
  | none=>none)
 | .elt cs a,.int _ i=>(match zfz P t with
  | some (len,e)=>(match zj P e with | some n=>br (inB i len) (K (.elt cs (a + i.toNat * n))) none | none=>none)
  | none=>none)
 | .gel g a,.int _ i=>(match zfz P t with
  | some (len,e)=>(match zj P e,GL g with | some n,some _=>br (inB i len) (K (.gel g (a + i.toNat * n))) none | _,_=>none)
  | none=>none)
 | _,_=>none
def zma (t:TypeId) (x i:S) (K:S->Option β):Option β :=
 match x,i with
 | .str s,.int _ i=>(match qK P t with
  | .str=>(yi s i).bind fun b=>K (.int .u8 b)
  | _=>none)
 | .agg cs,.int _ i=>(match zfz P t with
  | some (len,e)=>(match Zb P e,zj P e with
   | some false,some n=>(match ztD code t with
    | some (c,_)=>bif Nat.beq n 1 then br (inB i len) (match zad c cs with | some l=>(idx l i).bind fun y=>K (refl c y) | none=>none) none else none
    | none=>br (inB i len) (match cs[i.toNat * n]? with | some c=>K c | none=>none) none)
   | _,_=>none)
  | none=>none)
 | _,_=>none
def zkQ (place:Nat->Option (Nat × Nat)) (cells:List S):List (Nat × S)->Option (List S)
 | []=>some cells
 | (i,v) :: rest =>
  match place i,zbI v with
  | some (off,size),some n=>bif Nat.beq n size && Nat.ble (off + n) cells.length then zkQ place (cells.take off++qN v++cells.drop (off + n)) rest else none
  | _,_=>none
def zbK (t:TypeId):Option S:=((P.info? t).bind (·.zero)).map zaW
noncomputable def zmb (t:TypeId) (parts:List (Nat × Operand)) (K:S->Option β):Option β :=
 match zbK P t,zfl P t with
 | some zv,some place=>(match zbI zv with
  | some _=>(match zkQ place (qN zv) (parts.map fun x=>(x.1,zx ro m x.2)) with
   | some out=>K (.agg out)
   | none=>none)
  | none=>none)
 | _,_=>none
def zi5 (n:Nat):List S->Bool
 | []=>true
 | s :: ss=>(match zbI s with | some k=>Nat.beq k n | none=>false) && zi5 n ss
noncomputable def zi6 (t:TypeId) (len:Nat) (parts:List (Nat × Operand)) (dst:Option Nat) (K:S->Tk->Option β):Option β :=
 match qv P t with
 | some e=>(match zj P e,zbK P e with
  | some sz,some zv=>(match zbI zv with
   | some zn=>bif !Nat.beq sz 0 && Nat.beq zn sz && Nat.beq parts.length len && Nat.ble (len * sz) 16777216 && zjL parts 0 then
     (match code e with
     | some c=>(match zad c (parts.map fun x=>zx ro m x.2) with
      | some l=>bif Nat.beq (csz c) sz then K (.lst c l) (some (dst.getD 0,e)) else none
      | none=>none)
     | none=>bif zi5 sz (parts.map fun x=>zx ro m x.2) then K (.rows (parts.map fun x=>zx ro m x.2)) (some (dst.getD 0,e)) else none)
    else none
   | none=>none)
  | _,_=>none)
 | none=>none
def zsR (x:S) (K:S->Option β):Option β :=
 match x with
 | .loc i off=>K (.loc i off)
 | .elt cs off=>K (.elt cs off)
 | .gel g off=>(match GL g with | some _=>K (.gel g off) | none=>none)
 | _=>none
def zsS (t:TypeId) (x:S) (K:S->Option β):Option β :=
 match x with
 | .lst c l=>(match qv P t with | some _=>K (.int .i64 l.length) | none=>none)
 | .rows vs=>(match qv P t with | some _=>K (.int .i64 vs.length) | none=>none)
 | .str s=>(match qK P t with | .str=>K (.int .i64 s.length) | _=>none)
 | _=>none
def zgB (b:Builtin) (args:List S) (tys:List TypeId) (K:S->Option β):Option β :=
 match b,args,tys with
 | .len,[x],[t]=>zsS P t x K
 | .max,[.int k a,.int k' b],[_,_]=>if k = k' then K (.int k (max a b)) else none
 | .min,[.int k a,.int k' b],[_,_]=>if k = k' then K (.int k (min a b)) else none
 | _,_,_=>none
noncomputable def zi7 (o:Oper) (x:Operand) (K:S->Tk->Option β):Option β :=
 match x with
 | .const (.slice none 0 0)=>(match qv P o.type with
  | some e=>(match code e with
   | some c=>K (.lst c []) (some (o.dst.getD 0,e))
   | none=>K (.rows []) (some (o.dst.getD 0,e)))
  | none=>K (.rows []) none)
 | x=>K (zx ro m x) (zrA ro m x)
def zp6 (c a b:S) (K:S->Option β):Option β :=
 match c with
 | .bool t=>(match a,b with
  | .bool x,.bool y=>K (.bool (bif t then x else y))
  | .int k x,.int k' y=>if k = k' then K (.int k (bif t then x else y)) else none
  | .str x,.str y=>K (.str (bif t then x else y))
  | a,b=>br t (K a) (K b))
 | _=>none
noncomputable def zp7 (o:Oper) (K:S->Tk->Option β):Option β :=
 match o.op with
 | .move x=>K (zx ro m x) (zrA ro m x)
 | .assign x=>zi7 P code ro m o x K
 | .pick c x y=>zp6 (zx ro m c) (zx ro m x) (zx ro m y) (K · none)
 | .load t x=>zkP P code ro m t (zx ro m x) (K · none)
 | .binOp op xT x y _=>zsQ P op xT (zx ro m x) (zx ro m y) (K · none)
 | .unOp op _ x=>unX op (zx ro m x) (K · none)
 | .convert s d x=>zp5 P s d (zx ro m x) (K · none)
 | .makeInterface t x=>bif zik P t then K (.iface t (zx ro m x)) none else none
 | .makeFunc f first cap=>K (.fn f (first.toList.map (zx ro m)) (cap.toList.map (zx ro m))) none
 | .slice t x lo hi mx=>zi4 P code ro m t (zx ro m x) lo hi mx o.dst K
 | .fieldAddr s x i=>zl7 P s i (zx ro m x) (K · none)
 | .field s x i=>zl8 P s i (zx ro m x) (K · none)
 | .indexAddr t x i=>zl9 P code t (zx ro m x) (zx ro m i) (K · none)
 | .index t x i=>zma P code t (zx ro m x) (zx ro m i) (K · none)
 | .extract x i=>(match zx ro m x with | .tup vs=>(match vs[i]? with | some v=>K v none | none=>none) | _=>none)
 | .build t parts=>zmb P ro m t parts.toList (K · none)
 | .buildSlice t len parts=>zi6 P code ro m t len parts.toList o.dst K
 | .nilCheck x=>zsR (zx ro m x) (K · none)
 | .call { callee:=.builtin b,args,argTypes }=>zgB P b (args.toList.map (zx ro m)) argTypes.toList (K · none)
 | _=>none
end
end Go.X
namespace Go.X
open Go.Eng
open Go.RowKit
mutual
def Qo (f:Nat->Nat):S->S
 | .loc i off=>.loc (f i) off
 | .loco i off n ix=>.loco (f i) off n ix
 | .mref i=>.mref (f i)
 | .agg cs=>.agg (zaG f cs)
 | .tup cs=>.tup (zaG f cs)
 | .elt cs off=>.elt (zaG f cs) off
 | .rows vs=>.rows (zaG f vs)
 | .fn g first cap=>.fn g (zaG f first) (zaG f cap)
 | .iface t v=>.iface t (Qo f v)
 | v=>v
def zaG (f:Nat->Nat):List S->List S
 | []=>[]
 | c :: cs=>Qo f c :: zaG f cs
end
mutual
def ZJ:S->List Nat
 | .loc i _=>[i]
 | .loco i _ _ _=>[i]
 | .mref i=>[i]
 | .agg cs=>yP cs
 | .tup cs=>yP cs
 | .elt cs _=>yP cs
 | .rows vs=>yP vs
 | .fn _ first cap=>yP first++yP cap
 | .iface _ v=>ZJ v
 | _=>[]
def yP:List S->List Nat
 | []=>[]
 | c :: cs=>ZJ c++yP cs
end
def Qk:List Nat->List Nat->List Nat
 | [],acc=>acc
 | i :: is,acc=>bif acc.any (Nat.beq i) then Qk is acc else Qk is (acc++[i])
def zef:List Nat->Nat->Nat
 | [],_=>0
 | x :: xs,i=>bif Nat.beq x i then 0 else zef xs i + 1
def zbL:yW->Bool
 | .cells cs _=>qD cs
 | .map _ _ _ _=>true
structure ze (P:Program) where
 f:FuncId
 run:{β:Type}->List S->List yW->(S->List yW->Option β)->Option (Option β)
 sound:∀ {β:Type} (args:List S) (ins:List yW) (K:S->List yW->Option β) (r:β),run args ins K = some (some r) ->
  ∃ res outs,K res outs = some r/\zaR P f = true/\Go.Eng.Fn P f (zg args) (ins.map zD) (toV res) (outs.map zD)/\yD res = true/\(∀ B ∈ outs,zbL B = true)/\outs.length = ins.length
def zkR (v:Value):Option FuncId->Array Value
 | none=>#[v]
 | some g=>#[v,.func (.func g) #[] #[]]
structure zr2 (P:Program) (f:FuncId) (g:Option FuncId) {α:Type} (enc:α->V) (sz:Nat) (srt:List α->List α):Prop where
 nil:∀ (w:World) (pr:Nat->Nat->Prop) (base:Option Addr) (cap:Nat),HL w pr->Calls P f (zkR (.slice base 0 cap) g) w fun en w'=>en = .returned (.tuple #[])/\Below w.heap.size w w'/\DLE w w'
 row:∀ (w:World) (pr:Nat->Nat->Prop) (lam:Nat->Option Nat) (blk cap:Nat) (d:List α) (cur:Array Value) (e:TypeId),HL w pr->(∀ k vs,GL k = some vs->blk ≠ k)->d ≠ []->d.length <= cap->cap <= maxLen->d.length < 4611686018427387904 ->
  w.heap[blk]? = some (.cells cur e (0,0))->cur.size = cap * sz->RR ⟨w,pr,lam⟩ blk sz 0 (d.map enc) ->
  Calls P f (zkR (.slice (some ⟨blk,0,none⟩) d.length cap) g) w fun en w'=>en = .returned (.tuple #[]) /\
   ∃ w1 cur',ze6 w w1 blk/\w1.heap[blk]? = some (.cells cur' e (0,0))/\cur'.size = cur.size/\RR ⟨w1,pr,lam⟩ blk sz 0 ((srt d).map enc)/\Below w1.heap.size w1 w'/\DLE w1 w'
 len:∀ d,(srt d).length = d.length
structure zdv (P:Program) where
 f:FuncId
 g:Option FuncId
 c:C
 srt:List (den c)->List (den c)
 sound:zr2 P f g (enc c) (csz c) srt
 go:zaR P f = true
structure zcL (P:Program) where
 f:FuncId
 c:C
 e:TypeId
 run:List S->Option (Option (List (den c)))
 sound:∀ (args:List S) (l:List (den c)),run args = some (some l)->zaR P f = true/\FnO P f (zg args) (.list (l.map (enc c))) e
structure zeg (P:Program) where
 f:FuncId
 p:Nat
 c:C
 e:TypeId
 run:{β:Type}->List S->List yW->(List (den c)->List yW->Option β)->Option (Option β)
 sound:∀ {β:Type} (args:List S) (ins:List yW) (K:List (den c)->List yW->Option β) (r:β),run args ins K = some (some r) ->
  ∃ l outs,K l outs = some r/\zaR P f = true/\FnM P f (zg args) (ins.map zD) p e (.list (l.map (enc c))) (outs.map zD)/\(∀ B ∈ outs,zbL B = true)/\outs.length = ins.length
def zfq {P:Program}:List (zeg P)->FuncId->Option (zeg P)
 | [],_=>none
 | s :: ss,f=>bif Nat.beq s.f f then some s else zfq ss f
def zfr {P:Program}:List (zcL P)->FuncId->Option (zcL P)
 | [],_=>none
 | s :: ss,f=>bif Nat.beq s.f f then some s else zfr ss f
def zrG:Option Nat->Option Nat->Bool
 | none,none=>true
 | some a,some b=>Nat.beq a b
 | _,_=>false
def zbM {P:Program}:List (zdv P)->FuncId->Option FuncId->Option (zdv P)
 | [],_,_=>none
 | s :: ss,f,g=>bif Nat.beq s.f f && zrG s.g g then some s else zbM ss f g
def ztE {α:Type} (srt:List α->List α) (l:List α):Option (List α):=if l.length < 4611686018427387904 then some (srt l) else none
structure zcm (P:Program) where
 code:TypeId->Option C
 wr:Nat
 key:TypeId->Bool
 keyed:∀ t,key t = true->KeyT P t
 known:List (ze P)
 sorts:List (zdv P):=[]
 owned:List (zcL P):=[]
 muts:List (zeg P):=[]
def zaH {P:Program} {β:Type}:List (ze P)->FuncId->List S->List yW->(S->List yW->Option β)->Option (Option β)
 | [],_,_,_,_=>none
 | s :: ss,f,args,ins,K=>bif Nat.beq s.f f then (match s.run args ins K with | some r=>some r | none=>zaH ss f args ins K) else zaH ss f args ins K
section
variable {P:Program} (X:zcm P) (ro:RO)
variable {β:Type}
noncomputable def zeh (m:Mm):List Nat->Option (List yW)
 | []=>some []
 | i :: is=>match zT ro m i with
  | some B=>bif zbL B && ro.ownB i then (match zeh m is with | some bs=>some (B :: bs) | none=>none) else none
  | none=>none
def zgC (bx:List (Option yW)):List Nat->List yW->List (Option yW)
 | i :: is,B :: bs=>zgC (bx.set i (some B)) is bs
 | _,_=>bx
noncomputable def zp8 (dr:Bool) (m:Mm) (f:FuncId) (args:List S) (dst:Option Nat) (k:Mm->Option β):Option β :=
 match Qk (yP args) [] with
 | []=>(match zaH X.known f args [] (fun res _=>qS ro m dst res none k) with
  | some r=>r
  | none=>none)
 | π=>bif dr || !Nat.ble ro.nb m.bx.length then none else (match zeh ro m π with
  | some ins=>(match zaH X.known f (zaG (zef π) args) ins (fun res outs=>qS ro ⟨m.sl,zgC m.bx π outs⟩ dst res none k) with
   | some r=>r
   | none=>none)
  | none=>none)
noncomputable def zfs (m:Mm) (B:yW) (dst:Option Nat) (v:S) (k:Mm->Option β):Option β :=
 bif Nat.ble ro.nb m.bx.length then qS ro ⟨m.sl,m.bx++[some B]⟩ dst v none k else none
noncomputable def zrH (m:Mm) (e:TypeId) (v:S) (dst:Option Nat) (k:Mm->Option β):Option β :=
 match zbI v with
 | some _=>bif Nat.blt e 1000000000 then zfs ro m (.cells (qN v) e) dst (.loc m.bx.length 0) k else none
 | none=>none
def zp9 {α:Type} (l:List α) (i:Int) (x:α):Option (List α):=if 0 <= i/\i < l.length then some (l.set i.toNat x) else none
def zdw (c:C):Nat->List (den c)->Nat->List S
 | 0,_,_=>[]
 | n + 1,l,k=>refl c (l.getD k (dfl c)) :: zdw c n l (k + 1)
def zr3:S->Bool
 | .agg _=>false
 | _=>true
noncomputable def zmc (m:Mm) (t:TypeId) (x y:S) (dst:Option Nat) (k:Mm->Option β):Option β :=
 match x,dst with
 | .loc i off,none=>(match zT ro m i,zj P t,zbI y with
  | some (.cells cs ty),some n,some n'=>bif Nat.blt ty 1000000000 && Nat.beq n' n && Nat.ble (off + n) cs.length && ro.ownB i then
    k ⟨m.sl,m.bx.set i (some (.cells (cs.take off++qN y++cs.drop (off + n)) ty))⟩ else none
  | _,_,_=>none)
 | .loco i a n ix,none=>(match zT ro m i,X.code t,zj P t with
  | some (.cells cs ty),some c,some z=>(match zad c ((cs.drop a).take n),qC c y with
   | some l,some v=>bif Nat.blt ty 1000000000 && Nat.beq z 1 && Nat.beq (csz c) 1 && zr3 y && Nat.ble (a + n) cs.length && ro.ownB i then
     (zp9 l ix v).bind fun l'=>k ⟨m.sl,m.bx.set i (some (.cells (cs.take a++zdw c n l' 0++cs.drop (a + n)) ty))⟩ else none
   | _,_=>none)
  | _,_,_=>none)
 | _,_=>none
noncomputable def zi8 (m:Mm) (ss:Nat) (x:S) (t u:TypeId) (dst:Option Nat) (k:Mm->Option β):Option β :=
 match zy ro m ss,qv P t with
 | (.lst c l,some (tk,e)),some e'=>(match zj P e,zam P e,zbK P e with
  | some sz,some by',some zv=>(match zbI zv with
   | some zn=>bif Nat.beq e e' && Nat.blt (tcl tk) 2 && zda P u && Nat.beq zn sz && Nat.beq (csz c) sz && !Nat.beq by' 0 then
     (match x with
     | .lst c' l2=>if h:c' = c then (app by' l (h ▸ l2:List (den c))).bind fun r=>qS ro ⟨m.sl.mapV (zaE tk),m.bx⟩ dst (.lst c r) (some (tk,e)) k else none
     | .rows []=>(app by' l []).bind fun r=>qS ro ⟨m.sl.mapV (zaE tk),m.bx⟩ dst (.lst c r) (some (tk,e)) k
     | .str s=>if h:C.u8 = c then (app by' l (h ▸ yd s:List (den c))).bind fun r=>qS ro ⟨m.sl.mapV (zaE tk),m.bx⟩ dst (.lst c r) (some (tk,e)) k else none
     | _=>none)
    else none
   | none=>none)
  | _,_,_=>none)
 | _,_=>none
mutual
def qm:S->Bool
 | .lst _ _=>false
 | .gel _ _=>false
 | .rows vs=>vs.isEmpty
 | .elt cs _=>cs.isEmpty
 | .agg cs=>QR cs
 | .tup cs=>QR cs
 | .fn _ a b=>QR a && QR b
 | .iface _ v=>qm v
 | _=>true
def QR:List S->Bool
 | []=>true
 | c :: cs=>qm c && QR cs
end
def zba:yW->Bool
 | .cells cs _=>QR cs
 | .map _ kc vc _=>ZP kc && ZP vc
def zae (tk:Nat) (new:S) (x:S × Tk):S × Tk :=
 match x.2 with
 | some (t,e)=>bif Nat.beq t tk then (new,x.2) else bif Nat.beq (tcl t) 2 then x else bif qm x.1 then x else bif Nat.beq (tcl t) 0 then
   (match x.1 with | .lst c _=>bif ZP c then x else (.any,none) | _=>(.any,none)) else (.any,none)
 | none=>bif qm x.1 then x else (.any,none)
noncomputable def T.findK {α:Type} (p:α->Bool) (t:T α):Option Nat :=
 T.rec (motive:=fun _=>Option Nat) none (fun _ v _ fl fr=>bif (match v with | some x=>p x | none=>false) then some 0 else
  match fl with
  | some q=>some (2 * q + 1)
  | none=>(match fr with | some q=>some (2 * q + 2) | none=>none)) t
def zei {α:Type} (l:List α) (i:Int) (x:α):List α:=l.set i.toNat x
noncomputable def zqa (m:Mm) (tk:Nat):Option Nat:=m.sl.findK fun x=>match x.2 with | some (t,_)=>Nat.beq t tk | none=>false
noncomputable def zi9 (m:Mm) (t:TypeId) (ss:Nat) (i:S) (dst:Option Nat) (k:Mm->Option β):Option β :=
 match zy ro m ss,i with
 | (.lst c l,some (tk,e)),.int _ i=>(match zcr P t c with
  | some (e',sz)=>bif Nat.beq (tcl tk) 0 && Nat.beq e e' then br (inB i l.length) (qS ro m dst (.ptr i sz 0) (some (tk + 3000000,e)) k) none else none
  | none=>none)
 | _,_=>none
noncomputable def zja (m:Mm) (s:TypeId) (d0 fi:Nat) (dst:Option Nat) (k:Mm->Option β):Option β :=
 match zy ro m d0,Y1 P s fi with
 | (.ptr i sz f,some (u,e)),some (fo,t)=>(match zj P t with
  | some n=>bif !Nat.beq n 0 && Nat.ble 3000000 u && Nat.beq (tcl (u - 3000000)) 0 then qS ro m dst (.ptr i sz (f + fo)) (some (u,e)) k else none
  | none=>none)
 | _,_=>none
noncomputable def zmd (m:Mm) (t:TypeId) (d0:Nat) (dst:Option Nat) (k:Mm->Option β):Option β :=
 match zy ro m d0 with
 | (.ptr i sz f,some (u,_))=>(match zqa m (u - 3000000) with
  | some ss=>(match zy ro m ss,zj P t,Zb P t with
   | (.lst c l,some (tk,e)),some n,some ag=>bif Nat.beq (tk + 3000000) u && Nat.beq (tcl tk) 0 && Nat.beq (csz c) sz && (match zj P e with | some z=>Nat.beq z sz | none=>false) then
     (idx l i).bind fun x=>(match ag with
      | true=>bif Nat.ble (f + n) (qN (refl c x)).length then qS ro m dst (.agg (((qN (refl c x)).drop f).take n)) none k else none
      | false=>(match (qN (refl c x))[f]? with | some y=>qS ro m dst y none k | none=>none)) else none
   | _,_,_=>none)
  | none=>none)
 | _=>none
def zjb (c:C) (x:den c) (f n:Nat) (y:S):Option (den c) :=
 match refl c x with
 | .agg cs=>qC c (.agg (cs.take f++qN y++cs.drop (f + n)))
 | _=>bif Nat.beq f 0 && Nat.beq n 1 then (match y with | .agg _=>none | y=>qC c y) else none
noncomputable def zjc (m:Mm) (t:TypeId) (d0:Nat) (y:S) (dst:Option Nat) (k:Mm->Option β):Option β :=
 match zy ro m d0,dst with
 | (.ptr i sz f,some (u,_)),none=>(match zqa m (u - 3000000) with
  | some ss=>(match zy ro m ss,zj P t,zbI y with
   | (.lst c l,some (tk,e)),some n,some n'=>bif Nat.beq (tk + 3000000) u && Nat.beq (tcl tk) 0 && Nat.beq (csz c) sz && (match zj P e with | some z=>Nat.beq z sz | none=>false) && Nat.beq n' n && Nat.ble (f + n) sz && qm y && ZP c && ro.fl &&
      m.bx.all (fun B=>match B with | some B=>zba B | none=>true) then
     (idx l i).bind fun x=>(match zjb c x f n y with
      | some x'=>k ⟨m.sl.mapV (zae tk (.lst c (zei l i x'))),m.bx⟩
      | none=>none) else none
   | _,_,_=>none)
  | none=>none)
 | _,_=>none
def mkL {α:Type} (z:α) (by':Nat) (l c:Int):Option (List α):=if 0 <= l/\l <= c/\(by':Int) * c <= 281474976710656/\c <= maxLen then some (List.replicate l.toNat z) else none
noncomputable def zme (m:Mm) (t:TypeId) (l c:S) (dst:Option Nat) (k:Mm->Option β):Option β :=
 match l,c,qv P t with
 | .int _ l,.int _ n,some e=>(match X.code e,zj P e,zam P e,zbK P e with
  | some c,some sz,some by',some zv=>(match qC c zv,zbI zv with
   | some z,some zn=>bif Nat.beq zn sz && Nat.beq (csz c) sz && Nat.beq (tcl (dst.getD 0)) 0 then (mkL z by' l n).bind fun r=>qS ro ⟨m.sl.mapV (zaE (dst.getD 0)),m.bx⟩ dst (.lst c r) (some (dst.getD 0,e)) k else none
   | _,_=>none)
  | _,_,_,_=>none)
 | _,_,_=>none
noncomputable def zkS (m:Mm):Operand->Option Nat
 | .tmp t=>(match (zy ro m t).1 with | .ptr _ _ _=>some t | _=>none)
 | _=>none
noncomputable def znw (m:Mm) (Q:zdv P) (ss:Nat) (dst:Option Nat) (k:Mm->Option β):Option β :=
 match zy ro m ss with
 | (.lst c l,some (tk,e))=>if h:c = Q.c then
   (bif Nat.beq (tcl tk) 0 && (match zj P e with | some z=>Nat.beq z (csz Q.c) | none=>false) && ro.fl && m.bx.all (fun B=>match B with | some B=>zba B | none=>true) then
    (ztE Q.srt (h ▸ l)).bind fun r=>qS ro ⟨m.sl.mapV (zae tk (.lst Q.c r)),m.bx⟩ dst (.tup []) none k else none) else none
 | _=>none
noncomputable def zsT (m:Mm) (Q:zcL P) (args:List S) (dst:Option Nat) (k:Mm->Option β):Option β :=
 bif (yP args).isEmpty && Nat.beq (tcl (dst.getD 0)) 0 then
  (match Q.run args with
  | some r=>r.bind fun l=>qS ro ⟨m.sl.mapV (zaE (dst.getD 0)),m.bx⟩ dst (.lst Q.c l) (some (dst.getD 0,Q.e)) k
  | none=>none)
 else none
def ZB (tk:Nat) (x:S × Tk):S × Tk :=
 match x.2 with
 | some (t,_)=>bif Nat.beq t tk then (.any,none) else zae tk (.lst .i64 []) x
 | none=>zae tk (.lst .i64 []) x
noncomputable def zb8 (m:Mm) (tk:Nat) (ops:List Operand) (p:Nat) (v:S) (cap:List S):List S:=(ops.map (zx ro ⟨m.sl.mapV (ZB tk),m.bx⟩)).set p v++cap
noncomputable def zsU (m:Mm) (Q:zeg P) (ops:List Operand) (cap:List S) (dst:Option Nat) (k:Mm->Option β):Option β :=
 match ops[Q.p]? with
 | some (.tmp ss)=>(match zy ro m ss with
  | (.lst c l,some (tk,e)) =>
   bif Nat.beq (tcl tk) 0 && Nat.beq e Q.e && Nat.beq (tcl (dst.getD 0)) 0 && ro.fl && m.bx.all (fun B=>match B with | some B=>zba B | none=>true) && QR cap && Nat.ble ro.nb m.bx.length then
    (match zeh ro m (Qk (yP (zb8 ro m tk ops Q.p (.lst c l) cap)) []) with
    | some ins=>(match Q.run (zaG (zef (Qk (yP (zb8 ro m tk ops Q.p (.lst c l) cap)) [])) (zb8 ro m tk ops Q.p (.lst c l) cap)) ins (fun r outs =>
      qS ro ⟨(m.sl.mapV (ZB tk)).mapV (zaE (dst.getD 0)),zgC m.bx (Qk (yP (zb8 ro m tk ops Q.p (.lst c l) cap)) []) outs⟩ dst (.lst Q.c r) (some (dst.getD 0,Q.e)) k) with
     | some r=>r
     | none=>none)
    | none=>none)
   else none
  | _=>none)
 | _=>none
noncomputable def zsV (m:Mm) (t:TypeId) (ss:Nat) (y:S) (dst:Option Nat) (k:Mm->Option β):Option β :=
 match zy ro m ss,y with
 | (.lst c l,some (tk,e)),.int _ i=>(match zcr P t c with
  | some (e',sz)=>bif Nat.beq e e' && Nat.beq (tcl tk) 0 && ZP c && Nat.beq (tcl (dst.getD 0)) 0 && ro.fl && m.bx.all (fun B=>match B with | some B=>zba B | none=>true) then
    (slc l 0 i).bind fun r=>qS ro ⟨(m.sl.mapV (ZB tk)).mapV (zaE (dst.getD 0)),m.bx⟩ dst (.lst c r) (some (dst.getD 0,e)) k
   else none
  | none=>none)
 | _,_=>none
noncomputable def zqb (m:Mm) (s t:TypeId) (ss:Nat) (dst:Option Nat) (k:Mm->Option β):Option (Option β) :=
 match zy ro m ss with
 | (.lst .u8 l0,some (tk,e))=>bif Nat.beq (tcl tk) 0 && Nat.beq s t then (match l0 with
   | x :: l=>some (match zcr P t .u8,qK P e with
    | some (e',sz),.int .u8=>bif Nat.beq e e' && ro.fl && m.bx.all (fun B=>match B with | some B=>zba B | none=>true) then
      qS ro ⟨m.sl.mapV (ZB tk),m.bx⟩ dst (.lst .u8 (x :: l)) none k
     else none
    | _,_=>none)
   | []=>none)
  else none
 | _=>none
noncomputable def zjd (m:Mm) (ss:Nat) (x:S) (t u:TypeId) (dst:Option Nat) (k:Mm->Option β):Option β :=
 match zy ro m ss,qv P t,x with
 | (.lst c l,some (tk,e)),some e',.lst c' (y :: l2)=>(match zj P e,zam P e,zbK P e with
  | some sz,some by',some zv=>(match zbI zv with
   | some zn=>bif Nat.beq e e' && Nat.blt (tcl tk) 2 && zda P u && Nat.beq zn sz && Nat.beq (csz c) sz && !Nat.beq by' 0 && Nat.beq (tcl (dst.getD 0)) 0 then
     if h:c' = c then (app by' l (h ▸ (y :: l2):List (den c))).bind fun r=>qS ro ⟨(m.sl.mapV (zaE tk)).mapV (zaE (dst.getD 0)),m.bx⟩ dst (.lst c r) (some (dst.getD 0,e)) k else none
    else none
   | none=>none)
  | _,_,_=>none)
 | _,_,_=>none
def zog {α:Type} (l:List α) (i:Int) (z:α):Option (List α):=if 0 <= i/\i < l.length then some (l.take i.toNat++List.replicate (l.length - i.toNat) z) else none
noncomputable def zqc (o2 o3:Oper) (m:Mm) (k:Mm->Option β):Option β :=
 match o2.guard,o3.guard,o3.dst,o2.dst,o2.op with
 | none,none,none,some c,.slice t (.tmp ss) (some y) none none=>bif zmO c t o3.op then (match zy ro m ss,zx ro m y with
  | (.lst cc l,some (tk,e)),.int _ i=>(match zcr P t cc,zbK P e with
   | some (e',sz),some zv=>(match qC cc zv,zbI zv with
    | some z,some zn=>bif Nat.beq e e' && Nat.beq (tcl tk) 0 && Nat.beq zn sz && ZP cc && ro.fl && m.bx.all (fun B=>match B with | some B=>zba B | none=>true) then
      (zog l i z).bind fun r=>qS ro ⟨m.sl.mapV (zae tk (.lst cc r)),m.bx⟩ (some c) .any none k
     else none
    | _,_=>none)
   | _,_=>none)
  | _,_=>none) else none
 | _,_,_,_,_=>none
noncomputable def zje {γ:Type} (A B:Option γ):Option γ:=open Classical in if A = B then B else none
noncomputable def zoh {α γ:Type} (l:List α) (A B:Option γ):Option γ:=match l with
 | []=>zje A B
 | _ :: _=>B
noncomputable def zmf (m:Mm) (op:BinOp) (t:TypeId) (x:S) (dst:Option Nat) (k:Mm->Option β):Option (Option β) :=
 match x,op,qv P t with
 | .lst _ l,.eql,some _=>some (zoh l (qS ro m dst (.bool true) none k) (qS ro m dst (.bool false) none k))
 | .lst _ l,.neq,some _=>some (zoh l (qS ro m dst (.bool false) none k) (qS ro m dst (.bool true) none k))
 | _,_,_=>none
noncomputable def zjf (m:Mm) (t:TypeId) (mx x:S) (dst:Option Nat) (k:Mm->Option β):Option β :=
 match mx,zck P t,dst with
 | .mref i,some (kt,_),none=>(match zT ro m i with
  | some (.map mt kc vc l)=>(match ckC kc,dq kc,zdT P kt with
   | some (ag,ks),some d,some (ag',ks')=>(match qC kc x with
    | some kk=>bif X.key kt && (ag == ag') && zi2 ks ks' && ro.ownB i then
      (@zsL _ _ d (zl6 kc) l kk).bind fun l'=>k ⟨m.sl,m.bx.set i (some (.map mt kc vc l'))⟩ else none
    | _=>none)
   | _,_,_=>none)
  | _=>none)
 | _,_,_=>none
noncomputable def zjg (m:Mm) (t:TypeId) (i:Nat) (dst:Option Nat) (k:Mm->Option β):Option β :=
 match zck P t,zT ro m i with
 | some _,some (.map _ _ _ l)=>qS ro m dst (.int .i64 l.length) none k
 | _,_=>none
noncomputable def zsW (o:Oper) (m:Mm) (k:Mm->Option β):Option (Option β) :=
 match o.op with
 | .indexAddr t (.tmp ss) ix=>bif (match o.dst with | some d=>Nat.testBit X.wr d | none=>false) then some (zi9 (P:=P) ro m t ss (zx ro m ix) o.dst k) else none
 | .fieldAddr s x fi=>(match zkS ro m x with | some d0=>some (zja (P:=P) ro m s d0 fi o.dst k) | none=>none)
 | .load t x=>(match zkS ro m x with | some d0=>some (zmd (P:=P) ro m t d0 o.dst k) | none=>none)
 | .store t x y=>(match zkS ro m x with | some d0=>some (zjc (P:=P) ro m t d0 (zx ro m y) o.dst k) | none=>none)
 | .call { callee:=.value fo,args,.. }=>(match zx ro m fo with
  | .fn (.func f) first cap=>(match zfr X.owned f with
   | some Q=>some (zsT ro m Q (first++args.toList.map (zx ro m)++cap) o.dst k)
   | none=>(match first,zfq X.muts f with
   | [],some Q=>some (zsU ro m Q args.toList cap o.dst k)
   | _,_=>(match first,cap,args.toList with
    | [],[],[.tmp ss]=>(match zbM X.sorts f none with | some Q=>some (znw ro m Q ss o.dst k) | none=>none)
    | [],[],[.tmp ss,y]=>(match zx ro m y with
     | .fn (.func g) [] []=>(match zbM X.sorts f (some g) with | some Q=>some (znw ro m Q ss o.dst k) | none=>none)
     | _=>none)
    | _,_,_=>none)))
  | _=>none)
 | .slice t (.tmp ss) none (some y) none=>bif (match o.dst with | some d=>Nat.testBit X.wr d | none=>false) then some (zsV (P:=P) ro m t ss (zx ro m y) o.dst k) else none
 | .call { callee:=.builtin .append,args,argTypes }=>bif (match o.dst with | some d=>Nat.testBit X.wr d | none=>false) then (match args.toList,argTypes.toList with
  | [.tmp ss,x],[t,u]=>some (zjd (P:=P) ro m ss (zx ro m x) t u o.dst k)
  | _,_=>none) else none
 | .convert s t (.tmp ss)=>zqb (P:=P) ro m s t ss o.dst k
 | .makeSlice t l c=>some (zme X ro m t (zx ro m l) (zx ro m c) o.dst k)
 | .binOp op t x (.const (.slice none 0 0)) _=>zmf (P:=P) ro m op t (zx ro m x) o.dst k
 | .call { callee:=.builtin .delete,args,argTypes }=>(match args.toList,argTypes.toList with
  | [mx,x],[t,_]=>some (zjf X ro m t (zx ro m mx) (zx ro m x) o.dst k)
  | _,_=>none)
 | .call { callee:=.builtin .len,args,argTypes }=>(match args.toList,argTypes.toList with
  | [mx],[t]=>(match zx ro m mx with
   | .mref i=>some (zjg (P:=P) ro m t i o.dst k)
   | _=>none)
  | _,_=>none)
 | _=>none
noncomputable def zmg (m:Mm) (t:TypeId) (dst:Option Nat) (k:Mm->Option β):Option β :=
 match zck P t with
 | some (kt,et)=>(match X.code kt,X.code et with
  | some kc,some vc=>zfs ro m (.map t kc vc []) dst (.mref m.bx.length) k
  | _,_=>none)
 | none=>none
noncomputable def zjh (m:Mm) (t:TypeId) (mx x:S) (ok:Bool) (K:S->Option β):Option β :=
 match mx,zck P t with
 | .mref i,some (kt,et)=>(match zT ro m i with
  | some (.map _ kc vc l)=>(match ckC kc,dq kc,zdT P kt,zbK P et with
   | some (ag,ks),some d,some (ag',ks'),some zv=>(match qC kc x,qC vc zv with
    | some k,some z=>bif X.key kt && (ag == ag') && zi2 ks ks' then
      (@zrB _ _ d (zl6 kc) l k).bind fun o=>K (bif ok then .tup [refl vc (o.getD z),.bool o.isSome] else refl vc (o.getD z)) else none
    | _,_=>none)
   | _,_,_,_=>none)
  | _=>none)
 | _,_=>none
noncomputable def zji (m:Mm) (t:TypeId) (mx x y:S) (dst:Option Nat) (k:Mm->Option β):Option β :=
 match mx,zck P t,dst with
 | .mref i,some (kt,_),none=>(match zT ro m i with
  | some (.map mt kc vc l)=>(match ckC kc,dq kc,zdT P kt with
   | some (ag,ks),some d,some (ag',ks')=>(match qC kc x,qC vc y with
    | some kk,some v=>bif X.key kt && (ag == ag') && zi2 ks ks' && ro.ownB i then
      (@zrC _ _ d (zl6 kc) l kk v).bind fun l'=>k ⟨m.sl,m.bx.set i (some (.map mt kc vc l'))⟩ else none
    | _,_=>none)
   | _,_,_=>none)
  | _=>none)
 | _,_,_=>none
noncomputable def opX (dr:Bool) (o:Oper) (m:Mm) (k:Mm->Option β):Option β :=
 match (bif dr then none else zsW X ro o m k) with
 | some r=>r
 | none =>
 match o.op with
 | .box e x=>zrH ro m e (zx ro m x) o.dst k
 | .alloc e=>(match zbK P e with | some v=>zrH ro m e v o.dst k | none=>none)
 | .store t x y=>zmc X ro m t (zx ro m x) (zx ro m y) o.dst k
 | .call { callee:=.builtin .append,args,argTypes }=>(match args.toList,argTypes.toList with
  | [.tmp ss,x],[t,u]=>zi8 (P:=P) ro m ss (zx ro m x) t u o.dst k
  | _,_=>none)
 | .call { callee:=.value f,args,.. }=>(match zx ro m f with
  | .fn (.func g) first cap=>zp8 X ro dr m g (first++args.toList.map (zx ro m)++cap) o.dst k
  | _=>none)
 | .makeMap t none=>zmg X ro m t o.dst k
 | .mapUpdate t mx x y=>zji X ro m t (zx ro m mx) (zx ro m x) (zx ro m y) o.dst k
 | .lookup t mx x ok=>zjh X ro m t (zx ro m mx) (zx ro m x) ok fun v=>znv ro m dr o v none k
 | _=>zp7 P X.code ro m o fun v tk=>znv ro m dr o v tk k
noncomputable def YQ (m:Mm) (x:Operand) (b:Bool):Mm :=
 match x with
 | .tmp t=>bif ro.own t then ⟨m.sl.set t (.bool b,(zy ro m t).2),m.bx⟩ else m
 | _=>m
noncomputable def gdX (ds:List (Option Nat)) (m:Mm) (g:Option (Nat × Bool)) (A B:Mm->Option β):Option β :=
 match g with
 | none=>A m
 | some (j,want)=>(match ds[j]? with
  | some (some d)=>(match (zy ro m d).1 with
   | .bool b=>br b (bif want then A (YQ ro m (.tmp d) true) else B (YQ ro m (.tmp d) true)) (bif want then B (YQ ro m (.tmp d) false) else A (YQ ro m (.tmp d) false))
   | .un=>B m
   | _=>none)
  | _=>B m)
def zb9 (o:Oper):Bool:=match o.guard with
 | none=>true
 | some _=>false
structure zsX where
 t:TypeId
 op:BinOp
 s:Nat
 r:Nat
 c:Int
 d2:Nat
 d3:Nat
 d4:Nat
 d5:Nat
def zmh (dr:Bool) (o2:Oper) (os:List Oper):Option zsX :=
 match o2.op with
 | .lookup t (.tmp s) (.tmp r) false=>(match os with
  | [o3,o4,o5,o6]=>(match o4.op with
   | .mapEntry t' (.tmp s') (.tmp r')=>(match o3.op with
    | .binOp op _ (.tmp a2) (.const (.int .i64 c)) _=>(match o5.op with
     | .extract (.tmp a4) i=>(match o6.op with
      | .entryStore t'' (.tmp s'') (.tmp a5) (.tmp a3)=>(match o2.dst,o3.dst,o4.dst,o5.dst,o6.dst with
       | some d2,some d3,some d4,some d5,none =>
        bif dr && (zb9 o2 && zb9 o3 && zb9 o4 && zb9 o5 && zb9 o6) && (Nat.beq t' t && Nat.beq t'' t && Nat.beq s' s && Nat.beq s'' s && Nat.beq r' r && Nat.beq a2 d2 && Nat.beq a3 d3 && Nat.beq a4 d4 && Nat.beq a5 d5 && Nat.beq i 1) &&
         (!Nat.beq d2 d3 && !Nat.beq d2 d4 && !Nat.beq d2 d5 && !Nat.beq d3 d4 && !Nat.beq d3 d5 && !Nat.beq d4 d5) && (!Nat.beq s d2 && !Nat.beq s d3 && !Nat.beq s d4 && !Nat.beq s d5) && (!Nat.beq r d2 && !Nat.beq r d3 && !Nat.beq r d4 && !Nat.beq r d5) then
         some ⟨t,op,s,r,c,d2,d3,d4,d5⟩ else none
       | _,_,_,_,_=>none)
      | _=>none)
     | _=>none)
    | _=>none)
   | _=>none)
  | _=>none)
 | _=>none
def arX (op:BinOp) (a b:Int):Option Int:=match op with
 | .add=>zO .i64 a b
 | .sub=>Yb .i64 a b
 | _=>none
noncomputable def zsY (m:Mm) (q:zsX) (k:Mm->Option β):Option β :=
 match zx ro m (.tmp q.s),zck P q.t with
 | .mref i,some (kt,et)=>(match zT ro m i with
  | some (.map mt kc .i64 l)=>(match ckC kc,dq kc,zdT P kt,zbK P et with
   | some (ag,ks),some d,some (ag',ks'),some zv=>(match qC kc (zx ro m (.tmp q.r)),qC .i64 zv with
    | some kk,some z=>bif X.key kt && (ag == ag') && zi2 ks ks' && ro.ownB i then
      (@zrB _ _ d (zl6 kc) l kk).bind fun o=>(arX q.op (o.getD z) q.c).bind fun y=>(@zrC _ _ d (zl6 kc) l kk y).bind fun l' =>
       qS ro ⟨m.sl,m.bx.set i (some (.map mt kc .i64 l'))⟩ (some q.d2) (.int .i64 (o.getD z)) none fun m=>qS ro m (some q.d3) (.int .i64 y) none fun m=>qS ro m (some q.d4) .any none fun m=>qS ro m (some q.d5) .any none k else none
    | _,_=>none)
   | _,_,_,_=>none)
  | _=>none)
 | _,_=>none
noncomputable def zmi (dr:Bool) (ds:List (Option Nat)):List Oper->Mm->(Mm->Option β)->Option β
 | [],m,k=>k m
 | o :: os,m,k=>match zmh dr o os with
  | some q=>zsY X ro m q k
  | none=>gdX ro ds m o.guard (fun m=>opX X ro dr o m fun m'=>zmi dr ds os m' k) (fun m=>qS ro m o.dst .un none fun m'=>zmi dr ds os m' k)
noncomputable def znx (o:Oper) (m:Mm) (k:Mm->Option β):Option β :=
 match o.op with
 | .move x=>qS ro m o.dst (zx ro m x) (zrA ro m x) k
 | .binOp .add _ x y _=>(match zx ro m x,zx ro m y with
  | .int k1 a,.int k2 b=>if k1 = k2 then (zO k1 a b).bind fun n=>qS ro m o.dst (.int k1 n) none k else none
  | _,_=>none)
 | .binOp .sub _ x y _=>(match zx ro m x,zx ro m y with
  | .int k1 a,.int k2 b=>if k1 = k2 then (Yb k1 a b).bind fun n=>qS ro m o.dst (.int k1 n) none k else none
  | _,_=>none)
 | .indexAddr t x i=>(match zx ro m x,zx ro m i with
  | .lst c l,.int _ i=>(match zcr P t c with
   | some _=>(idx l i).bind fun x=>qS ro m o.dst (.elt (qN (refl c x)) 0) none k
   | none=>none)
  | _,_=>none)
 | .slice t x lo hi none=>(match zx ro m x with
  | .lst c l=>zi3 P ro m t (.lst c l) lo hi none o.dst fun v tk=>qS ro m o.dst v tk k
  | _=>none)
 | _=>none
noncomputable def zqd (o o':Oper) (m:Mm) (k:Mm->Option β):Option β :=
 match o.op,o'.op with
 | .load t x,.load t' x'=>zkP P X.code ro m t (zx ro m x) fun v=>zkP P X.code ro m t' (zx ro m x') fun u=>qS ro m o.dst v none fun m=>qS ro m o'.dst u none k
 | _,_=>none
noncomputable def zny:List Oper->Mm->(Mm->Option β)->Option β
 | [],_,_=>none
 | o :: os,m,k=>match os with
  | []=>none
  | [o3]=>zqc (P:=P) ro o o3 m k
  | _=>(match o.guard with | none=>opX X ro false o m fun m'=>zny os m' k | some _=>none)
noncomputable def zrI {γ:Type} (f:Nat->Option γ):List Nat->Option γ
 | []=>none
 | j :: l=>match l with
  | []=>f j
  | _=>zje (f j) (zrI f l)
noncomputable def zdx (ops:Array Oper) (ds:List (Option Nat)):Nat->Array Bool->Mm->(Mm->Option β)->Option β
 | 0,listed,m,k=>(match Region.ready .any ops listed with | []=>k m | _=>none)
 | fuel + 1,listed,m,k=>(match Region.ready .any ops listed with
  | []=>k m
  | i :: is=>(match (i :: is).find? (zc3 ops listed) with
   | some j=>(match ops[j]? with
    | some o=>znx (P:=P) ro o m fun m'=>zdx ops ds fuel (listed.setIfInBounds j true) m' k
    | none=>none)
   | none=>zrI (fun j=>match ops[j]? with
    | some o=>gdX ro ds m o.guard (fun m=>opX X ro false o m fun m'=>zdx ops ds fuel (listed.setIfInBounds j true) m' k) (fun m=>qS ro m o.dst .un none fun m'=>zdx ops ds fuel (listed.setIfInBounds j true) m' k)
    | none=>none) (i :: is)))
noncomputable def zjj (ops:Array Oper) (ds:List (Option Nat)):List (Nat × Nat)->Mm->(Mm->Option β)->Option β
 | [],m,k=>k m
 | (i,t) :: l,m,k=>match ops[i]? with
  | none=>none
  | some o=>match t with
   | 1=>znx (P:=P) ro o m fun m'=>zjj ops ds l m' k
   | j + 2=>(match ops[j]? with
    | some o'=>zqd X ro o o' m fun m'=>zjj ops ds l m' k
    | none=>none)
   | 0=>gdX ro ds m o.guard (fun m=>opX X ro false o m fun m'=>zjj ops ds l m' k) (fun m=>qS ro m o.dst .un none fun m'=>zjj ops ds l m' k)
end
inductive zar (σ ρ:Type) where
 | next (s:σ)
 | done (r:ρ)
def zbb {σ ρ:Type} (F:σ->Option (zar σ ρ)):Nat->σ->Option ρ
 | 0,_=>none
 | n + 1,s=>match F s with
  | some (.next s')=>zbb F n s'
  | some (.done r)=>some r
  | none=>none
open Classical in
noncomputable def qO {σ ρ:Type} (F:σ->Option (zar σ ρ)) (s:σ):Option ρ :=
 if h:∃ r n,zbb F n s = some r then some h.choose else none
inductive LV where
 | slot (s:Nat) (c:C) (tk:Tk)
 | box (i:Nat) (c:C)
 | mapb (i:Nat) (kc vc:C)
@[reducible] def LV.ty:LV->Type
 | .slot _ c _=>den c
 | .box _ c=>den c
 | .mapb _ kc vc=>List (den kc × den vc)
@[reducible] def zhe:List LV->Type
 | []=>Unit
 | [v]=>v.ty
 | v :: w :: vs=>v.ty × zhe (w :: vs)
def zsZ:Tk->Tk->Bool
 | none,_=>true
 | some (t,e),some (t',e')=>Nat.beq t t' && Nat.beq e e'
 | some _,none=>false
def znz (B:Option yW):TypeId:=match B with
 | some (.cells _ ty)=>ty
 | some (.map mt _ _ _)=>mt
 | none=>0
noncomputable def zej (old:Nat->Option yW) (ro:RO) (m:Mm):(v:LV)->Option v.ty
 | .slot s c tk=>bif zsZ tk (zy ro m s).2 then qC c (zy ro m s).1 else none
 | .box i c=>(match zT ro m i with
  | some (.cells cs ty)=>bif Nat.beq ty (znz (old i)) then (match qC c (.agg cs) with
   | some y=>some y
   | none=>(match cs with
    | [.agg _]=>none
    | [x]=>qC c x
    | _=>none)) else none
  | _=>none)
 | .mapb i kc vc=>(match zT ro m i with | some (.map mt kc' vc' l)=>bif Nat.beq mt (znz (old i)) then (if h:kc' = kc/\vc' = vc then some (h.1 ▸ h.2 ▸ l) else none) else none | _=>none)
noncomputable def zbN (old:Nat->Option yW) (ro:RO) (m:Mm):(L:List LV)->Option (zhe L)
 | []=>some ()
 | [v]=>zej old ro m v
 | v :: w :: vs=>match zej old ro m v,zbN old ro m (w :: vs) with
  | some x,some y=>some (x,y)
  | _,_=>none
noncomputable def Zy (old:Nat->Option yW) (m:Mm):(v:LV)->v.ty->Mm
 | .slot s c tk,x=>⟨m.sl.set s (refl c x,tk),m.bx⟩
 | .box i c,x=>⟨m.sl,m.bx.set i (some (.cells (qN (refl c x)) (znz (old i))))⟩
 | .mapb i kc vc,x=>⟨m.sl,m.bx.set i (some (.map (znz (old i)) kc vc x))⟩
noncomputable def ZR (old:Nat->Option yW) (m:Mm):(L:List LV)->zhe L->Mm
 | [],_=>m
 | [v],x=>Zy old m v x
 | v :: w :: vs,x=>ZR old (Zy old m v x.1) (w :: vs) x.2
inductive EX where
 | exit (id:Nat) | ret
 deriving DecidableEq
def EX.of:Exit->Option EX
 | .exit id=>some (.exit id)
 | .ret=>some .ret
 | _=>none
def EX.to:EX->Exit
 | .exit id=>.exit id
 | .ret=>.ret
def EX.beq:EX->EX->Bool
 | .exit i,.exit j=>Nat.beq i j
 | .ret,.ret=>true
 | _,_=>false
@[reducible] def zqe:List (EX × List LV)->Type
 | []=>Empty
 | [e]=>zhe e.2
 | e :: f :: es=>zhe e.2 ⊕ zqe (f :: es)
noncomputable def zca (old:Nat->Option yW) (ro:RO) (m:Mm) (ex:EX):(es:List (EX × List LV))->Option (zqe es)
 | []=>none
 | [e]=>bif e.1.beq ex then zbN old ro m e.2 else none
 | e :: f :: es=>bif e.1.beq ex then (match zbN old ro m e.2 with | some x=>some (.inl x) | none=>none) else (match zca old ro m ex (f :: es) with | some x=>some (.inr x) | none=>none)
noncomputable def zbO {β:Type} (old:Nat->Option yW) (m:Mm) (k:Exit->Mm->Option β):(es:List (EX × List LV))->zqe es->Option β
 | [],x=>none
 | [e],x=>k e.1.to (ZR old m e.2 x)
 | e :: f :: es,x=>Sum.elim (fun y=>k e.1.to (ZR old m e.2 y)) (fun y=>zbO old m k (f :: es) y) x
inductive Ann where
 | no
 | sch
 | full
 | two (a b:Ann)
 | loop (ds bs:List Nat) (L:List LV) (es:List (EX × List LV)) (a:Ann)
 | old (a:Ann)
def Ann.isOld:Ann->Bool
 | .old _=>true
 | _=>false
def Ann.un:Ann->Ann
 | .old a=>a
 | a=>a
noncomputable def zjk (m:Mm):Mm:=⟨m.sl.mapV (fun x=>(x.1,some (2000000,0))),m.bx⟩
noncomputable def zgD (m:Mm):Mm:=⟨m.sl.mapV (fun x=>(x.1,none)),m.bx⟩
def Ann.l:Ann->Ann
 | .two a _=>a
 | a=>.no
def Ann.r:Ann->Ann
 | .two _ b=>b
 | a=>.no
def Ann.isSch:Ann->Bool
 | .sch=>true
 | _=>false
def Ann.isFull:Ann->Bool
 | .full=>true
 | _=>false
def zjl (l:List Nat):Nat:=l.foldl (fun a s=>a ||| (1 <<< s)) 0
def qh:List LV->Nat->Bool
 | [],_=>false
 | .slot _ _ _ :: L,i=>qh L i
 | .box j _ :: L,i=>Nat.beq j i || qh L i
 | .mapb j _ _ :: L,i=>Nat.beq j i || qh L i
def Qc:List LV->List Nat
 | []=>[]
 | .slot _ _ _ :: L=>Qc L
 | .box j _ :: L=>j :: Qc L
 | .mapb j _ _ :: L=>j :: Qc L
noncomputable def zmj (sl:T (S × Tk)):List Nat->T (S × Tk)
 | []=>sl
 | s :: ss=>zmj (sl.set s (.any,none)) ss
def Zn (mu:Bool) (x:S × Tk):S × Tk :=
 match x.2 with
 | some (t,e)=>bif Nat.beq (tcl t) 2 then x else bif !mu || qm x.1 then (x.1,none) else (.any,none)
 | none=>bif !mu || qm x.1 then x else (.any,none)
noncomputable def Ya (mu:Bool) (ro:RO) (m:Mm) (ds bs:List Nat):RO :=
 { all:=false,mask:=zjl ds,sl:=fun s=>Zn mu (zy ro m s),nb:=m.bx.length,bmask:=zjl bs,bx:=fun i=>zT ro m i,
   fl:=mu && (List.range m.bx.length).all (fun i=>match zT ro m i with | some B=>zba B | none=>true) }
def inD (ds:List (Option Nat)) (t:Nat):Bool:=ds.any (fun d=>match d with | some d=>Nat.beq d (t % 1000000) | none=>false)
def zhf (ds:List (Option Nat)) (x:S × Tk):S × Tk:=match x.2 with
 | some (t,_)=>bif Nat.blt (tcl t) 2 && inD ds t then (x.1,none) else x
 | none=>x
noncomputable def QS {P:Program} (X:zcm P):Code->Ann->RO->Mm->{β:Type}->(Exit->Mm->Option β)->Option β
 | .skip,_,_,m,_,k=>k .normal m
 | .label _,_,_,m,_,k=>k .normal m
 | .region _ ops dr,a,ro,m,_,k=>bif dr && a.isFull then zdx X ro ops (ops.toList.map (·.dst)) ops.size (Array.replicate ops.size false) m (k .normal) else bif dr && a.isSch then (match zo4 ops with
  | some l=>zjj X ro ops (ops.toList.map (·.dst)) l m (k .normal)
  | none=>none) else bif a.isSch then zny X ro ops.toList m (k .normal) else zmi X ro dr (ops.toList.map (·.dst)) ops.toList (bif dr then ⟨m.sl.mapV (zhf ((ops.toList.filter QD).map (·.dst))),m.bx⟩ else m) (k .normal)
 | .seq x y,a,ro,m,_,k=>QS X x a.l ro m fun ex m'=>match ex with
  | .normal=>bif a.r.isOld && ro.all then QS X y a.r.un ro (zjk m') (fun ex2 m2=>k ex2 (zgD m2)) else QS X y a.r.un ro m' k
  | e=>k e m'
 | .cond c x y,a,ro,m,_,k=>(match zx ro m c with
  | .bool b=>br b (QS X x a.l ro (YQ ro m c true) k) (QS X y a.r ro (YQ ro m c false) k)
  | _=>none)
 | .block id x,a,ro,m,_,k=>QS X x a ro m fun ex m'=>match ex with
  | .exit id'=>bif Nat.beq id' id then k .normal m' else k (.exit id') m'
  | e=>k e m'
 | .exit id,_,_,m,_,k=>k (.exit id) m
 | .ret,_,_,m,_,k=>k .ret m
 | .loop x,.loop ds bs L es a,ro,m,_,k =>
  bif ds.all ro.own && bs.all ro.ownB && bs.all (fun i=>Nat.blt i m.bx.length) && bs.all (qh L) && es.all (fun e=>bs.all (qh e.2)) && Nat.ble ro.nb m.bx.length && (Qc L).all (fun i=>bs.any (Nat.beq i)) && es.all (fun e=>(Qc e.2).all (fun i=>bs.any (Nat.beq i))) then
   (match zbN (zT ro m) ro m L with
   | some v=>(qO (σ:=zhe L) (ρ:=zqe es) (fun v=>QS X x a (Ya (!Nat.beq X.wr 0) ro m ds bs) (ZR (zT ro m) ⟨.nil,List.replicate m.bx.length none⟩ L v) fun ex m'=>match ex with
     | .normal=>(match zbN (zT ro m) (Ya (!Nat.beq X.wr 0) ro m ds bs) m' L with | some w=>some (.next w) | none=>none)
     | ex=>(match EX.of ex with
      | some ex=>(match zca (zT ro m) (Ya (!Nat.beq X.wr 0) ro m ds bs) m' ex es with | some w=>some (.done w) | none=>none)
      | none=>none)) v).bind fun w =>
      zbO (zT ro m) ⟨zmj (m.sl.mapV (Zn (!Nat.beq X.wr 0))) ds,m.bx⟩ k es w
   | none=>none)
  else none
 | _,_,_,_,_,_=>none
def yC:RO:={ all:=true,mask:=0,sl:=fun _=>(.any,none),nb:=0,bmask:=0,bx:=fun _=>none,fl:=true }
noncomputable def Zf:Nat->List S->T (S × Tk)
 | _,[]=>.nil
 | n,s :: ss=>(Zf (n + 1) ss).set n (s,some (2000000,0))
noncomputable def zmk {P:Program} (m:Mm):List ResultVar->Option (List S)
 | []=>some []
 | r :: rs=>match (match r with
   | .tmp t=>some (zy yC m t).1
   | .cell a t=>(match (zy yC m a).1 with
    | .loc i off=>(match zT yC m i,Zb P t with
     | some (.cells cs ty),some true=>(match zj P t with | some n=>bif Nat.blt ty 1000000000 && Nat.ble (off + n) cs.length then some (.agg ((cs.drop off).take n)) else none | none=>none)
     | some (.cells cs ty),some false=>bif Nat.blt ty 1000000000 then cs[off]? else none
     | _,_=>none)
    | _=>none)),zmk (P:=P) m rs with
  | some v,some vs=>some (v :: vs)
  | _,_=>none
noncomputable def zeI (m:Mm):Nat->Nat->Option (List yW)
 | _,0=>some []
 | i,n + 1=>match zT yC m i,zeI m (i + 1) n with
  | some B,some bs=>bif zbL B then some (B :: bs) else none
  | _,_=>none
noncomputable def zqf {P:Program} (X:zcm P) (rs:List ResultVar) (c:Code) (a:Ann) (args:List S) (ins:List yW) {β:Type} (K:S->List yW->Option β):Option β :=
 QS X c a yC ⟨Zf 0 args,ins.map some⟩ fun ex m=>match (match ex with | .ret | .normal=>true | _=>false),zmk (P:=P) m rs,zeI m 0 ins.length with
  | true,some [v],some outs=>bif yD v then K v outs else none
  | true,some vs,some outs=>bif qD vs then K (.tup vs) outs else none
  | _,_,_=>none
noncomputable def ztF {P:Program} (X:zcm P) (rs:List ResultVar) (c:Code) (a:Ann) (args:List S) (cc:C) (e:TypeId):Option (List (den cc)) :=
 QS X c a yC ⟨Zf 0 args,[]⟩ fun ex m=>match (match ex with | .ret | .normal=>true | _=>false),rs with
  | true,[.tmp s]=>(match zy yC m s with
   | (.lst c' l,some (t,e'))=>bif Nat.beq (tcl t) 0 && Nat.beq e' e then (if h:c' = cc then some (h ▸ l:List (den cc)) else none) else none
   | (.rows [],some (t,e'))=>bif Nat.beq (tcl t) 0 && Nat.beq e' e then some [] else none
   | _=>none)
  | _,_=>none
noncomputable def ztG {P:Program} (X:zcm P) (rs:List ResultVar) (c:Code) (a:Ann) (args:List S) (ins:List yW) (p:Nat) (cc:C) (e:TypeId) {β:Type} (K:List (den cc)->List yW->Option β):Option β :=
 QS X c a yC ⟨(Zf 0 args).set p ((args[p]?).getD .any,some (p,e)),ins.map some⟩ fun ex m=>match (match ex with | .ret | .normal=>true | _=>false),rs,zeI m 0 ins.length with
  | true,[.tmp s],some outs=>(match zy yC m s with
   | (.lst c' l,some (t,e'))=>bif Nat.beq (tcl t) 0 && Nat.beq e' e then (if h:c' = cc then K (h ▸ l:List (den cc)) outs else none) else none
   | (.rows [],some (t,e'))=>bif Nat.beq (tcl t) 0 && Nat.beq e' e then K [] outs else none
   | _=>none)
  | _,_,_=>none
end Go.X
namespace Go.X
open Go.Eng
open Go.RowKit
theorem zZ {α:Type} {c:Bool} {a:Option α} {r:α} (h:(bif c then a else none) = some r):c = true/\a = some r:=by
 cases c
 ·cases h
 ·exact ⟨rfl,h⟩
theorem brS {α:Type} {b:Bool} {x y:Option α} {r:α} (h:br b x y = some r):(b = true/\x = some r) ∨ (b = false/\y = some r):=by
 cases b
 ·exact .inr ⟨rfl,h⟩
 ·exact .inl ⟨rfl,h⟩
theorem zbe {α:Type} {c:Prop} [Decidable c] {a:Option α} {r:α} (h:(if c then a else none) = some r):c/\a = some r:=by
 split at h
 ·exact ⟨‹_›,h⟩
 ·cases h
theorem yI (cs:List S):(zg cs).length = cs.length:=by rw [ZQ]; simp
theorem zaI (cs:List S) (n:Nat):zg (cs.drop n) = (zg cs).drop n:=by simp [ZQ,List.map_drop]
theorem zaJ (cs:List S) (n:Nat):zg (cs.take n) = (zg cs).take n:=by simp [ZQ,List.map_take]
theorem qH (cs ds:List S):zg (cs++ds) = zg cs++zg ds:=by simp [ZQ]
theorem ZS (cs:List S) (n:Nat):(zg cs)[n]? = (cs[n]?).map toV:=by simp [ZQ]
theorem Ql (cs:List S) (o n:Nat):zg ((cs.drop o).take n) = ((zg cs).drop o).take n:=by rw [zaJ,zaI]
theorem zgE (v:Value):toV (zgA v) = Y2 v:=by
 unfold zgA
 split
 case h_3 =>
  simp only [Y2]
  rename_i s
  by_cases hc:s.size <= maxLen
  ·rw [if_pos hc,Nat.ble_eq_true_of_le hc]; simp [toV]
  ·have:Nat.ble s.size maxLen = false:=by
    cases hb:Nat.ble s.size maxLen
    ·rfl
    ·exact absurd (zue hb) hc
   rw [if_neg hc,this]; simp [toV]
 all_goals first
  | (simp [Y2,toV,zg]; done)
  | (unfold Y2; split <;> simp_all [toV,zg])
theorem zek (v:Value):toV (zaW v) = qU v:=by
 unfold zaW
 split
 ·rename_i cs
  simp only [qU]
  by_cases h:cs.toList.all (fun x=>x.oneCell') = true
  ·rw [if_pos h,h]; simp only [cond_true,toV,ZQ,List.map_map]
   congr 1
   exact List.map_congr_left fun x _=>zgE x
  ·rw [if_neg h]
   rw [Bool.not_eq_true] at h
   rw [h]; simp [toV]
 ·simp only [qU,toV,ZQ,List.map_map]
  congr 1
  exact List.map_congr_left fun x _=>zgE x
 ·rename_i h1 h2
  rw [zgE]
  cases v <;> first | rfl | (exact absurd rfl (h1 _)) | (exact absurd rfl (h2 _))
theorem zeJ (vs:List Value):zg (vs.map zaW) = vs.map qU:=by
 rw [ZQ,List.map_map]
 exact List.map_congr_left fun x _=>zek x
theorem zk (ro:RO) (m:Mm) (x:Operand):toV (zx ro m x) = (za ro m).eval x:=by
 cases x with
 | tmp t=>rfl
 | const v=>exact zek v
 | global g =>
  simp only [zx,toV,St.eval]
  cases GL g <;> rfl
 | func f=>simp [zx,toV,zg,St.eval]
theorem zbP (ro:RO) (m:Mm) (xs:List Operand):zg (xs.map (zx ro m)) = xs.map (za ro m).eval:=by
 rw [ZQ,List.map_map]
 exact List.map_congr_left fun x _=>zk ro m x
theorem zml (ro:RO) (m:Mm) (x:Operand):zrA ro m x = (za ro m).tokOf x:=by
 cases x <;> rfl
theorem zqg (x:IV):(zaq x).csize = some 1:=by cases x <;> rfl
theorem zcb (x:IV):(zaq x).cellsL = [zaq x]:=by cases x <;> rfl
theorem QT {s:S} {n:Nat} (h:zbI s = some n):(toV s).csize = some n:=by
 cases s <;> simp only [zbI,zuf,reduceCtorEq] at h <;> subst h <;> first | (simp only [toV]; exact zqg _) | simp [toV,V.csize,yI]
theorem zaK {s:S} {n:Nat} (h:zbI s = some n):zg (qN s) = (toV s).cellsL:=by
 cases s <;> simp only [zbI,zuf,reduceCtorEq] at h <;> first | (simp only [toV,zg,qN]; exact (zcb _).symm) | simp [toV,zg,V.cellsL,qN]
theorem zqh (c:C) (x:den c):zbI (refl c x) = some (csz c):=by
 cases c <;> rfl
theorem Y6 (c:C) (x:den c):zg (qN (refl c x)) = (enc c x).cellsL:=by
 rw [zaK (zqh c x),qw]
theorem zaf (c:C) (x:den c):yD (refl c x) = true:=by
 cases c <;> rfl
theorem zaX (v:Value):(Y2 v).noLoc = true:=by
 unfold Y2
 split <;> try (simp [V.noLoc,V.noLocL]; done)
 split <;> simp [V.noLoc]
theorem zcc {l:List V} (h:∀ v ∈ l,v.noLoc = true):V.noLocL l = true:=by
 induction l with
 | nil=>rfl
 | cons x l ih=>simp [V.noLocL,h x (by simp),ih fun v hv=>h v (by simp [hv])]
theorem zjm (v:Value):(qU v).noLoc = true:=by
 unfold qU
 split
 ·split
  ·simp only [V.noLoc]
   refine zcc fun v hv=>?_
   obtain ⟨x,_,rfl⟩:=List.mem_map.1 hv
   exact zaX x
  ·rfl
 ·simp only [V.noLoc]
  refine zcc fun v hv=>?_
  obtain ⟨x,_,rfl⟩:=List.mem_map.1 hv
  exact zaX x
 ·exact zaX _
theorem zh3 (g off:Nat):(toV (.gel g off)).noLoc = true:=by
 simp only [toV]
 split
 ·simp only [V.noLoc]
  refine zcc fun v hv=>?_
  obtain ⟨x,_,rfl⟩:=List.mem_map.1 hv
  exact zjm x
 ·rfl
mutual
theorem zdy:∀ s:S,yD s = true->(toV s).noLoc = true
 | .any,_=>by simp [toV,V.noLoc]
 | .un,_=>by simp [toV,V.noLoc]
 | .int _ _,_=>by simp [toV,V.noLoc]
 | .bool _,_=>by simp [toV,V.noLoc]
 | .str _,_=>by simp [toV,V.noLoc]
 | .agg cs,h=>by simp only [yD] at h; simp only [toV,V.noLoc]; exact ZD cs h
 | .tup cs,h=>by simp only [yD] at h; simp only [toV,V.noLoc]; exact ZD cs h
 | .loc _ _,h=>by simp [yD] at h
 | .loco _ _ _ _,h=>by simp [yD] at h
 | .elt cs _,h=>by simp only [yD] at h; simp only [toV,V.noLoc]; exact ZD cs h
 | .gel g off,_=>zh3 g off
 | .nilp,_=>by simp [toV,V.noLoc]
 | .lst c l,_=>by simp only [toV,V.noLoc]; exact yH (Z4 c) l
 | .rows vs,h=>by simp only [yD] at h; simp only [toV,V.noLoc]; exact ZD vs h
 | .fn _ a b,h=>by
  simp only [yD,zuc] at h; simp only [toV,V.noLoc,zuc]
  exact ⟨ZD a h.1,ZD b h.2⟩
 | .nilfn,_=>by simp [toV,V.noLoc]
 | .iface _ v,h=>by simp only [yD] at h; simp only [toV,V.noLoc]; exact zdy v h
 | .nilif,_=>by simp [toV,V.noLoc]
 | .mref _,h=>by simp [yD] at h
 | .nilm,_=>by simp [toV,V.noLoc]
 | .ptr _ _ _,_=>by simp [toV,V.noLoc]
 | .ivd x,_=>by simp only [toV]; exact zgp x
theorem ZD:∀ cs:List S,qD cs = true->V.noLocL (zg cs) = true
 | [],_=>by simp [zg,V.noLocL]
 | c :: cs,h=>by
  simp only [qD,zuc] at h
  simp only [zg,V.noLocL,zuc]
  exact ⟨zdy c h.1,ZD cs h.2⟩
end
theorem zgF {kc vc:C} (l:List (den kc × den vc)):V.noLocL (QJ (enc kc) (enc vc) l) = true:=by
 refine zcc fun v hv=>?_
 obtain ⟨x,_,rfl⟩:=List.mem_map.1 hv
 simp [V.noLoc,V.noLocL,Z4]
theorem zbQ {B:yW} (h:zbL B = true):V.noLocL (zD B).cells = true:=by
 cases B with
 | cells cs ty=>exact ZD cs h
 | map mt kc vc l=>exact zgF l
theorem zkT {ro:RO} {m:Mm} {d:Nat} {v:S} {tk:Tk} (ho:ro.own d = true):za ro ⟨m.sl.set d (v,tk),m.bx⟩ = (za ro m).put (some d) (toV v) tk:=by
 have hb:∀ i,zT ro ⟨m.sl.set d (v,tk),m.bx⟩ i = zT ro m i:=fun i=>rfl
 have hs:∀ s,zy ro ⟨m.sl.set d (v,tk),m.bx⟩ s = if s = d then (v,tk) else zy ro m s:=by
  intro s
  unfold zy
  by_cases h:s = d
  ·subst h; rw [ho,if_pos rfl]; simp [T.get_set]
  ·rw [if_neg h]; simp [T.get_set,h]
 unfold za St.put
 simp only [hb,hs]
 congr 1
 funext s
 unfold upd
 split <;> rfl
variable {β:Type}
theorem zm {ro:RO} {m:Mm} {dst:Option Nat} {v:S} {tk:Tk} {k:Mm->Option β} {r:β} (h:qS ro m dst v tk k = some r) :
  ∃ m',(za ro m).put dst (toV v) tk = za ro m'/\k m' = some r:=by
 unfold qS at h
 split at h
 ·exact ⟨m,rfl,h⟩
 ·rename_i d
  obtain ⟨h1,h2⟩:=zZ h
  exact ⟨_,(zkT h1).symm,h2⟩
section
variable {P:Program} {code:TypeId->Option C} {ro:RO} {m:Mm} {r:β} {K:S->Option β} {Kp:V->Prop} {K2:S->Tk->Option β} {K2p:V->Tk->Prop}
theorem zh4 {k:IntKind} {a b n:Int} (h:zO k a b = some n):InR k (a + b)/\n = a + b:=by
 obtain ⟨h1,h2⟩:=zbe h; cases h2; exact ⟨h1,rfl⟩
theorem zel {k:IntKind} {a b n:Int} (h:Yb k a b = some n):InR k (a - b)/\n = a - b:=by
 obtain ⟨h1,h2⟩:=zbe h; cases h2; exact ⟨h1,rfl⟩
theorem zoi {k:IntKind} {a b n:Int} (h:zbd k a b = some n):InR k (a * b)/\n = a * b:=by
 obtain ⟨h1,h2⟩:=zbe h; cases h2; exact ⟨h1,rfl⟩
theorem zoj {k:IntKind} {a b n:Int} (h:zkO k a b = some n):(b ≠ 0/\InR k (a.tdiv b))/\n = a.tdiv b:=by
 obtain ⟨h1,h2⟩:=zbe h; cases h2; exact ⟨h1,rfl⟩
theorem zok {a b n:Int} (h:zl5 a b = some n):b ≠ 0/\n = a.tmod b:=by
 obtain ⟨h1,h2⟩:=zbe h; cases h2; exact ⟨h1,rfl⟩
theorem zol {s t n:List UInt8} (h:zaF s t = some n):s.length + t.length <= maxLen/\n = s++t:=by
 obtain ⟨h1,h2⟩:=zbe h; cases h2; exact ⟨h1,rfl⟩
theorem YR {α:Type} {l q:List α} {lo hi:Int} (h:slc l lo hi = some q):(0 <= lo/\lo <= hi/\hi <= l.length)/\q = (l.take hi.toNat).drop lo.toNat:=by
 obtain ⟨h1,h2⟩:=zbe h; cases h2; exact ⟨h1,rfl⟩
theorem QU {α:Type} {l:List α} {i:Int} {x:α} (h:idx l i = some x):0 <= i/\i < l.length/\l[i.toNat]? = some x:=by
 obtain ⟨h1,h2⟩:=zbe h
 have:=(List.getElem?_eq_some_iff.1 h2).1
 exact ⟨h1,by omega,h2⟩
theorem zaL {c:C}:∀ {ss:List S} {l:List (den c)},zad c ss = some l->zg ss = l.map (enc c)
 | [],l,h=>by simp only [zad,zuf] at h; subst h; simp [zg]
 | s :: ss,l,h=>by
  simp only [zad] at h
  split at h
  ·rename_i x hx
   split at h
   ·rename_i xs hxs
    cases h
    simp only [zg,List.map_cons,yl hx,zaL hxs]
   ·cases h
  ·cases h
theorem zh5 {c:C} {g off n:Nat} {x:den c} (h:zrE c g off n = some x):∃ vs,GL g = some vs/\off + n <= vs.length/\V.agg (((vs.map qU).drop off).take n) = enc c x:=by
 unfold zrE at h
 split at h
 ·rename_i vs hg
  obtain ⟨h1,h2⟩:=zbe h
  refine ⟨vs,hg,h1,?_⟩
  rw [<- yl h2]
  simp only [toV,Ql,zeJ]
 ·cases h
theorem zom {c:C} {g off:Nat} {x:den c} (h:zsM c g off = some x):∃ vs,GL g = some vs/\(vs.map qU)[off]? = some (enc c x):=by
 unfold zsM at h
 split at h
 ·rename_i vs hg
  split at h
  ·rename_i s hs
   refine ⟨vs,hg,?_⟩
   rw [<- zeJ,ZS,hs,Option.map_some,yl h]
  ·cases h
 ·cases h
theorem zbR {t:TypeId} {x:S} (hK:∀ s,K s = some r->Kp (toV s)) (h:zkP P code ro m t x K = some r):YC P t (za ro m).box (toV x) Kp:=by
 unfold zkP at h
 split at h
 ·rename_i cs off ha
  split at h
  ·rename_i n hs
   obtain ⟨h1,h2⟩:=zZ h
   simp only [toV,YC,ha,hs]
   refine ⟨by rw [yI]; exact zue h1,?_⟩
   have:=hK _ h2
   simpa only [toV,Ql] using this
  ·cases h
 ·rename_i cs off ha
  split at h
  ·rename_i c hc
   simp only [toV,YC,ha,ZS,hc,Option.map_some]
   exact hK _ h
  ·cases h
 ·rename_i i off ha
  split at h
  ·rename_i cs ty n hB hs
   obtain ⟨h1,h2⟩:=zZ h
   simp only [zuc] at h1
   have hb:(za ro m).box i = some ⟨zg cs,ty⟩:=by show (zT ro m i).map zD = _; rw [hB]; rfl
   simp only [toV,YC,ha,hb,hs]
   refine ⟨zue h1.1,by rw [yI]; exact zue h1.2,?_⟩
   have:=hK _ h2
   simpa only [toV,Ql] using this
  ·cases h
 ·rename_i i off ha
  split at h
  ·rename_i cs ty hB
   obtain ⟨h1,h2⟩:=zZ h
   have hb:(za ro m).box i = some ⟨zg cs,ty⟩:=by show (zT ro m i).map zD = _; rw [hB]; rfl
   split at h2
   ·rename_i c hc
    simp only [toV,YC,ha,hb,ZS,hc,Option.map_some]
    exact ⟨zue h1,hK _ h2⟩
   ·cases h2
  ·cases h
 ·rename_i i a n ix ha
  split at h
  ·rename_i cs ty c hB hc
   obtain ⟨h1,h2⟩:=zZ h
   simp only [zuc] at h1
   have hb:(za ro m).box i = some ⟨zg cs,ty⟩:=by show (zT ro m i).map zD = _; rw [hB]; rfl
   split at h2
   ·rename_i l hl
    obtain ⟨y,h3,h4⟩:=bind_some h2
    obtain ⟨q1,q2,q3⟩:=QU h3
    have hle:=zue h1.2
    have hseg:=zaL hl
    have hlen:l.length = n:=by
     have:=congrArg List.length hseg
     rw [yI,List.length_map,List.length_take,List.length_drop] at this
     omega
    have hget:(zg cs)[a + ix.toNat]? = some (enc c y):=by
     have:((zg ((cs.drop a).take n)))[ix.toNat]? = some (enc c y):=by rw [hseg,List.getElem?_map,q3]; rfl
     rw [Ql,List.getElem?_take,if_pos (by omega),List.getElem?_drop] at this
     exact this
    simp only [toV,YC,ha,hb,hget]
    refine ⟨zue h1.1,?_⟩
    rw [<- qw]
    exact hK _ h4
   ·cases h2
  ·cases h
 ·rename_i g off ha
  split at h
  ·rename_i n c hs hc
   obtain ⟨y,h1,h2⟩:=bind_some h
   obtain ⟨vs,q1,q2,q3⟩:=zh5 h1
   simp only [toV,q1,YC,ha,hs]
   refine ⟨by simpa using q2,?_⟩
   rw [q3,<- qw]
   exact hK _ h2
  ·cases h
 ·rename_i g off ha
  split at h
  ·rename_i c hc
   obtain ⟨y,h1,h2⟩:=bind_some h
   obtain ⟨vs,q1,q2⟩:=zom h1
   simp only [toV,q1,YC,ha,q2]
   rw [<- qw]
   exact hK _ h2
  ·cases h
 ·cases h
theorem zmm {op:BinOp} {k:IntKind} {a b:Int} (hK:∀ s,K s = some r->Kp (toV s)) (h:zsO op k a b K = some r):zoL op k a b Kp:=by
 have hK':∀ s v,K s = some r->toV s = v->Kp v:=fun s v h e=>e ▸ hK s h
 cases op <;> simp only [zsO,reduceCtorEq] at h
 case add=>obtain ⟨n,h1,h2⟩:=bind_some h; obtain ⟨q1,rfl⟩:=zh4 h1; exact ⟨q1,hK' _ _ h2 (by simp [toV])⟩
 case sub=>obtain ⟨n,h1,h2⟩:=bind_some h; obtain ⟨q1,rfl⟩:=zel h1; exact ⟨q1,hK' _ _ h2 (by simp [toV])⟩
 case mul=>obtain ⟨n,h1,h2⟩:=bind_some h; obtain ⟨q1,rfl⟩:=zoi h1; exact ⟨q1,hK' _ _ h2 (by simp [toV])⟩
 case quo=>obtain ⟨n,h1,h2⟩:=bind_some h; obtain ⟨q1,rfl⟩:=zoj h1; exact ⟨q1.1,q1.2,hK' _ _ h2 (by simp [toV])⟩
 case rem=>obtain ⟨n,h1,h2⟩:=bind_some h; obtain ⟨q1,rfl⟩:=zok h1; exact ⟨q1,hK' _ _ h2 (by simp [toV])⟩
 all_goals exact hK' _ _ h (by simp [toV])
theorem zmn {op:BinOp} {a b:List UInt8} (hK:∀ s,K s = some r->Kp (toV s)) (h:zsP op a b K = some r):zoM op a b Kp:=by
 have hK':∀ s v,K s = some r->toV s = v->Kp v:=fun s v h e=>e ▸ hK s h
 cases op <;> simp only [zsP,reduceCtorEq] at h
 case add=>obtain ⟨n,h1,h2⟩:=bind_some h; obtain ⟨q1,rfl⟩:=zol h1; exact ⟨q1,hK' _ _ h2 (by simp [toV])⟩
 all_goals exact hK' _ _ h (by simp [toV])
theorem zgG {a b:S} {k k':CK} (ha:zeH a = some k) (hb:zeH b = some k'):Qn (toV a) (toV b) = zfp a b:=by
 cases a <;> simp only [zeH,reduceCtorEq] at ha <;> cases b <;> simp only [zeH,reduceCtorEq] at hb <;> simp [toV,Qn,zfp]
theorem zon {a b:CK} (h:zof a b = true):a = b:=by
 cases a <;> cases b <;> simp_all [zof]
theorem zrJ {a:S} {k:CK} (h:zeH a = some k):Qr (toV a) = some k:=by
 cases a <;> simp only [zeH,reduceCtorEq] at h <;> simpa [toV,Qr] using h
theorem zbS {k:CK} {ks:List CK} {c:S} {cs:List S} (h:Zx (k :: ks) (c :: cs) = true):zeH c = some k/\Zx ks cs = true:=by
 simp only [Zx,zuc] at h
 refine ⟨?_,h.2⟩
 have h1:=h.1
 split at h1
 ·rename_i k' hk; rw [hk,zon h1]
 ·cases h1
theorem zbT:∀ {ks:List CK} {cs:List S},Zx ks cs = true->Yi ks (zg cs)
 | [],[],_=>by simp [zg,Yi]
 | [],_ :: _,h=>by simp [Zx] at h
 | _ :: _,[],h=>by simp [Zx] at h
 | k :: ks,c :: cs,h=>by
  obtain ⟨h1,h2⟩:=zbS h
  simp only [zg,Yi]
  exact ⟨zrJ h1,zbT h2⟩
theorem zqi:∀ {ks:List CK} {cs ds:List S},Zx ks cs = true->Zx ks ds = true->eqV (zg cs) (zg ds) = eqS cs ds
 | [],[],[],_,_=>by simp [zg,eqV,eqS]
 | [],_ :: _,_,h,_=>by simp [Zx] at h
 | [],[],_ :: _,_,h=>by simp [Zx] at h
 | _ :: _,[],_,h,_=>by simp [Zx] at h
 | _ :: _,_ :: _,[],_,h=>by simp [Zx] at h
 | k :: ks,c :: cs,d :: ds,h1,h2=>by
  obtain ⟨a1,a2⟩:=zbS h1
  obtain ⟨b1,b2⟩:=zbS h2
  have ih:=zqi a2 b2
  cases cs with
  | nil =>
   cases ds with
   | nil=>simp only [zg,eqV,eqS]; exact zgG a1 b1
   | cons d' ds=>cases ks <;> simp [Zx] at a2 b2
  | cons c' cs =>
   cases ds with
   | nil=>cases ks <;> simp [Zx] at a2 b2
   | cons d' ds =>
    simp only [zg] at ih ⊢
    rw [eqV,eqS,ih,zgG a1 b1]
    ·simp
    ·simp
theorem zmo {op:BinOp} {xT:TypeId} {a b:S} (hK:∀ s,K s = some r->Kp (toV s)) (h:zsQ P op xT a b K = some r):zes P op xT (toV a) (toV b) Kp:=by
 have hK':∀ s v,K s = some r->toV s = v->Kp v:=fun s v h e=>e ▸ hK s h
 unfold zsQ at h
 split at h
 ·rename_i k x k' y
  simp only [toV,zes]
  cases hs:zsN op with
  | true =>
   rw [hs] at h
   simp only [cond_true] at h
   right
   unfold shX at h
   unfold zsa
   cases op <;> simp only [zsN,Bool.false_eq_true] at hs
   ·obtain ⟨n,h1,h2⟩:=bind_some h
    obtain ⟨h3,h4⟩:=zbe h1
    cases h4
    exact ⟨h3,hK' _ _ h2 (by simp [toV])⟩
   ·obtain ⟨n,h1,h2⟩:=bind_some h
    obtain ⟨h3,h4⟩:=zbe h1
    cases h4
    exact ⟨h3,hK' _ _ h2 (by simp [toV])⟩
  | false =>
   rw [hs] at h
   simp only [cond_false] at h
   obtain ⟨h1,h2⟩:=zbe h
   exact .inl ⟨h1,zmm hK h2⟩
 ·simp only [toV,zes]
  exact zmn hK h
 ·simp only [toV,zes]
  split at h
  ·rename_i hb; simp only [hb]; exact hK' _ _ h (by simp [toV])
  ·rename_i hb; simp only [hb]; exact hK' _ _ h (by simp [toV])
  ·cases h
 ·rename_i cs ds
  simp only [toV,zes]
  split at h
  ·rename_i ks hk
   obtain ⟨h1,h2⟩:=zZ h
   simp only [zuc] at h1
   simp only [hk]
   exact ⟨zbT h1.1,zbT h1.2,hK' _ _ h2 (by simp [toV,zqi h1.1 h1.2])⟩
  ·rename_i ks hk
   obtain ⟨h1,h2⟩:=zZ h
   simp only [zuc] at h1
   simp only [hk]
   exact ⟨zbT h1.1,zbT h1.2,hK' _ _ h2 (by simp [toV,zqi h1.1 h1.2])⟩
  ·cases h
 ·cases h
theorem zoo {op:UnOp} {x:S} (hK:∀ s,K s = some r->Kp (toV s)) (h:unX op x K = some r):zoN op (toV x) Kp:=by
 have hK':∀ s v,K s = some r->toV s = v->Kp v:=fun s v h e=>e ▸ hK s h
 unfold unX at h
 split at h
 ·simp only [toV,zoN]; exact hK' _ _ h (by simp [toV])
 ·obtain ⟨n,h1,h2⟩:=bind_some h
  obtain ⟨q1,rfl⟩:=zel h1
  simp only [toV,zoN]; exact ⟨q1,hK' _ _ h2 (by simp [toV])⟩
 ·cases h
theorem zkU (s:List UInt8):(yd s).map (enc .u8) = qp s:=by
 simp [yd,qp,enc,zgm]
theorem zop {l:List Int} {s:List UInt8} (h:zab l = some s):l.map (enc .u8) = qp s:=by
 obtain ⟨h1,h2⟩:=zbe h
 cases h2
 simp only [qp,List.map_map]
 refine List.map_congr_left fun n hn=>?_
 have:=List.all_eq_true.1 h1 n hn
 simp only [zuc,decide_eq_true_eq] at this
 simp only [enc,zgm,Function.comp]
 congr 1
 have h3:n.toNat < 256:=by omega
 rw [UInt8.toNat_ofNat',Nat.mod_eq_of_lt h3]
 omega
theorem zkV {s d:TypeId} {x:S} (hK:∀ s,K s = some r->Kp (toV s)) (h:zp5 P s d x K = some r):zbf P s d (toV x) Kp:=by
 have hK':∀ s v,K s = some r->toV s = v->Kp v:=fun s v h e=>e ▸ hK s h
 unfold zp5 at h
 split at h
 ·rename_i h1 h2
  simp only [toV,zbf,h1,h2]; exact hK' _ _ h (by simp [toV])
 ·rename_i h1 h2
  simp only [toV,zbf,h1,h2]; exact hK' _ _ h (by simp [toV])
 ·rename_i h1 h2
  split at h
  ·rename_i e he
   split at h
   ·rename_i hb
    simp only [toV,zbf,h1,h2,he,hb]
    refine hK' _ _ h ?_
    simp only [toV]
    rw [zkU]
   ·cases h
  ·cases h
 ·rename_i h1 h2
  split at h
  ·rename_i e he
   split at h
   ·rename_i hb
    obtain ⟨y,h3,h4⟩:=bind_some h
    simp only [toV,zbf,h1,h2,he,hb]
    exact ⟨y,zop h3,hK' _ _ h4 (by simp [toV])⟩
   ·cases h
  ·cases h
 ·cases h
theorem Y7 {x:Option Operand} {d:Nat} {Ki:Int->Option β} {Kn:Nat->Prop} (hK:∀ i,Ki i = some r->0 <= i/\Kn i.toNat) (h:zcK ro m x d Ki = some r):Q3 (za ro m) x d Kn:=by
 unfold zcK at h
 unfold Q3
 cases x with
 | none=>have:=(hK _ h).2; simpa using this
 | some x =>
  simp only at h ⊢
  rw [<- zk]
  split at h
  ·rename_i k i hi; simp only [hi,toV]; exact hK _ h
  ·cases h
theorem ZT {t:TypeId} {c:C} {e:TypeId} {n:Nat} (h:zcr P t c = some (e,n)):qv P t = some e/\zj P e = some n/\n = csz c:=by
 unfold zcr at h
 split at h
 ·rename_i e' he
  split at h
  ·rename_i n' hn
   obtain ⟨h1,h2⟩:=zZ h
   cases h2
   exact ⟨he,hn,Nat.eq_of_beq_eq_true h1⟩
  ·cases h
 ·cases h
theorem yK (c:C) (l:List (den c)):yO (csz c) (l.map (enc c)):=by
 intro v hv
 obtain ⟨x,_,rfl⟩:=List.mem_map.1 hv
 exact zhR c x
theorem zdz {t:TypeId} {x:S} {lo hi mx:Option Operand} {dst:Option Nat} (hK:∀ s tk,K2 s tk = some r->K2p (toV s) tk) (h:zi3 P ro m t x lo hi mx dst K2 = some r) :
  YE P t (za ro m) (toV x) lo hi mx dst K2p:=by
 have hK':∀ s tk v,K2 s tk = some r->toV s = v->K2p v tk:=fun s tk v h e=>e ▸ hK s tk h
 unfold zi3 at h
 split at h
 ·rename_i s
  split at h
  ·rename_i hb
   simp only [toV,YE,hb]
   refine Y7 (fun a ha=>?_) h
   have hb2:Q3 (za ro m) hi _ _:=Y7 (Kn:=fun h=>a.toNat <= h/\h <= s.length/\K2p (.str ((List.take h s).drop a.toNat)) none) (fun b hb=>?_) ha
   ·refine ⟨?_,hb2⟩
    rcases hi with _ | hi
    ·simp only [zcK] at ha
     obtain ⟨y,h1,_⟩:=bind_some ha
     exact (YR h1).1.1
    ·simp only [zcK] at ha
     split at ha
     ·obtain ⟨y,h1,_⟩:=bind_some ha
      exact (YR h1).1.1
     ·cases ha
   ·obtain ⟨y,h1,h2⟩:=bind_some hb
    obtain ⟨⟨q1,q2,q3⟩,rfl⟩:=YR h1
    exact ⟨by omega,by omega,by omega,hK' _ _ _ h2 (by simp [toV])⟩
  ·cases h
 ·rename_i c l
  split at h
  ·rename_i en he
   obtain ⟨e,n⟩:=en
   obtain ⟨e1,e2,rfl⟩:=ZT he
   simp only [toV,YE,e1,e2]
   refine ⟨yK c l,?_⟩
   refine Y7 (fun a ha=>?_) h
   rw [List.length_map]
   have hb2:Q3 (za ro m) hi _ _:=Y7 (Kn:=fun h=>a.toNat <= h/\h <= l.length/\K2p (.list ((List.take h (l.map (enc c))).drop a.toNat)) none) (fun b hb=>?_) ha
   ·refine ⟨?_,hb2⟩
    rcases hi with _ | hi
    ·simp only [zcK] at ha
     obtain ⟨y,h1,_⟩:=bind_some ha
     exact (YR h1).1.1
    ·simp only [zcK] at ha
     split at ha
     ·obtain ⟨y,h1,_⟩:=bind_some ha
      exact (YR h1).1.1
     ·cases ha
   ·obtain ⟨y,h1,h2⟩:=bind_some hb
    obtain ⟨⟨q1,q2,q3⟩,rfl⟩:=YR h1
    exact ⟨by omega,by omega,by omega,hK' _ _ _ h2 (by simp [toV,List.map_drop,List.map_take])⟩
  ·cases h
 ·rename_i c l mx
  split at h
  ·rename_i e n hi he
   obtain ⟨e1,e2,rfl⟩:=ZT he
   simp only [toV,YE,e1,e2]
   refine ⟨yK c l,?_⟩
   refine Y7 (fun a ha=>?_) h
   rw [List.length_map]
   have h0:0 <= a:=by
    simp only [zcK] at ha
    split at ha
    ·split at ha
     ·rcases brS ha with ⟨_,ha⟩ | ⟨_,ha⟩
      ·obtain ⟨y,h1,_⟩:=bind_some ha
       exact (YR h1).1.1
      ·cases ha
     ·cases ha
    ·cases ha
   refine ⟨h0,Y7 (fun b hb=>?_) ha⟩
   have hb':=hb
   simp only [zcK] at hb
   split at hb
   ·rename_i kk i hi'
    rcases brS hb with ⟨q0,hb⟩ | ⟨_,hb⟩
    ·obtain ⟨y,h1,h2⟩:=bind_some hb
     obtain ⟨⟨q1,q2,q3⟩,rfl⟩:=YR h1
     simp only [decide_eq_true_eq] at q0
     subst q0
     refine ⟨by omega,?_⟩
     unfold Q3
     simp only
     rw [<- zk,hi']
     simp only [toV]
     exact ⟨by omega,trivial,by omega,by omega,hK' _ _ _ h2 (by simp [toV,List.map_drop,List.map_take])⟩
    ·cases hb
   ·cases hb
  ·cases h
 ·cases h
theorem zh6 {c:C} {g n:Nat}:∀ {k off:Nat} {l:List (den c)},zp4 c g n k off = some l->0 < k->∃ vs,GL g = some vs/\off + k * n <= vs.length/\Qm n k ((vs.map qU).drop off) = l.map (enc c)
 | 0,_,_,_,h0=>absurd h0 (by omega)
 | k + 1,off,l,h,_=>by
  simp only [zp4] at h
  split at h
  ·rename_i x l' h1 h2
   cases h
   obtain ⟨vs,q1,q2,q3⟩:=zh5 h1
   by_cases hk:0 < k
   ·obtain ⟨vs',r1,r2,r3⟩:=zh6 h2 hk
    rw [q1] at r1; cases r1
    refine ⟨vs,q1,by rw [Nat.add_mul]; omega,?_⟩
    simp only [Qm,List.map_cons,q3,List.drop_drop,r3]
   ·obtain rfl:k = 0:=by omega
    simp only [zp4,zuf] at h2
    subst h2
    refine ⟨vs,q1,by omega,?_⟩
    simp only [Qm,List.map_cons,q3,List.map_nil]
  ·cases h
theorem zhg {t:TypeId} {x:S} {lo hi mx:Option Operand} {dst:Option Nat} (hK:∀ s tk,K2 s tk = some r->K2p (toV s) tk) (h:zi4 P code ro m t x lo hi mx dst K2 = some r) :
  YE P t (za ro m) (toV x) lo hi mx dst K2p:=by
 unfold zi4 at h
 split at h
 ·rename_i g a
  split at h
  ·rename_i len e hT
   split at h
   ·rename_i n c hs hc
    obtain ⟨h1,h2⟩:=zZ h
    simp only [zuc] at h1
    obtain ⟨y,h3,h4⟩:=bind_some h2
    have hl0:0 < len:=zue h1.2
    obtain ⟨vs,q1,q2,q3⟩:=zh6 h3 hl0
    simp only [toV,q1,YE,hT,hs]
    refine ⟨by simpa using q2,zue h1.1.2,hl0,?_⟩
    rw [q3]
    have:=hK _ _ h4
    simpa only [toV] using this
   ·cases h
  ·cases h
 ·exact zdz hK h
theorem zjn {s:TypeId} {i:Nat} {x:S} (hK:∀ s,K s = some r->Kp (toV s)) (h:zl7 P s i x K = some r):zfe P s i (toV x) Kp:=by
 have hK':∀ s v,K s = some r->toV s = v->Kp v:=fun s v h e=>e ▸ hK s h
 unfold zl7 at h
 unfold zfe
 split at h
 ·rename_i off t hf
  simp only [hf]
  split at h
  ·rename_i n hs
   simp only [hs]
   cases hn:Nat.beq n 0 with
   | true=>rw [hn] at h; cases h
   | false =>
    rw [hn] at h
    have hn':n ≠ 0:=fun e=>by subst e; cases hn
    simp only [cond_false] at h
    refine ⟨hn',?_⟩
    split at h
    ·simp only [toV]; exact hK' _ _ h (by simp [toV])
    ·simp only [toV]; exact hK' _ _ h (by simp [toV])
    ·rename_i g a
     split at h
     ·rename_i vs hv
      simp only [toV,hv]
      exact hK' _ _ h (by simp [toV,hv])
     ·cases h
    ·cases h
  ·cases h
 ·cases h
end
end Go.X
