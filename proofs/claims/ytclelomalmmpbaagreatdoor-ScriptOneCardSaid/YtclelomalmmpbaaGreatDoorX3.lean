import Derived.Test.YtclelomalmmpbaaGreatDoorE16
open Bool renaming and_eq_true -> zvL
open Nat renaming le_of_ble_eq_true -> zvN
open Option.some renaming injEq -> zvO
set_option linter.unusedSimpArgs false
set_option linter.unusedVariables false
noncomputable section
namespace Go.X
open Go.Eng
open Go.RowKit
structure ID where
 Node:Int
 Seq:Int
 Off:Int
 deriving DecidableEq,Inhabited,Repr
structure Contact where
 From:Int
 To:Int
 Start:Int
 End:Int
 Rate:Int
 Delay:Int
 deriving DecidableEq,Inhabited,Repr
structure Outc where
 Tick:Int
 Node:Int
 Kind:Int
 ID:ID
 Other:Int
 deriving DecidableEq,Inhabited,Repr
structure Word where
 At:Int
 Key:List UInt8
 Text:List UInt8
 deriving DecidableEq,Inhabited,Repr
structure Row where
 At:Int
 Words:List (Word)
 deriving DecidableEq,Inhabited,Repr
structure Fault where
 Err:Int
 At:Int
 deriving DecidableEq,Inhabited,Repr
structure Bundle where
 ID:ID
 Dest:Int
 Prio:Int
 Born:Int
 Life:Int
 Total:Int
 Data:List UInt8
 deriving DecidableEq,Inhabited,Repr
structure Command where
 Kind:Int
 Node:Int
 Other:Int
 N:Int
 At:Int
 By:Int
 Bundle:Bundle
 deriving DecidableEq,Inhabited,Repr
structure W3 where
 a:Int
 b:Int
 c:Int
 deriving DecidableEq,Inhabited,Repr
structure Config where
 Node:Int
 Quota:Int
 Largest:Int
 Window:Int
 Low:Int
 Retry:Int
 RetryMax:Int
 Bypass:Int
 Weights:W3
 RateN:Int
 RateD:Int
 Burst:Int
 Blocks:Int
 Rate:Int
 deriving DecidableEq,Inhabited,Repr
structure Script where
 Configs:List (Config)
 Plan:List (Contact)
 Commands:List (Command)
 deriving DecidableEq,Inhabited,Repr
structure Pair where
 a:Int
 b:Int
 deriving DecidableEq,Inhabited,Repr
structure Use where
 word:List UInt8
 node:Bool
 other:Bool
 low:Int
 n:Int
 at_:Int
 by_:Int
 bndl:Bool
 deriving DecidableEq,Inhabited,Repr
structure RUse where
 word:List UInt8
 node:Bool
 other:Bool
 n:Bool
 at_:Bool
 by_:Bool
 b:Bool
 least:Int
 most:Int
 far:Int
 deriving DecidableEq,Inhabited,Repr
structure BI where
 used:Bool
 n:Int
 deriving DecidableEq,Inhabited,Repr
inductive IV where
 | int (t:Nat) (n:Int)
 | id (t:Nat) (x:ID)
 deriving DecidableEq,Inhabited,Repr
inductive C where
 | i64 | u64 | i32 | u32 | u8 | i16 | u16 | i8 | bool | str | iv | ID | Contact | Outc | Word | Row | Fault | Bundle | Command | W3 | Config | Script | Pair | Use | RUse | BI | l_W3 | l_Contact | l_Word | l_Row | l_Command | l_Config | l_Use | l_BI | l_u8 | l_i64 | l_str
 deriving DecidableEq
@[reducible] def den:C->Type
 | .i64=>Int
 | .u64=>Int
 | .i32=>Int
 | .u32=>Int
 | .u8=>Int
 | .i16=>Int
 | .u16=>Int
 | .i8=>Int
 | .bool=>Bool
 | .str=>List UInt8
 | .iv=>IV
 | .ID=>ID
 | .Contact=>Contact
 | .Outc=>Outc
 | .Word=>Word
 | .Row=>Row
 | .Fault=>Fault
 | .Bundle=>Bundle
 | .Command=>Command
 | .W3=>W3
 | .Config=>Config
 | .Script=>Script
 | .Pair=>Pair
 | .Use=>Use
 | .RUse=>RUse
 | .BI=>BI
 | .l_W3=>List (W3)
 | .l_Contact=>List (Contact)
 | .l_Word=>List (Word)
 | .l_Row=>List (Row)
 | .l_Command=>List (Command)
 | .l_Config=>List (Config)
 | .l_Use=>List (Use)
 | .l_BI=>List (BI)
 | .l_u8=>List (Int)
 | .l_i64=>List (Int)
 | .l_str=>List (List UInt8)
def zjZ:Int->V:=fun x=>.int .i64 x
def zoT:Int->V:=fun x=>.int .u64 x
def zoU:Int->V:=fun x=>.int .i32 x
def zoV:Int->V:=fun x=>.int .u32 x
def zgW:Int->V:=fun x=>.int .u8 x
def zoW:Int->V:=fun x=>.int .i16 x
def zoX:Int->V:=fun x=>.int .u16 x
def zrS:Int->V:=fun x=>.int .i8 x
def zlW:Bool->V:=fun x=>.bool x
def zdq:List UInt8->V:=fun x=>.str x
def QT:IV->V
 | .int t n=>.iface t (.int .i64 n)
 | .id t x=>.iface t (.agg [.int .i64 x.Node,.int .u64 x.Seq,.int .i64 x.Off])
def zeg:ID->V:=fun x=>.agg [.int .i64 x.Node,.int .u64 x.Seq,.int .i64 x.Off]
def ZP:Contact->V:=fun x=>.agg [.int .i64 x.From,.int .i64 x.To,.int .i64 x.Start,.int .i64 x.End,.int .i64 x.Rate,.int .i64 x.Delay]
def zad:Outc->V:=fun x=>.agg [.int .i64 x.Tick,.int .i64 x.Node,.int .i64 x.Kind,.int .i64 x.ID.Node,.int .u64 x.ID.Seq,.int .i64 x.ID.Off,.int .i64 x.Other]
def zbq:Word->V:=fun x=>.agg [.int .i64 x.At,.str x.Key,.str x.Text]
def zeh:Fault->V:=fun x=>.agg [.int .i64 x.Err,.int .i64 x.At]
def zcy:Bundle->V:=fun x=>.agg [.int .i64 x.ID.Node,.int .u64 x.ID.Seq,.int .i64 x.ID.Off,.int .i64 x.Dest,.int .i64 x.Prio,.int .i64 x.Born,.int .i64 x.Life,.int .i64 x.Total,.str x.Data]
def y5:Command->V:=fun x=>.agg [.int .i64 x.Kind,.int .i64 x.Node,.int .i64 x.Other,.int .i64 x.N,.int .i64 x.At,.int .i64 x.By,.int .i64 x.Bundle.ID.Node,.int .u64 x.Bundle.ID.Seq,.int .i64 x.Bundle.ID.Off,.int .i64 x.Bundle.Dest,.int .i64 x.Bundle.Prio,.int .i64 x.Bundle.Born,.int .i64 x.Bundle.Life,.int .i64 x.Bundle.Total,.str x.Bundle.Data]
def zj0:W3->V:=fun x=>.agg [.int .i64 x.a,.int .i64 x.b,.int .i64 x.c]
def Yk:Config->V:=fun x=>.agg [.int .i64 x.Node,.int .u64 x.Quota,.int .u64 x.Largest,.int .u64 x.Window,.int .u64 x.Low,.int .i64 x.Retry,.int .i64 x.RetryMax,.int .i64 x.Bypass,.int .i64 x.Weights.a,.int .i64 x.Weights.b,.int .i64 x.Weights.c,.int .i64 x.RateN,.int .i64 x.RateD,.int .i64 x.Burst,.int .i64 x.Blocks,.int .i64 x.Rate]
def zae:Pair->V:=fun x=>.agg [.int .i64 x.a,.int .i64 x.b]
def zfD:Use->V:=fun x=>.agg [.str x.word,.bool x.node,.bool x.other,.int .i64 x.low,.int .i64 x.n,.int .i64 x.at_,.int .i64 x.by_,.bool x.bndl]
def zgX:RUse->V:=fun x=>.agg [.str x.word,.bool x.node,.bool x.other,.bool x.n,.bool x.at_,.bool x.by_,.bool x.b,.int .i64 x.least,.int .i64 x.most,.int .i64 x.far]
def zj1:BI->V:=fun x=>.agg [.bool x.used,.int .i64 x.n]
def zgY:List (W3)->V:=fun x=>.list (x.map zj0)
def QU:List (Contact)->V:=fun x=>.list (x.map ZP)
def zcz:List (Word)->V:=fun x=>.list (x.map zbq)
def QW:List (Command)->V:=fun x=>.list (x.map y5)
def zaE:List (Config)->V:=fun x=>.list (x.map Yk)
def zei:List (Use)->V:=fun x=>.list (x.map zfD)
def zgZ:List (BI)->V:=fun x=>.list (x.map zj1)
def zg0:List (Int)->V:=fun x=>.list (x.map zgW)
def zej:List (Int)->V:=fun x=>.list (x.map zjZ)
def zek:List (List UInt8)->V:=fun x=>.list (x.map zdq)
def zdr:Row->V:=fun x=>.agg [.int .i64 x.At,.list (x.Words.map zbq)]
def ZG:Script->V:=fun x=>.agg [.list (x.Configs.map Yk),.list (x.Plan.map ZP),.list (x.Commands.map y5)]
def zel:List (Row)->V:=fun x=>.list (x.map zdr)
def zvk:C->Option (C × Nat)
 | _=>none
def dfl:∀ c:C,den c
 | .i64=>(0:Int)
 | .u64=>(0:Int)
 | .i32=>(0:Int)
 | .u32=>(0:Int)
 | .u8=>(0:Int)
 | .i16=>(0:Int)
 | .u16=>(0:Int)
 | .i8=>(0:Int)
 | .bool=>(false:Bool)
 | .str=>([]:List UInt8)
 | .iv=>(.int 0 0:IV)
 | .ID=>(⟨0,0,0⟩:ID)
 | .Contact=>(⟨0,0,0,0,0,0⟩:Contact)
 | .Outc=>(⟨0,0,0,⟨0,0,0⟩,0⟩:Outc)
 | .Word=>(⟨0,[],[]⟩:Word)
 | .Row=>(⟨0,[]⟩:Row)
 | .Fault=>(⟨0,0⟩:Fault)
 | .Bundle=>(⟨⟨0,0,0⟩,0,0,0,0,0,[]⟩:Bundle)
 | .Command=>(⟨0,0,0,0,0,0,⟨⟨0,0,0⟩,0,0,0,0,0,[]⟩⟩:Command)
 | .W3=>(⟨0,0,0⟩:W3)
 | .Config=>(⟨0,0,0,0,0,0,0,0,⟨0,0,0⟩,0,0,0,0,0⟩:Config)
 | .Script=>(⟨[],[],[]⟩:Script)
 | .Pair=>(⟨0,0⟩:Pair)
 | .Use=>(⟨[],false,false,0,0,0,0,false⟩:Use)
 | .RUse=>(⟨[],false,false,false,false,false,false,0,0,0⟩:RUse)
 | .BI=>(⟨false,0⟩:BI)
 | .l_W3=>([]:List (W3))
 | .l_Contact=>([]:List (Contact))
 | .l_Word=>([]:List (Word))
 | .l_Row=>([]:List (Row))
 | .l_Command=>([]:List (Command))
 | .l_Config=>([]:List (Config))
 | .l_Use=>([]:List (Use))
 | .l_BI=>([]:List (BI))
 | .l_u8=>([]:List (Int))
 | .l_i64=>([]:List (Int))
 | .l_str=>([]:List (List UInt8))
def enc:∀ c:C,den c->V
 | .i64=>zjZ
 | .u64=>zoT
 | .i32=>zoU
 | .u32=>zoV
 | .u8=>zgW
 | .i16=>zoW
 | .u16=>zoX
 | .i8=>zrS
 | .bool=>zlW
 | .str=>zdq
 | .iv=>QT
 | .ID=>zeg
 | .Contact=>ZP
 | .Outc=>zad
 | .Word=>zbq
 | .Row=>zdr
 | .Fault=>zeh
 | .Bundle=>zcy
 | .Command=>y5
 | .W3=>zj0
 | .Config=>Yk
 | .Script=>ZG
 | .Pair=>zae
 | .Use=>zfD
 | .RUse=>zgX
 | .BI=>zj1
 | .l_W3=>zgY
 | .l_Contact=>QU
 | .l_Word=>zcz
 | .l_Row=>zel
 | .l_Command=>QW
 | .l_Config=>zaE
 | .l_Use=>zei
 | .l_BI=>zgZ
 | .l_u8=>zg0
 | .l_i64=>zej
 | .l_str=>zek
def csz:C->Nat
 | .i64=>1
 | .u64=>1
 | .i32=>1
 | .u32=>1
 | .u8=>1
 | .i16=>1
 | .u16=>1
 | .i8=>1
 | .bool=>1
 | .str=>1
 | .iv=>1
 | .ID=>3
 | .Contact=>6
 | .Outc=>7
 | .Word=>3
 | .Row=>2
 | .Fault=>2
 | .Bundle=>9
 | .Command=>15
 | .W3=>3
 | .Config=>16
 | .Script=>3
 | .Pair=>2
 | .Use=>8
 | .RUse=>10
 | .BI=>2
 | .l_W3=>1
 | .l_Contact=>1
 | .l_Word=>1
 | .l_Row=>1
 | .l_Command=>1
 | .l_Config=>1
 | .l_Use=>1
 | .l_BI=>1
 | .l_u8=>1
 | .l_i64=>1
 | .l_str=>1
theorem z8 {α:Type} {f:α->V} (h:∀ x,(f x).noLoc = true):∀ l:List α,V.noLocL (l.map f) = true
 | []=>rfl
 | x :: l=>by simp [V.noLocL,h x,z8 h l]
theorem ziG:∀ (c:C) (x:den c),(enc c x).csize = some (csz c):=by
 intro c x; cases c <;> first | rfl | (cases x <;> rfl)
theorem zg1 (x:IV):(QT x).noLoc = true:=by cases x <;> rfl
theorem ziH (x:Int):(zjZ x).noLoc = true:=rfl
theorem zpL (x:Int):(zoT x).noLoc = true:=rfl
theorem zpM (x:Int):(zoU x).noLoc = true:=rfl
theorem zpN (x:Int):(zoV x).noLoc = true:=rfl
theorem zlX (x:Int):(zgW x).noLoc = true:=rfl
theorem zpO (x:Int):(zoW x).noLoc = true:=rfl
theorem zpP (x:Int):(zoX x).noLoc = true:=rfl
theorem zrT (x:Int):(zrS x).noLoc = true:=rfl
theorem znC (x:Bool):(zlW x).noLoc = true:=rfl
theorem ziI (x:List UInt8):(zdq x).noLoc = true:=rfl
theorem zrU (x:ID):(zeg x).noLoc = true:=rfl
theorem QX (x:Contact):(ZP x).noLoc = true:=rfl
theorem znD (x:Outc):(zad x).noLoc = true:=rfl
theorem zcA (x:Word):(zbq x).noLoc = true:=rfl
theorem zlY (x:Fault):(zeh x).noLoc = true:=rfl
theorem zj2 (x:Bundle):(zcy x).noLoc = true:=rfl
theorem QY (x:Command):(y5 x).noLoc = true:=rfl
theorem zlZ (x:W3):(zj0 x).noLoc = true:=rfl
theorem zaF (x:Config):(Yk x).noLoc = true:=rfl
theorem znE (x:Pair):(zae x).noLoc = true:=rfl
theorem ziJ (x:Use):(zfD x).noLoc = true:=rfl
theorem znF (x:RUse):(zgX x).noLoc = true:=rfl
theorem zl0 (x:BI):(zj1 x).noLoc = true:=rfl
theorem znG (x:List (W3)):(zgY x).noLoc = true:=by simp only [zgY,V.noLoc]; exact z8 zlZ x
theorem zfo (x:List (Contact)):(QU x).noLoc = true:=by simp only [QU,V.noLoc]; exact z8 QX x
theorem zj3 (x:List (Word)):(zcz x).noLoc = true:=by simp only [zcz,V.noLoc]; exact z8 zcA x
theorem zfp (x:List (Command)):(QW x).noLoc = true:=by simp only [QW,V.noLoc]; exact z8 QY x
theorem zg2 (x:List (Config)):(zaE x).noLoc = true:=by simp only [zaE,V.noLoc]; exact z8 zaF x
theorem zl1 (x:List (Use)):(zei x).noLoc = true:=by simp only [zei,V.noLoc]; exact z8 ziJ x
theorem znH (x:List (BI)):(zgZ x).noLoc = true:=by simp only [zgZ,V.noLoc]; exact z8 zl0 x
theorem znI (x:List (Int)):(zg0 x).noLoc = true:=by simp only [zg0,V.noLoc]; exact z8 zlX x
theorem zl2 (x:List (Int)):(zej x).noLoc = true:=by simp only [zej,V.noLoc]; exact z8 ziH x
theorem zl3 (x:List (List UInt8)):(zek x).noLoc = true:=by simp only [zek,V.noLoc]; exact z8 ziI x
theorem ziK (x:Row):(zdr x).noLoc = true:=by simp [zdr,V.noLoc,V.noLocL,z8 zcA]
theorem zj4 (x:Script):(ZG x).noLoc = true:=by simp [ZG,V.noLoc,V.noLocL,z8 QY,z8 zaF,z8 QX]
theorem zl4 (x:List (Row)):(zel x).noLoc = true:=by simp only [zel,V.noLoc]; exact z8 ziK x
theorem Y0:∀ (c:C) (x:den c),(enc c x).noLoc = true
 | .i64,x=>ziH x
 | .u64,x=>zpL x
 | .i32,x=>zpM x
 | .u32,x=>zpN x
 | .u8,x=>zlX x
 | .i16,x=>zpO x
 | .u16,x=>zpP x
 | .i8,x=>zrT x
 | .bool,x=>znC x
 | .str,x=>ziI x
 | .iv,x=>zg1 x
 | .ID,x=>zrU x
 | .Contact,x=>QX x
 | .Outc,x=>znD x
 | .Word,x=>zcA x
 | .Row,x=>ziK x
 | .Fault,x=>zlY x
 | .Bundle,x=>zj2 x
 | .Command,x=>QY x
 | .W3,x=>zlZ x
 | .Config,x=>zaF x
 | .Script,x=>zj4 x
 | .Pair,x=>znE x
 | .Use,x=>ziJ x
 | .RUse,x=>znF x
 | .BI,x=>zl0 x
 | .l_W3,x=>znG x
 | .l_Contact,x=>zfo x
 | .l_Word,x=>zj3 x
 | .l_Row,x=>zl4 x
 | .l_Command,x=>zfp x
 | .l_Config,x=>zg2 x
 | .l_Use,x=>zl1 x
 | .l_BI,x=>znH x
 | .l_u8,x=>znI x
 | .l_i64,x=>zl2 x
 | .l_str,x=>zl3 x
inductive S:Type where
 | any | un
 | int (k:IntKind) (n:Int)
 | bool (b:Bool)
 | str (s:List UInt8)
 | agg (cs:List S)
 | tup (vs:List S)
 | loc (i off:Nat)
 | loco (i off n:Nat) (ix:Int)
 | elt (cs:List S) (off:Nat)
 | gel (g off:Nat)
 | nilp
 | lst (c:C) (l:List (den c))
 | rows (vs:List S)
 | fn (f:Go.Fn) (first cap:List S)
 | nilfn
 | iface (t:TypeId) (v:S)
 | nilif
 | mref (i:Nat)
 | nilm
 | ptr (i:Int) (sz f:Nat)
 | ivd (x:IV)
 deriving Inhabited
def asInt (k:IntKind):S->Option Int
 | .int k' n=>if k' = k then some n else none
 | _=>none
def asBool:S->Option Bool
 | .bool b=>some b
 | _=>none
def zcd:S->Option (List UInt8)
 | .str b=>some b
 | _=>none
def zug:S->Option IV
 | .ivd x=>some x
 | .iface t (.int .i64 n)=>some (.int t n)
 | .iface t (.agg [.int .i64 a,.int .u64 b,.int .i64 c])=>some (.id t ⟨a,b,c⟩)
 | _=>none
def Yx (c:C):S->Option (List (den c))
 | .lst c' l=>if h:c' = c then some (h ▸ l) else none
 | .rows []=>some []
 | _=>none
def zds:Int->S:=fun x=>.int .i64 x
def zg3:Int->S:=fun x=>.int .u64 x
def zl5:Int->S:=fun x=>.int .i32 x
def zl6:Int->S:=fun x=>.int .u32 x
def zoY:Int->S:=fun x=>.int .u8 x
def zl7:Int->S:=fun x=>.int .i16 x
def zl8:Int->S:=fun x=>.int .u16 x
def zoZ:Int->S:=fun x=>.int .i8 x
def ziL:Bool->S:=fun x=>.bool x
def zbr:List UInt8->S:=fun x=>.str x
def zo0:IV->S:=fun x=>.ivd x
def zo1:ID->S:=fun x=>.agg [.int .i64 x.Node,.int .u64 x.Seq,.int .i64 x.Off]
def zdt:Contact->S:=fun x=>.agg [.int .i64 x.From,.int .i64 x.To,.int .i64 x.Start,.int .i64 x.End,.int .i64 x.Rate,.int .i64 x.Delay]
def ziM:Outc->S:=fun x=>.agg [.int .i64 x.Tick,.int .i64 x.Node,.int .i64 x.Kind,.int .i64 x.ID.Node,.int .u64 x.ID.Seq,.int .i64 x.ID.Off,.int .i64 x.Other]
def ziN:Word->S:=fun x=>.agg [.int .i64 x.At,.str x.Key,.str x.Text]
def zl9:Row->S:=fun x=>.agg [.int .i64 x.At,.lst .Word x.Words]
def zg4:Fault->S:=fun x=>.agg [.int .i64 x.Err,.int .i64 x.At]
def zeW:Bundle->S:=fun x=>.agg [.int .i64 x.ID.Node,.int .u64 x.ID.Seq,.int .i64 x.ID.Off,.int .i64 x.Dest,.int .i64 x.Prio,.int .i64 x.Born,.int .i64 x.Life,.int .i64 x.Total,.str x.Data]
def zdu:Command->S:=fun x=>.agg [.int .i64 x.Kind,.int .i64 x.Node,.int .i64 x.Other,.int .i64 x.N,.int .i64 x.At,.int .i64 x.By,.int .i64 x.Bundle.ID.Node,.int .u64 x.Bundle.ID.Seq,.int .i64 x.Bundle.ID.Off,.int .i64 x.Bundle.Dest,.int .i64 x.Bundle.Prio,.int .i64 x.Bundle.Born,.int .i64 x.Bundle.Life,.int .i64 x.Bundle.Total,.str x.Bundle.Data]
def zo2:W3->S:=fun x=>.agg [.int .i64 x.a,.int .i64 x.b,.int .i64 x.c]
def zeX:Config->S:=fun x=>.agg [.int .i64 x.Node,.int .u64 x.Quota,.int .u64 x.Largest,.int .u64 x.Window,.int .u64 x.Low,.int .i64 x.Retry,.int .i64 x.RetryMax,.int .i64 x.Bypass,.int .i64 x.Weights.a,.int .i64 x.Weights.b,.int .i64 x.Weights.c,.int .i64 x.RateN,.int .i64 x.RateD,.int .i64 x.Burst,.int .i64 x.Blocks,.int .i64 x.Rate]
def zeY:Script->S:=fun x=>.agg [.lst .Config x.Configs,.lst .Contact x.Plan,.lst .Command x.Commands]
def ziO:Pair->S:=fun x=>.agg [.int .i64 x.a,.int .i64 x.b]
def zma:Use->S:=fun x=>.agg [.str x.word,.bool x.node,.bool x.other,.int .i64 x.low,.int .i64 x.n,.int .i64 x.at_,.int .i64 x.by_,.bool x.bndl]
def ziP:RUse->S:=fun x=>.agg [.str x.word,.bool x.node,.bool x.other,.bool x.n,.bool x.at_,.bool x.by_,.bool x.b,.int .i64 x.least,.int .i64 x.most,.int .i64 x.far]
def zo3:BI->S:=fun x=>.agg [.bool x.used,.int .i64 x.n]
def ziQ:List (W3)->S:=fun x=>.lst .W3 x
def zbs:List (Contact)->S:=fun x=>.lst .Contact x
def zeZ:List (Word)->S:=fun x=>.lst .Word x
def zg5:List (Row)->S:=fun x=>.lst .Row x
def zbt:List (Command)->S:=fun x=>.lst .Command x
def zce:List (Config)->S:=fun x=>.lst .Config x
def zg6:List (Use)->S:=fun x=>.lst .Use x
def ziR:List (BI)->S:=fun x=>.lst .BI x
def ziS:List (Int)->S:=fun x=>.lst .u8 x
def zg7:List (Int)->S:=fun x=>.lst .i64 x
def zcB:List (List UInt8)->S:=fun x=>.lst .str x
def refl:∀ c:C,den c->S
 | .i64=>zds
 | .u64=>zg3
 | .i32=>zl5
 | .u32=>zl6
 | .u8=>zoY
 | .i16=>zl7
 | .u16=>zl8
 | .i8=>zoZ
 | .bool=>ziL
 | .str=>zbr
 | .iv=>zo0
 | .ID=>zo1
 | .Contact=>zdt
 | .Outc=>ziM
 | .Word=>ziN
 | .Row=>zl9
 | .Fault=>zg4
 | .Bundle=>zeW
 | .Command=>zdu
 | .W3=>zo2
 | .Config=>zeX
 | .Script=>zeY
 | .Pair=>ziO
 | .Use=>zma
 | .RUse=>ziP
 | .BI=>zo3
 | .l_W3=>ziQ
 | .l_Contact=>zbs
 | .l_Word=>zeZ
 | .l_Row=>zg5
 | .l_Command=>zbt
 | .l_Config=>zce
 | .l_Use=>zg6
 | .l_BI=>ziR
 | .l_u8=>ziS
 | .l_i64=>zg7
 | .l_str=>zcB
def zrV:S->Option (ID)
 | .agg [p0,p1,p2]=>(asInt .i64 p0).bind fun q0=>(asInt .u64 p1).bind fun q1=>(asInt .i64 p2).bind fun q2=>(some ⟨q0,q1,q2⟩)
 | _=>none
def zcC:S->Option (Contact)
 | .agg [p0,p1,p2,p3,p4,p5]=>(asInt .i64 p0).bind fun q0=>(asInt .i64 p1).bind fun q1=>(asInt .i64 p2).bind fun q2=>(asInt .i64 p3).bind fun q3=>(asInt .i64 p4).bind fun q4=>(asInt .i64 p5).bind fun q5=>(some ⟨q0,q1,q2,q3,q4,q5⟩)
 | _=>none
def zj5:S->Option (Outc)
 | .agg [p0,p1,p2,p3,p4,p5,p6]=>(asInt .i64 p0).bind fun q0=>(asInt .i64 p1).bind fun q1=>(asInt .i64 p2).bind fun q2=>(asInt .i64 p3).bind fun q3=>(asInt .u64 p4).bind fun q4=>(asInt .i64 p5).bind fun q5=>(asInt .i64 p6).bind fun q6=>(some ⟨q0,q1,q2,⟨q3,q4,q5⟩,q6⟩)
 | _=>none
def zj6:S->Option (Word)
 | .agg [p0,p1,p2]=>(asInt .i64 p0).bind fun q0=>(zcd p1).bind fun q1=>(zcd p2).bind fun q2=>(some ⟨q0,q1,q2⟩)
 | _=>none
def znJ:S->Option (Row)
 | .agg [p0,p1]=>(asInt .i64 p0).bind fun q0=>(Yx .Word p1).bind fun q1=>(some ⟨q0,q1⟩)
 | _=>none
def zg8:S->Option (Fault)
 | .agg [p0,p1]=>(asInt .i64 p0).bind fun q0=>(asInt .i64 p1).bind fun q1=>(some ⟨q0,q1⟩)
 | _=>none
def zem:S->Option (Bundle)
 | .agg [p0,p1,p2,p3,p4,p5,p6,p7,p8]=>(asInt .i64 p0).bind fun q0=>(asInt .u64 p1).bind fun q1=>(asInt .i64 p2).bind fun q2=>(asInt .i64 p3).bind fun q3=>(asInt .i64 p4).bind fun q4=>(asInt .i64 p5).bind fun q5=>(asInt .i64 p6).bind fun q6=>(asInt .i64 p7).bind fun q7=>(zcd p8).bind fun q8=>(some ⟨⟨q0,q1,q2⟩,q3,q4,q5,q6,q7,q8⟩)
 | _=>none
def zcD:S->Option (Command)
 | .agg [p0,p1,p2,p3,p4,p5,p6,p7,p8,p9,p10,p11,p12,p13,p14]=>(asInt .i64 p0).bind fun q0=>(asInt .i64 p1).bind fun q1=>(asInt .i64 p2).bind fun q2=>(asInt .i64 p3).bind fun q3=>(asInt .i64 p4).bind fun q4=>(asInt .i64 p5).bind fun q5=>(asInt .i64 p6).bind fun q6=>(asInt .u64 p7).bind fun q7=>(asInt .i64 p8).bind fun q8=>(asInt .i64 p9).bind fun q9=>(asInt .i64 p10).bind fun q10=>(asInt .i64 p11).bind fun q11=>(asInt .i64 p12).bind fun q12=>(asInt .i64 p13).bind fun q13=>(zcd p14).bind fun q14=>(some ⟨q0,q1,q2,q3,q4,q5,⟨⟨q6,q7,q8⟩,q9,q10,q11,q12,q13,q14⟩⟩)
 | _=>none
def zrW:S->Option (W3)
 | .agg [p0,p1,p2]=>(asInt .i64 p0).bind fun q0=>(asInt .i64 p1).bind fun q1=>(asInt .i64 p2).bind fun q2=>(some ⟨q0,q1,q2⟩)
 | _=>none
def zen:S->Option (Config)
 | .agg [p0,p1,p2,p3,p4,p5,p6,p7,p8,p9,p10,p11,p12,p13,p14,p15]=>(asInt .i64 p0).bind fun q0=>(asInt .u64 p1).bind fun q1=>(asInt .u64 p2).bind fun q2=>(asInt .u64 p3).bind fun q3=>(asInt .u64 p4).bind fun q4=>(asInt .i64 p5).bind fun q5=>(asInt .i64 p6).bind fun q6=>(asInt .i64 p7).bind fun q7=>(asInt .i64 p8).bind fun q8=>(asInt .i64 p9).bind fun q9=>(asInt .i64 p10).bind fun q10=>(asInt .i64 p11).bind fun q11=>(asInt .i64 p12).bind fun q12=>(asInt .i64 p13).bind fun q13=>(asInt .i64 p14).bind fun q14=>(asInt .i64 p15).bind fun q15=>(some ⟨q0,q1,q2,q3,q4,q5,q6,q7,⟨q8,q9,q10⟩,q11,q12,q13,q14,q15⟩)
 | _=>none
def zeo:S->Option (Script)
 | .agg [p0,p1,p2]=>(Yx .Config p0).bind fun q0=>(Yx .Contact p1).bind fun q1=>(Yx .Command p2).bind fun q2=>(some ⟨q0,q1,q2⟩)
 | _=>none
def zj7:S->Option (Pair)
 | .agg [p0,p1]=>(asInt .i64 p0).bind fun q0=>(asInt .i64 p1).bind fun q1=>(some ⟨q0,q1⟩)
 | _=>none
def znK:S->Option (Use)
 | .agg [p0,p1,p2,p3,p4,p5,p6,p7]=>(zcd p0).bind fun q0=>(asBool p1).bind fun q1=>(asBool p2).bind fun q2=>(asInt .i64 p3).bind fun q3=>(asInt .i64 p4).bind fun q4=>(asInt .i64 p5).bind fun q5=>(asInt .i64 p6).bind fun q6=>(asBool p7).bind fun q7=>(some ⟨q0,q1,q2,q3,q4,q5,q6,q7⟩)
 | _=>none
def zj8:S->Option (RUse)
 | .agg [p0,p1,p2,p3,p4,p5,p6,p7,p8,p9]=>(zcd p0).bind fun q0=>(asBool p1).bind fun q1=>(asBool p2).bind fun q2=>(asBool p3).bind fun q3=>(asBool p4).bind fun q4=>(asBool p5).bind fun q5=>(asBool p6).bind fun q6=>(asInt .i64 p7).bind fun q7=>(asInt .i64 p8).bind fun q8=>(asInt .i64 p9).bind fun q9=>(some ⟨q0,q1,q2,q3,q4,q5,q6,q7,q8,q9⟩)
 | _=>none
def zrX:S->Option (BI)
 | .agg [p0,p1]=>(asBool p0).bind fun q0=>(asInt .i64 p1).bind fun q1=>(some ⟨q0,q1⟩)
 | _=>none
def qb:∀ c:C,S->Option (den c)
 | .i64=>fun s=>asInt .i64 s
 | .u64=>fun s=>asInt .u64 s
 | .i32=>fun s=>asInt .i32 s
 | .u32=>fun s=>asInt .u32 s
 | .u8=>fun s=>asInt .u8 s
 | .i16=>fun s=>asInt .i16 s
 | .u16=>fun s=>asInt .u16 s
 | .i8=>fun s=>asInt .i8 s
 | .bool=>fun s=>asBool s
 | .str=>fun s=>zcd s
 | .iv=>fun s=>zug s
 | .ID=>zrV
 | .Contact=>zcC
 | .Outc=>zj5
 | .Word=>zj6
 | .Row=>znJ
 | .Fault=>zg8
 | .Bundle=>zem
 | .Command=>zcD
 | .W3=>zrW
 | .Config=>zen
 | .Script=>zeo
 | .Pair=>zj7
 | .Use=>znK
 | .RUse=>zj8
 | .BI=>zrX
 | .l_W3=>fun s=>Yx .W3 s
 | .l_Contact=>fun s=>Yx .Contact s
 | .l_Word=>fun s=>Yx .Word s
 | .l_Row=>fun s=>Yx .Row s
 | .l_Command=>fun s=>Yx .Command s
 | .l_Config=>fun s=>Yx .Config s
 | .l_Use=>fun s=>Yx .Use s
 | .l_BI=>fun s=>Yx .BI s
 | .l_u8=>fun s=>Yx .u8 s
 | .l_i64=>fun s=>Yx .i64 s
 | .l_str=>fun s=>Yx .str s
def Zd:C->Bool
 | .i64=>true
 | .u64=>true
 | .i32=>true
 | .u32=>true
 | .u8=>true
 | .i16=>true
 | .u16=>true
 | .i8=>true
 | .bool=>true
 | .str=>true
 | .iv=>false
 | .ID=>true
 | .Contact=>true
 | .Outc=>true
 | .Word=>true
 | .Row=>false
 | .Fault=>true
 | .Bundle=>true
 | .Command=>true
 | .W3=>true
 | .Config=>true
 | .Script=>false
 | .Pair=>true
 | .Use=>true
 | .RUse=>true
 | .BI=>true
 | .l_W3=>false
 | .l_Contact=>false
 | .l_Word=>false
 | .l_Row=>false
 | .l_Command=>false
 | .l_Config=>false
 | .l_Use=>false
 | .l_BI=>false
 | .l_u8=>false
 | .l_i64=>false
 | .l_str=>false
def dq:∀ c:C,Option (DecidableEq (den c))
 | .i64=>some (inferInstanceAs (DecidableEq (Int)))
 | .u64=>some (inferInstanceAs (DecidableEq (Int)))
 | .str=>some (inferInstanceAs (DecidableEq (List UInt8)))
 | .Pair=>some (inferInstanceAs (DecidableEq (Pair)))
 | .ID=>some (inferInstanceAs (DecidableEq (ID)))
 | .Outc=>some (inferInstanceAs (DecidableEq (Outc)))
 | _=>none
mutual
def toV:S->V
 | .any=>.any
 | .un=>.un
 | .int k n=>.int k n
 | .bool b=>.bool b
 | .str s=>.str s
 | .agg cs=>.agg (zg cs)
 | .tup cs=>.tup (zg cs)
 | .loc i off=>.loc i off
 | .loco i off _ ix=>.loc i (off + ix.toNat)
 | .elt cs off=>.elt (zg cs) off
 | .gel g off=>(match GL g with | some vs=>.elt (vs.map qv) off | none=>.any)
 | .nilp=>.nilp
 | .lst c l=>.list (l.map (enc c))
 | .rows vs=>.list (zg vs)
 | .fn f first cap=>.fn f (zg first) (zg cap)
 | .nilfn=>.nilfn
 | .iface t v=>.iface t (toV v)
 | .nilif=>.nilif
 | .mref i=>.mref i
 | .nilm=>.nilm
 | .ptr i sz f=>.ptr (i.toNat * sz + f)
 | .ivd x=>QT x
def zg:List S->List V
 | []=>[]
 | c :: cs=>toV c :: zg cs
end
theorem Ze:∀ cs:List S,zg cs = cs.map toV
 | []=>by simp [zg]
 | c :: cs=>by simp [zg,Ze cs]
theorem znL {k:IntKind} {s:S} {n:Int} (h:asInt k s = some n):s = .int k n:=by
 cases s <;> simp only [asInt,reduceCtorEq] at h
 split at h
 ·rename_i e; subst e; cases h; rfl
 ·cases h
theorem zmb {s:S} {n:Bool} (h:asBool s = some n):s = .bool n:=by
 cases s <;> simp only [asBool,reduceCtorEq] at h
 cases h; rfl
theorem znM {s:S} {n:List UInt8} (h:zcd s = some n):s = .str n:=by
 cases s <;> simp only [zcd,reduceCtorEq] at h
 cases h; rfl
theorem yH {c:C} {s:S} {l:List (den c)} (h:Yx c s = some l):toV s = .list (l.map (enc c)):=by
 unfold Yx at h
 split at h
 ·split at h
  ·rename_i e; subst e; cases h; simp [toV]
  ·cases h
 ·cases h; simp [toV,zg]
 ·cases h
theorem bind_some {α β:Type} {o:Option α} {f:α->Option β} {r:β} (h:o.bind f = some r):∃ x,o = some x/\f x = some r:=by
 cases o with
 | none=>cases h
 | some x=>exact ⟨x,rfl,h⟩
theorem ze {k:IntKind} {s:S} {n:Int} (h:asInt k s = some n):toV s = .int k n:=by rw [znL h]; simp [toV]
theorem Zf {s:S} {n:Bool} (h:asBool s = some n):toV s = .bool n:=by rw [zmb h]; simp [toV]
theorem zuh {s:S} {n:IV} (h:zug s = some n):toV s = QT n:=by
 unfold zug at h
 split at h
 ·cases h; simp [toV]
 ·cases h; simp [toV,QT]
 ·cases h; simp [toV,zg,QT]
 ·cases h
theorem zaG {s:S} {n:List UInt8} (h:zcd s = some n):toV s = .str n:=by rw [znM h]; simp [toV]
theorem zpQ {s:S} {x:ID} (h:zrV s = some x):toV s = zeg x:=by
 unfold zrV at h
 split at h
 ·obtain ⟨q0,h0,h⟩:=bind_some h
  obtain ⟨q1,h1,h⟩:=bind_some h
  obtain ⟨q2,h2,h⟩:=bind_some h
  cases h
  simp only [toV,zg,ze h0,ze h1,ze h2]
  rfl
 ·cases h
theorem zg9 {s:S} {x:Contact} (h:zcC s = some x):toV s = ZP x:=by
 unfold zcC at h
 split at h
 ·obtain ⟨q0,h0,h⟩:=bind_some h
  obtain ⟨q1,h1,h⟩:=bind_some h
  obtain ⟨q2,h2,h⟩:=bind_some h
  obtain ⟨q3,h3,h⟩:=bind_some h
  obtain ⟨q4,h4,h⟩:=bind_some h
  obtain ⟨q5,h5,h⟩:=bind_some h
  cases h
  simp only [toV,zg,ze h0,ze h1,ze h2,ze h3,ze h4,ze h5]
  rfl
 ·cases h
theorem zmc {s:S} {x:Outc} (h:zj5 s = some x):toV s = zad x:=by
 unfold zj5 at h
 split at h
 ·obtain ⟨q0,h0,h⟩:=bind_some h
  obtain ⟨q1,h1,h⟩:=bind_some h
  obtain ⟨q2,h2,h⟩:=bind_some h
  obtain ⟨q3,h3,h⟩:=bind_some h
  obtain ⟨q4,h4,h⟩:=bind_some h
  obtain ⟨q5,h5,h⟩:=bind_some h
  obtain ⟨q6,h6,h⟩:=bind_some h
  cases h
  simp only [toV,zg,ze h0,ze h1,ze h2,ze h3,ze h4,ze h5,ze h6]
  rfl
 ·cases h
theorem zmd {s:S} {x:Word} (h:zj6 s = some x):toV s = zbq x:=by
 unfold zj6 at h
 split at h
 ·obtain ⟨q0,h0,h⟩:=bind_some h
  obtain ⟨q1,h1,h⟩:=bind_some h
  obtain ⟨q2,h2,h⟩:=bind_some h
  cases h
  simp only [toV,zg,ze h0,zaG h1,zaG h2]
  rfl
 ·cases h
theorem znN {s:S} {x:Row} (h:znJ s = some x):toV s = zdr x:=by
 unfold znJ at h
 split at h
 ·obtain ⟨q0,h0,h⟩:=bind_some h
  obtain ⟨q1,h1,h⟩:=bind_some h
  cases h
  simp only [toV,zg,ze h0,yH h1]
  rfl
 ·cases h
theorem zj9 {s:S} {x:Fault} (h:zg8 s = some x):toV s = zeh x:=by
 unfold zg8 at h
 split at h
 ·obtain ⟨q0,h0,h⟩:=bind_some h
  obtain ⟨q1,h1,h⟩:=bind_some h
  cases h
  simp only [toV,zg,ze h0,ze h1]
  rfl
 ·cases h
theorem zhV {s:S} {x:Bundle} (h:zem s = some x):toV s = zcy x:=by
 unfold zem at h
 split at h
 ·obtain ⟨q0,h0,h⟩:=bind_some h
  obtain ⟨q1,h1,h⟩:=bind_some h
  obtain ⟨q2,h2,h⟩:=bind_some h
  obtain ⟨q3,h3,h⟩:=bind_some h
  obtain ⟨q4,h4,h⟩:=bind_some h
  obtain ⟨q5,h5,h⟩:=bind_some h
  obtain ⟨q6,h6,h⟩:=bind_some h
  obtain ⟨q7,h7,h⟩:=bind_some h
  obtain ⟨q8,h8,h⟩:=bind_some h
  cases h
  simp only [toV,zg,ze h0,ze h1,ze h2,ze h3,ze h4,ze h5,ze h6,ze h7,zaG h8]
  rfl
 ·cases h
theorem zha {s:S} {x:Command} (h:zcD s = some x):toV s = y5 x:=by
 unfold zcD at h
 split at h
 ·obtain ⟨q0,h0,h⟩:=bind_some h
  obtain ⟨q1,h1,h⟩:=bind_some h
  obtain ⟨q2,h2,h⟩:=bind_some h
  obtain ⟨q3,h3,h⟩:=bind_some h
  obtain ⟨q4,h4,h⟩:=bind_some h
  obtain ⟨q5,h5,h⟩:=bind_some h
  obtain ⟨q6,h6,h⟩:=bind_some h
  obtain ⟨q7,h7,h⟩:=bind_some h
  obtain ⟨q8,h8,h⟩:=bind_some h
  obtain ⟨q9,h9,h⟩:=bind_some h
  obtain ⟨q10,h10,h⟩:=bind_some h
  obtain ⟨q11,h11,h⟩:=bind_some h
  obtain ⟨q12,h12,h⟩:=bind_some h
  obtain ⟨q13,h13,h⟩:=bind_some h
  obtain ⟨q14,h14,h⟩:=bind_some h
  cases h
  simp only [toV,zg,ze h0,ze h1,ze h2,ze h3,ze h4,ze h5,ze h6,ze h7,ze h8,ze h9,ze h10,ze h11,ze h12,ze h13,zaG h14]
  rfl
 ·cases h
theorem zpR {s:S} {x:W3} (h:zrW s = some x):toV s = zj0 x:=by
 unfold zrW at h
 split at h
 ·obtain ⟨q0,h0,h⟩:=bind_some h
  obtain ⟨q1,h1,h⟩:=bind_some h
  obtain ⟨q2,h2,h⟩:=bind_some h
  cases h
  simp only [toV,zg,ze h0,ze h1,ze h2]
  rfl
 ·cases h
theorem zhW {s:S} {x:Config} (h:zen s = some x):toV s = Yk x:=by
 unfold zen at h
 split at h
 ·obtain ⟨q0,h0,h⟩:=bind_some h
  obtain ⟨q1,h1,h⟩:=bind_some h
  obtain ⟨q2,h2,h⟩:=bind_some h
  obtain ⟨q3,h3,h⟩:=bind_some h
  obtain ⟨q4,h4,h⟩:=bind_some h
  obtain ⟨q5,h5,h⟩:=bind_some h
  obtain ⟨q6,h6,h⟩:=bind_some h
  obtain ⟨q7,h7,h⟩:=bind_some h
  obtain ⟨q8,h8,h⟩:=bind_some h
  obtain ⟨q9,h9,h⟩:=bind_some h
  obtain ⟨q10,h10,h⟩:=bind_some h
  obtain ⟨q11,h11,h⟩:=bind_some h
  obtain ⟨q12,h12,h⟩:=bind_some h
  obtain ⟨q13,h13,h⟩:=bind_some h
  obtain ⟨q14,h14,h⟩:=bind_some h
  obtain ⟨q15,h15,h⟩:=bind_some h
  cases h
  simp only [toV,zg,ze h0,ze h1,ze h2,ze h3,ze h4,ze h5,ze h6,ze h7,ze h8,ze h9,ze h10,ze h11,ze h12,ze h13,ze h14,ze h15]
  rfl
 ·cases h
theorem zhX {s:S} {x:Script} (h:zeo s = some x):toV s = ZG x:=by
 unfold zeo at h
 split at h
 ·obtain ⟨q0,h0,h⟩:=bind_some h
  obtain ⟨q1,h1,h⟩:=bind_some h
  obtain ⟨q2,h2,h⟩:=bind_some h
  cases h
  simp only [toV,zg,yH h0,yH h1,yH h2]
  rfl
 ·cases h
theorem zme {s:S} {x:Pair} (h:zj7 s = some x):toV s = zae x:=by
 unfold zj7 at h
 split at h
 ·obtain ⟨q0,h0,h⟩:=bind_some h
  obtain ⟨q1,h1,h⟩:=bind_some h
  cases h
  simp only [toV,zg,ze h0,ze h1]
  rfl
 ·cases h
theorem znO {s:S} {x:Use} (h:znK s = some x):toV s = zfD x:=by
 unfold znK at h
 split at h
 ·obtain ⟨q0,h0,h⟩:=bind_some h
  obtain ⟨q1,h1,h⟩:=bind_some h
  obtain ⟨q2,h2,h⟩:=bind_some h
  obtain ⟨q3,h3,h⟩:=bind_some h
  obtain ⟨q4,h4,h⟩:=bind_some h
  obtain ⟨q5,h5,h⟩:=bind_some h
  obtain ⟨q6,h6,h⟩:=bind_some h
  obtain ⟨q7,h7,h⟩:=bind_some h
  cases h
  simp only [toV,zg,zaG h0,Zf h1,Zf h2,ze h3,ze h4,ze h5,ze h6,Zf h7]
  rfl
 ·cases h
theorem zmf {s:S} {x:RUse} (h:zj8 s = some x):toV s = zgX x:=by
 unfold zj8 at h
 split at h
 ·obtain ⟨q0,h0,h⟩:=bind_some h
  obtain ⟨q1,h1,h⟩:=bind_some h
  obtain ⟨q2,h2,h⟩:=bind_some h
  obtain ⟨q3,h3,h⟩:=bind_some h
  obtain ⟨q4,h4,h⟩:=bind_some h
  obtain ⟨q5,h5,h⟩:=bind_some h
  obtain ⟨q6,h6,h⟩:=bind_some h
  obtain ⟨q7,h7,h⟩:=bind_some h
  obtain ⟨q8,h8,h⟩:=bind_some h
  obtain ⟨q9,h9,h⟩:=bind_some h
  cases h
  simp only [toV,zg,zaG h0,Zf h1,Zf h2,Zf h3,Zf h4,Zf h5,Zf h6,ze h7,ze h8,ze h9]
  rfl
 ·cases h
theorem zpS {s:S} {x:BI} (h:zrX s = some x):toV s = zj1 x:=by
 unfold zrX at h
 split at h
 ·obtain ⟨q0,h0,h⟩:=bind_some h
  obtain ⟨q1,h1,h⟩:=bind_some h
  cases h
  simp only [toV,zg,Zf h0,ze h1]
  rfl
 ·cases h
theorem zV:∀ {c:C} {s:S} {x:den c},qb c s = some x->toV s = enc c x
 | .i64,s,x,h=>ze h
 | .u64,s,x,h=>ze h
 | .i32,s,x,h=>ze h
 | .u32,s,x,h=>ze h
 | .u8,s,x,h=>ze h
 | .i16,s,x,h=>ze h
 | .u16,s,x,h=>ze h
 | .i8,s,x,h=>ze h
 | .bool,s,x,h=>Zf h
 | .str,s,x,h=>zaG h
 | .iv,s,x,h=>zuh h
 | .ID,s,x,h=>zpQ h
 | .Contact,s,x,h=>zg9 h
 | .Outc,s,x,h=>zmc h
 | .Word,s,x,h=>zmd h
 | .Row,s,x,h=>znN h
 | .Fault,s,x,h=>zj9 h
 | .Bundle,s,x,h=>zhV h
 | .Command,s,x,h=>zha h
 | .W3,s,x,h=>zpR h
 | .Config,s,x,h=>zhW h
 | .Script,s,x,h=>zhX h
 | .Pair,s,x,h=>zme h
 | .Use,s,x,h=>znO h
 | .RUse,s,x,h=>zmf h
 | .BI,s,x,h=>zpS h
 | .l_W3,s,x,h=>yH h
 | .l_Contact,s,x,h=>yH h
 | .l_Word,s,x,h=>yH h
 | .l_Row,s,x,h=>yH h
 | .l_Command,s,x,h=>yH h
 | .l_Config,s,x,h=>yH h
 | .l_Use,s,x,h=>yH h
 | .l_BI,s,x,h=>yH h
 | .l_u8,s,x,h=>yH h
 | .l_i64,s,x,h=>yH h
 | .l_str,s,x,h=>yH h
theorem y6:∀ (c:C) (x:den c),toV (refl c x) = enc c x:=by
 intro c x; cases c <;> simp only [refl,enc,zds,zg3,zl5,zl6,zoY,zl7,zl8,zoZ,ziL,zbr,zo0,zo1,zdt,ziM,ziN,zl9,zg4,zeW,zdu,zo2,zeX,zeY,ziO,zma,ziP,zo3,ziQ,zbs,zeZ,zg5,zbt,zce,zg6,ziR,ziS,zg7,zcB,toV,zg] <;> rfl
end Go.X
namespace Go.X
open Go.Eng
open Go.RowKit
inductive T (α:Type) where
 | nil
 | node (l:T α) (v:Option α) (r:T α)
def T.get {α:Type} (t:T α):Nat->Option α :=
 T.rec (motive:=fun _=>Nat->Option α) (fun _=>none) (fun _ v _ gl gr n=>cond (Nat.beq n 0) v (cond (Nat.beq (n % 2) 1) (gl (n / 2)) (gr (n / 2 - 1)))) t
def T.setF {α:Type} (f:Nat):T α->Nat->α->T α :=
 Nat.rec (motive:=fun _=>T α->Nat->α->T α) (fun t _ _=>t) (fun _ ih t n x=>T.casesOn (motive:=fun _=>T α) t
  (cond (Nat.beq n 0) (.node .nil (some x) .nil) (cond (Nat.beq (n % 2) 1) (.node (ih .nil (n / 2) x) none .nil) (.node .nil none (ih .nil (n / 2 - 1) x))))
  (fun l v r=>cond (Nat.beq n 0) (.node l (some x) r) (cond (Nat.beq (n % 2) 1) (.node (ih l (n / 2) x) v r) (.node l v (ih r (n / 2 - 1) x))))) f
theorem T.get_node0 {α:Type} (l:T α) (v:Option α) (r:T α) (n:Nat):(T.node l v r).get n = cond (Nat.beq n 0) v (cond (Nat.beq (n % 2) 1) (l.get (n / 2)) (r.get (n / 2 - 1))):=rfl
theorem T.setF_nil {α:Type} (f n:Nat) (x:α):T.setF (f + 1) .nil n x = cond (Nat.beq n 0) (.node .nil (some x) .nil) (cond (Nat.beq (n % 2) 1) (.node (T.setF f .nil (n / 2) x) none .nil) (.node .nil none (T.setF f .nil (n / 2 - 1) x))):=rfl
theorem T.setF_node {α:Type} (f:Nat) (l:T α) (v:Option α) (r:T α) (n:Nat) (x:α):T.setF (f + 1) (.node l v r) n x = cond (Nat.beq n 0) (.node l (some x) r) (cond (Nat.beq (n % 2) 1) (.node (T.setF f l (n / 2) x) v r) (.node l v (T.setF f r (n / 2 - 1) x))):=rfl
def T.set {α:Type} (t:T α) (n:Nat) (x:α):T α:=T.setF (n + 1) t n x
theorem beqF {n m:Nat} (h:¬ n = m):Nat.beq n m = false:=by
 cases hb:Nat.beq n m
 ·rfl
 ·exact absurd (Nat.eq_of_beq_eq_true hb) h
theorem T.get_nil {α:Type} (n:Nat):(T.nil:T α).get n = none:=rfl
theorem T.get_node {α:Type} (l:T α) (v:Option α) (r:T α) (n:Nat) :
  (T.node l v r).get n = if n = 0 then v else if n % 2 = 1 then l.get (n / 2) else r.get (n / 2 - 1):=by
 rw [T.get_node0]
 by_cases h:n = 0
 ·subst h; rfl
 ·have:Nat.beq n 0 = false:=beqF h
  rw [this,if_neg h]
  by_cases h1:n % 2 = 1
  ·rw [if_pos h1,h1]; rfl
  ·have:Nat.beq (n % 2) 1 = false:=beqF h1
   rw [this,if_neg h1]; rfl
theorem T.setF_succ {α:Type} (f:Nat) (t:T α) (n:Nat) (x:α):∃ l v r,(∀ m,t.get m = (T.node l v r).get m) /\
  T.setF (f + 1) t n x = if n = 0 then .node l (some x) r else if n % 2 = 1 then .node (T.setF f l (n / 2) x) v r else .node l v (T.setF f r (n / 2 - 1) x):=by
 cases t with
 | nil =>
  refine ⟨.nil,none,.nil,fun m=>by rw [T.get_node]; simp [T.get_nil],?_⟩
  rw [T.setF_nil]
  by_cases h:n = 0
  ·subst h; rfl
  ·have:Nat.beq n 0 = false:=beqF h
   rw [this,if_neg h]
   by_cases h1:n % 2 = 1
   ·rw [if_pos h1,h1]; rfl
   ·have:Nat.beq (n % 2) 1 = false:=beqF h1
    rw [this,if_neg h1]; rfl
 | node l v r =>
  refine ⟨l,v,r,fun m=>rfl,?_⟩
  rw [T.setF_node]
  by_cases h:n = 0
  ·subst h; rfl
  ·have:Nat.beq n 0 = false:=beqF h
   rw [this,if_neg h]
   by_cases h1:n % 2 = 1
   ·rw [if_pos h1,h1]; rfl
   ·have:Nat.beq (n % 2) 1 = false:=beqF h1
    rw [this,if_neg h1]; rfl
theorem T.get_setF {α:Type} (x:α):∀ (f:Nat) (t:T α) (n:Nat),n + 1 < 2 ^ f->∀ m,(T.setF f t n x).get m = if m = n then some x else t.get m
 | 0,_,n,h,_=>by simp at h
 | f + 1,t,n,h,m=>by
  obtain ⟨l,v,r,h1,h2⟩:=T.setF_succ f t n x
  rw [h2,h1 m]
  rw [Nat.pow_succ] at h
  by_cases h0:n = 0
  ·subst h0
   rw [if_pos rfl,T.get_node,T.get_node]
   by_cases hm:m = 0
   ·rw [if_pos hm,if_pos hm]
   ·rw [if_neg hm,if_neg hm,if_neg hm]
  ·rw [if_neg h0]
   by_cases h3:n % 2 = 1
   ·rw [if_pos h3,T.get_node,T.get_node]
    by_cases hm:m = 0
    ·rw [if_pos hm,if_pos hm,if_neg (by omega)]
    ·rw [if_neg hm,if_neg hm]
     by_cases hm1:m % 2 = 1
     ·rw [if_pos hm1,if_pos hm1,T.get_setF x f l (n / 2) (by omega) (m / 2)]
      by_cases he:m / 2 = n / 2
      ·rw [if_pos he,if_pos (by omega)]
      ·rw [if_neg he,if_neg (by omega)]
     ·rw [if_neg hm1,if_neg hm1,if_neg (by omega)]
   ·rw [if_neg h3,T.get_node,T.get_node]
    by_cases hm:m = 0
    ·rw [if_pos hm,if_pos hm,if_neg (by omega)]
    ·rw [if_neg hm,if_neg hm]
     by_cases hm1:m % 2 = 1
     ·rw [if_pos hm1,if_pos hm1,if_neg (by omega)]
     ·rw [if_neg hm1,if_neg hm1,T.get_setF x f r (n / 2 - 1) (by omega) (m / 2 - 1)]
      by_cases he:m / 2 - 1 = n / 2 - 1
      ·rw [if_pos he,if_pos (by omega)]
      ·rw [if_neg he,if_neg (by omega)]
theorem T.get_set {α:Type} {t:T α} {n:Nat} {x:α} (m:Nat):(t.set n x).get m = if m = n then some x else t.get m :=
 T.get_setF x (n + 1) t n Nat.lt_two_pow_self m
def T.mapV {α:Type} (f:α->α) (t:T α):T α :=
 T.rec (motive:=fun _=>T α) .nil (fun _ v _ ml mr=>.node ml (v.map f) mr) t
theorem T.get_mapV {α:Type} (f:α->α):∀ (t:T α) (n:Nat),(t.mapV f).get n = (t.get n).map f
 | .nil,n=>rfl
 | .node l v r,n=>by
  show (T.node (l.mapV f) (v.map f) (r.mapV f)).get n = _
  rw [T.get_node,T.get_node]
  split
  ·rfl
  split
  ·exact T.get_mapV f l _
  ·exact T.get_mapV f r _
abbrev Tk:=Option (Nat × TypeId)
inductive yM where
 | cells (cs:List S) (ty:TypeId)
 | map (mt:TypeId) (kc vc:C) (l:List (den kc × den vc))
def zB:yM->Box
 | .cells cs ty=>⟨zg cs,ty⟩
 | .map mt kc vc l=>⟨Y7 (enc kc) (enc vc) l,1000000000 + mt⟩
structure RO where
 all:Bool
 mask:Nat
 sl:Nat->S × Tk
 nb:Nat
 bmask:Nat
 bx:Nat->Option yM
 fl:Bool
structure Mm where
 sl:T (S × Tk)
 bx:List (Option yM)
def RO.own (ro:RO) (s:Nat):Bool:=bif ro.all then true else Nat.testBit ro.mask s
def RO.ownB (ro:RO) (i:Nat):Bool:=bif Nat.ble ro.nb i then true else Nat.testBit ro.bmask i
def zo (ro:RO) (m:Mm) (s:Nat):S × Tk:=bif ro.own s then (m.sl.get s).getD (.any,none) else ro.sl s
def zu (ro:RO) (m:Mm) (i:Nat):Option yM:=bif ro.ownB i then (m.bx[i]?).getD none else ro.bx i
def za (ro:RO) (m:Mm):St :=
 ⟨m.bx.length,fun s=>(toV (zo ro m s).1,(zo ro m s).2),fun i=>(zu ro m i).map zB⟩
variable {β:Type}
def qu (ro:RO) (m:Mm) (dst:Option Nat) (v:S) (tk:Tk) (k:Mm->Option β):Option β :=
 match dst with
 | none=>k m
 | some d=>bif ro.own d then k ⟨m.sl.set d (v,tk),m.bx⟩ else none
def zaf (t:Nat) (x:S × Tk):S × Tk:=match x.2 with
 | some (t',e)=>bif Nat.beq t' t || Nat.beq t' (t + 3000000) then (x.1,none) else x
 | none=>x
def zo4 (ro:RO) (m:Mm) (dr:Bool) (o:Oper) (v:S) (tk:Tk) (k:Mm->Option β):Option β :=
 bif yk o then qu ro m o.dst v tk k else
  match tk with
  | none=>qu ro m o.dst v none k
  | some (t,e)=>bif Nat.blt (tcl t) 2 && (!dr || Y2 o && (match o.dst with | some d=>Nat.beq d (t % 1000000) | none=>false)) then qu ro ⟨m.sl.mapV (zaf t),m.bx⟩ o.dst v (some (t,e)) k else none
def zhb:Value->S
 | .int k n=>.int k n
 | .bool b=>.bool b
 | .string s=>bif Nat.ble s.size maxLen then .str s.data.toList else .any
 | .pointer none=>.nilp
 | .slice none 0 0=>.rows []
 | .nilFunc=>.nilfn
 | .nilIface=>.nilif
 | _=>.any
def zaH:Value->S
 | .agg cs=>bif cs.toList.all (fun x=>x.oneCell') then .agg (cs.toList.map zhb) else .any
 | .tuple cs=>.tup (cs.toList.map zhb)
 | v=>zhb v
def evalX (ro:RO) (m:Mm):Operand->S
 | .tmp t=>(zo ro m t).1
 | .const v=>zaH v
 | .global g=>.gel g 0
 | .func f=>.fn (.func f) [] []
def zs8 (ro:RO) (m:Mm):Operand->Tk
 | .tmp t=>(zo ro m t).2
 | _=>none
instance (k:IntKind) (n:Int):Decidable (InR k n):=inferInstanceAs (Decidable (k.wrap n = n))
def qg (k:IntKind) (a b:Int):Option Int:=if InR k (a + b) then some (a + b) else none
def zmg (k:IntKind) (a b:Int):Option Int:=if InR k (a - b) then some (a - b) else none
def zu0 (k:IntKind) (a b:Int):Option Int:=if InR k (a * b) then some (a * b) else none
def za4 (k:IntKind) (a b:Int):Option Int:=if b ≠ 0/\InR k (a.tdiv b) then some (a.tdiv b) else none
def zfq (a b:Int):Option Int:=if b ≠ 0 then some (a.tmod b) else none
def qa (s t:List UInt8):Option (List UInt8):=if s.length + t.length <= maxLen then some (s++t) else none
def slc {α:Type} (l:List α) (lo hi:Int):Option (List α):=if 0 <= lo/\lo <= hi/\hi <= l.length then some ((l.take hi.toNat).drop lo.toNat) else none
def idx {α:Type} (l:List α) (i:Int):Option α:=if 0 <= i then l[i.toNat]? else none
def zaI (s:List UInt8) (i:Int):Option Int:=(idx s i).map fun b=>(b.toNat:Int)
def app {α:Type} (by':Nat) (l m:List α):Option (List α):=if (l.length + m.length) * by' <= 140737488355328 then some (l++m) else none
def yy (s:List UInt8):List Int:=s.map fun b=>(b.toNat:Int)
def Z6 (l:List Int):Option (List UInt8):=if l.all (fun n=>decide (0 <= n) && decide (n < 256)) then some (l.map fun n=>UInt8.ofNat n.toNat) else none
def br {α:Type} (b:Bool) (x y:α):α:=cond b x y
def zbu:S->Option Nat
 | .agg cs=>some cs.length
 | .any | .un | .tup _=>none
 | .gel _ _=>none
 | _=>some 1
def qp:S->List S
 | .agg cs=>cs
 | v=>[v]
def ze0:S->Option CK
 | .int k _=>some (.int k)
 | .bool _=>some .bool
 | .str _=>some .str
 | _=>none
def zfE:S->S->Bool
 | .int _ a,.int _ b=>a == b
 | .bool a,.bool b=>a == b
 | .str a,.str b=>a == b
 | _,_=>false
def eqS:List S->List S->Bool
 | [x],[y]=>zfE x y
 | x :: xs,y :: ys=>zfE x y && eqS xs ys
 | _,_=>true
def zpT:CK->CK->Bool
 | .int k,.int k'=>decide (k = k')
 | .bool,.bool=>true
 | .str,.str=>true
 | _,_=>false
def qK:List CK->List S->Bool
 | [],[]=>true
 | k :: ks,c :: cs=>(match ze0 c with | some k'=>zpT k' k | none=>false) && qK ks cs
 | _,_=>false
mutual
def yi:S->Bool
 | .loc _ _=>false
 | .loco _ _ _ _=>false
 | .mref _=>false
 | .agg cs=>qc cs
 | .tup cs=>qc cs
 | .elt cs _=>qc cs
 | .rows vs=>qc vs
 | .fn _ first cap=>qc first && qc cap
 | .iface _ v=>yi v
 | _=>true
def qc:List S->Bool
 | []=>true
 | c :: cs=>yi c && qc cs
end
def znP:(c:C)->den c->Bool
 | .i64,n=>decide (InR .i64 n)
 | .u64,n=>decide (InR .u64 n)
 | .str,_=>true
 | .Pair,p=>decide (InR .i64 p.a) && decide (InR .i64 p.b)
 | .ID,p=>decide (InR .i64 p.Node) && decide (InR .u64 p.Seq) && decide (InR .i64 p.Off)
 | .Outc,p=>decide (InR .i64 p.Tick) && decide (InR .i64 p.Node) && decide (InR .i64 p.Kind) && decide (InR .i64 p.ID.Node) && decide (InR .u64 p.ID.Seq) && decide (InR .i64 p.ID.Off) && decide (InR .i64 p.Other)
 | _,_=>false
def ckC:C->Option (Bool × List CK)
 | .i64=>some (false,[.int .i64])
 | .u64=>some (false,[.int .u64])
 | .str=>some (false,[.str])
 | .Pair=>some (true,[.int .i64,.int .i64])
 | .ID=>some (true,[.int .i64,.int .u64,.int .i64])
 | .Outc=>some (true,[.int .i64,.int .i64,.int .i64,.int .i64,.int .u64,.int .i64,.int .i64])
 | _=>none
def zka:List CK->List CK->Bool
 | [],[]=>true
 | a :: l,b :: m=>zpT a b && zka l m
 | _,_=>false
def zs9 {α β:Type} [DecidableEq α] (kin:α->Bool) (l:List (α × β)) (k:α):Option (Option β):=bif kin k && l.all (fun e=>kin e.1) then some (zhH l k) else none
def zta {α β:Type} [DecidableEq α] (kin:α->Bool) (l:List (α × β)) (k:α) (v:β):Option (List (α × β)):=bif kin k && l.all (fun e=>kin e.1) then some (zpq l k v) else none
def zui {α β:Type} [DecidableEq α] (kin:α->Bool) (l:List (α × β)) (k:α):Option (List (α × β)):=bif kin k && l.all (fun e=>kin e.1) then some (zqG l k) else none
theorem ztb {a b:CK} (h:zpT a b = true):a = b:=by
 cases a <;> cases b <;> simp [zpT] at h <;> simp [*]
theorem zdv:∀ {a b:List CK},zka a b = true->a = b
 | [],[],_=>rfl
 | [],_ :: _,h=>by simp [zka] at h
 | _ :: _,[],h=>by simp [zka] at h
 | a :: l,b :: m,h=>by
  simp only [zka,zvL] at h
  rw [ztb h.1,zdv h.2]
theorem QB {c:C} {ag:Bool} {ks:List CK} (h:ckC c = some (ag,ks)) {x:den c} (hx:znP c x = true):Yu ag ks (enc c x):=by
 cases c <;> simp only [ckC,zvO,Prod.mk.injEq,reduceCtorEq] at h <;> obtain ⟨rfl,rfl⟩:=h <;>
  simp only [znP,zvL,decide_eq_true_eq] at hx
 ·exact ⟨rfl,rfl,⟨⟨rfl,hx⟩,trivial⟩⟩
 ·exact ⟨rfl,rfl,⟨⟨rfl,hx⟩,trivial⟩⟩
 ·exact ⟨rfl,rfl,trivial⟩
 ·exact ⟨rfl,rfl,⟨⟨rfl,hx.1.1⟩,⟨rfl,hx.1.2⟩,⟨rfl,hx.2⟩,trivial⟩⟩
 ·obtain ⟨⟨⟨⟨⟨⟨h1,h2⟩,h3⟩,h4⟩,h5⟩,h6⟩,h7⟩:=hx
  exact ⟨rfl,rfl,⟨⟨rfl,h1⟩,⟨rfl,h2⟩,⟨rfl,h3⟩,⟨rfl,h4⟩,⟨rfl,h5⟩,⟨rfl,h6⟩,⟨rfl,h7⟩,trivial⟩⟩
 ·exact ⟨rfl,rfl,⟨⟨rfl,hx.1⟩,⟨rfl,hx.2⟩,trivial⟩⟩
theorem zbv {c:C} {d:DecidableEq (den c)} (h:dq c = some d) (a b:den c):qm (enc c a) (enc c b) = decide (a = b):=by
 have key:(qm (enc c a) (enc c b) = true ↔ a = b):=by
  cases c <;> simp only [dq,reduceCtorEq] at h
  ·show qm (.int .i64 a) (.int .i64 b) = true ↔ a = b
   simp [qm,V.cellsL,eqV,YC]
  ·show qm (.int .u64 a) (.int .u64 b) = true ↔ a = b
   simp [qm,V.cellsL,eqV,YC]
  ·show qm (.str a) (.str b) = true ↔ a = b
   simp [qm,V.cellsL,eqV,YC]
  ·obtain ⟨a1,a2,a3⟩:=a; obtain ⟨b1,b2,b3⟩:=b
   show qm (zeg ⟨a1,a2,a3⟩) (zeg ⟨b1,b2,b3⟩) = true ↔ _
   simp [qm,zeg,V.cellsL,eqV,YC]
  ·obtain ⟨a1,a2,a3,⟨a4,a5,a6⟩,a7⟩:=a; obtain ⟨b1,b2,b3,⟨b4,b5,b6⟩,b7⟩:=b
   show qm (zad ⟨a1,a2,a3,⟨a4,a5,a6⟩,a7⟩) (zad ⟨b1,b2,b3,⟨b4,b5,b6⟩,b7⟩) = true ↔ _
   simp [qm,zad,V.cellsL,eqV,YC,and_assoc]
  ·obtain ⟨a1,a2⟩:=a; obtain ⟨b1,b2⟩:=b
   show qm (zae ⟨a1,a2⟩) (zae ⟨b1,b2⟩) = true ↔ _
   simp [qm,zae,V.cellsL,eqV,YC]
 rw [Bool.eq_iff_iff,key]; simp
section
variable (P:Program) (code:TypeId->Option C) (ro:RO) (m:Mm)
def QC (c:C):List S->Option (List (den c))
 | []=>some []
 | s :: ss=>match qb c s with
  | some x=>(match QC c ss with | some xs=>some (x :: xs) | none=>none)
  | none=>none
def zmh (c:C) (g off n:Nat):Option (den c):=match GL g with
 | some vs=>if off + n <= vs.length then qb c (.agg (((vs.map zaH).drop off).take n)) else none
 | none=>none
def zuj (c:C) (g off:Nat):Option (den c):=match GL g with
 | some vs=>(match (vs.map zaH)[off]? with | some s=>qb c s | none=>none)
 | none=>none
def zrY (c:C) (g n:Nat):Nat->Nat->Option (List (den c))
 | 0,_=>some []
 | k + 1,off=>match zmh c g off n,zrY c g n k (off + n) with
  | some x,some l=>some (x :: l)
  | _,_=>none
def zu1 (t:TypeId):Option (C × Nat):=match code t with | some c=>zvk c | none=>none
def zmi (t:TypeId) (x:S) (K:S->Option β):Option β :=
 match x,aggT P t with
 | .elt cs off,some true=>(match sizeT P t with | some n=>bif Nat.ble (off + n) cs.length then K (.agg ((cs.drop off).take n)) else none | none=>none)
 | .elt cs off,some false=>(match cs[off]? with | some c=>K c | none=>none)
 | .loc i off,some true=>(match zu ro m i,sizeT P t with | some (.cells cs ty),some n=>bif Nat.blt ty 1000000000 && Nat.ble (off + n) cs.length then K (.agg ((cs.drop off).take n)) else none | _,_=>none)
 | .loc i off,some false=>(match zu ro m i with | some (.cells cs ty)=>bif Nat.blt ty 1000000000 then (match cs[off]? with | some c=>K c | none=>none) else none | _=>none)
 | .loco i a n ix,some false=>(match zu ro m i,code t with
  | some (.cells cs ty),some c=>bif Nat.blt ty 1000000000 && Nat.ble (a + n) cs.length then (match QC c ((cs.drop a).take n) with | some l=>(idx l ix).bind fun y=>K (refl c y) | none=>none) else none
  | _,_=>none)
 | .gel g off,some true=>(match sizeT P t,code t with | some n,some c=>(zmh c g off n).bind fun y=>K (refl c y) | _,_=>none)
 | .gel g off,some false=>(match code t with | some c=>(zuj c g off).bind fun y=>K (refl c y) | none=>none)
 | _,_=>none
def zvl (k:IntKind) (a b:Int):Option Int:=if 0 <= b then some (k.wrap (a * 2 ^ (min b.toNat k.bits))) else none
def zvm (k:IntKind) (a b:Int):Option Int:=if 0 <= b then some (a.fdiv (2 ^ (min b.toNat k.bits))) else none
def shX (op:BinOp) (k:IntKind) (a b:Int) (K:S->Option β):Option β :=
 match op with
 | .shl=>(zvl k a b).bind fun n=>K (.int k n)
 | .shr=>(zvm k a b).bind fun n=>K (.int k n)
 | _=>none
def zuk:BinOp->Bool
 | .shl=>true
 | .shr=>true
 | _=>false
def zul (op:BinOp) (k:IntKind) (a b:Int) (K:S->Option β):Option β :=
 match op with
 | .add=>(qg k a b).bind fun n=>K (.int k n)
 | .sub=>(zmg k a b).bind fun n=>K (.int k n)
 | .mul=>(zu0 k a b).bind fun n=>K (.int k n)
 | .quo=>(za4 k a b).bind fun n=>K (.int k n)
 | .rem=>(zfq a b).bind fun n=>K (.int k n)
 | .eql=>K (.bool (a == b))
 | .neq=>K (.bool (a != b))
 | .lss=>K (.bool (decide (a < b)))
 | .leq=>K (.bool (decide (a <= b)))
 | .gtr=>K (.bool (decide (b < a)))
 | .geq=>K (.bool (decide (b <= a)))
 | .and=>K (.int k (zb2 .and k a b))
 | .or=>K (.int k (zb2 .or k a b))
 | .xor=>K (.int k (zb2 .xor k a b))
 | .andNot=>K (.int k (zb2 .andNot k a b))
 | _=>none
def zum (op:BinOp) (s t:List UInt8) (K:S->Option β):Option β :=
 match op with
 | .add=>(qa s t).bind fun r=>K (.str r)
 | .eql=>K (.bool (s == t))
 | .neq=>K (.bool (!(s == t)))
 | .lss=>K (.bool (Op.bytesLess s t))
 | .leq=>K (.bool (Op.bytesLess s t || s == t))
 | .gtr=>K (.bool (!(Op.bytesLess s t || s == t)))
 | .geq=>K (.bool (!Op.bytesLess s t))
 | _=>none
def zun (op:BinOp) (xT:TypeId) (a b:S) (K:S->Option β):Option β :=
 match a,b with
 | .int k x,.int k' y=>bif zuk op then shX op k x y K else if k = k' then zul op k x y K else none
 | .str s,.str t=>zum op s t K
 | .bool x,.bool y=>(match op,ql P xT with
  | .eql,.bool=>K (.bool (x == y))
  | .neq,.bool=>K (.bool (!(x == y)))
  | _,_=>none)
 | .agg cs,.agg ds=>(match op,eqT P xT with
  | .eql,some ks=>bif qK ks cs && qK ks ds then K (.bool (eqS cs ds)) else none
  | .neq,some ks=>bif qK ks cs && qK ks ds then K (.bool (!eqS cs ds)) else none
  | _,_=>none)
 | _,_=>none
def unX (op:UnOp) (x:S) (K:S->Option β):Option β :=
 match op,x with
 | .not,.bool b=>K (.bool (!b))
 | .neg,.int k n=>(zmg k 0 n).bind fun r=>K (.int k r)
 | _,_=>none
def zrZ (s d:TypeId) (x:S) (K:S->Option β):Option β :=
 match x,ql P s,ql P d with
 | .int _ n,.int _,.int k=>K (.int k (k.wrap n))
 | .str l,.str,.str=>K (.str l)
 | .str l,.str,.other=>(match yZ P d with
  | some e=>(match ql P e with | .int .u8=>K (.lst .u8 (yy l)) | _=>none)
  | none=>none)
 | .lst .u8 rows,.other,.str=>(match yZ P s with
  | some e=>(match ql P e with | .int .u8=>(Z6 rows).bind fun r=>K (.str r) | _=>none)
  | none=>none)
 | _,_,_=>none
def zcE (x:Option Operand) (d:Int) (K:Int->Option β):Option β :=
 match x with
 | none=>K d
 | some x=>(match evalX ro m x with
  | .int _ i=>K i
  | _=>none)
def zcf (t:TypeId) (c:C):Option (TypeId × Nat):=match yZ P t with
 | some e=>(match sizeT P e with | some n=>bif Nat.beq n (csz c) then some (e,n) else none | none=>none)
 | none=>none
def zkb (t:TypeId) (x:S) (lo hi mx:Option Operand) (dst:Option Nat) (K:S->Tk->Option β):Option β :=
 match x,mx with
 | .str s,none=>(match ql P t with
  | .str=>zcE ro m lo 0 fun l=>zcE ro m hi s.length fun h=>(slc s l h).bind fun r=>K (.str r) none
  | _=>none)
 | .lst c l,none=>(match zcf P t c with
  | some _=>zcE ro m lo 0 fun a=>zcE ro m hi l.length fun h=>(slc l a h).bind fun r=>K (.lst c r) none
  | none=>none)
 | .lst c l,some mx=>(match zcf P t c,hi with
  | some (e,_),some hi=>zcE ro m lo 0 fun a=>zcE ro m (some hi) l.length fun h=>zcE ro m (some mx) l.length fun h'=>br (decide (h' = h)) ((slc l a h).bind fun r=>K (.lst c r) (some (zi7 hi (dst.getD 0),e))) none
  | _,_=>none)
 | _,_=>none
def zkc (t:TypeId) (x:S) (lo hi mx:Option Operand) (dst:Option Nat) (K:S->Tk->Option β):Option β :=
 match x with
 | .gel g a=>(match lo,hi,mx,zfN P t with
  | none,none,none,some (len,e)=>(match sizeT P e,code e with
   | some n,some c=>bif Nat.beq n (csz c) && Nat.ble len maxLen && Nat.blt 0 len then (zrY c g n len a).bind fun r=>K (.lst c r) none else none
   | _,_=>none)
  | _,_,_,_=>none)
 | x=>zkb P ro m t x lo hi mx dst K
def znQ (s:TypeId) (i:Nat) (x:S) (K:S->Option β):Option β :=
 match fieldT P s i with
 | some (off,t)=>(match sizeT P t with
  | some n=>bif Nat.beq n 0 then none else (match x with
   | .loc j a=>K (.loc j (a + off))
   | .elt cs a=>K (.elt cs (a + off))
   | .gel g a=>(match GL g with | some _=>K (.gel g (a + off)) | none=>none)
   | _=>none)
  | none=>none)
 | none=>none
def znR (s:TypeId) (i:Nat) (x:S) (K:S->Option β):Option β :=
 match fieldT P s i,x with
 | some (off,t),.agg cs=>(match aggT P t,sizeT P t with
  | some true,some n=>K (.agg ((cs.drop off).take n))
  | some false,_=>(match cs[off]? with | some c=>K c | none=>none)
  | _,_=>none)
 | _,_=>none
def inB (i:Int) (n:Nat):Bool:=decide (0 <= i) && decide (i < (n:Int))
def znS (t:TypeId) (x i:S) (K:S->Option β):Option β :=
 match x,i with
 | .lst c l,.int _ i=>(match zcf P t c with
  | some _=>(idx l i).bind fun x=>K (.elt (qp (refl c x)) 0)
  | none=>none)
 | .loc j a,.int _ i=>(match zfN P t with
  | some (len,e)=>(match sizeT P e with
   | some n=>(match zu1 code t with
    | some (_,k)=>bif Nat.beq n 1 && Nat.beq k len then br (inB i len) (K (.loco j a len i)) none else none
    | none=>br (inB i len) (K (.loc j (a + i.toNat * n))) none)
   | none=>none)
  | none=>none)
 | .elt cs a,.int _ i=>(match zfN P t with
  | some (len,e)=>(match sizeT P e with | some n=>br (inB i len) (K (.elt cs (a + i.toNat * n))) none | none=>none)
  | none=>none)
 | .gel g a,.int _ i=>(match zfN P t with
  | some (len,e)=>(match sizeT P e,GL g with | some n,some _=>br (inB i len) (K (.gel g (a + i.toNat * n))) none | _,_=>none)
  | none=>none)
 | _,_=>none
def znT (t:TypeId) (x i:S) (K:S->Option β):Option β :=
 match x,i with
 | .str s,.int _ i=>(match ql P t with
  | .str=>(zaI s i).bind fun b=>K (.int .u8 b)
  | _=>none)
 | .agg cs,.int _ i=>(match zfN P t with
  | some (len,e)=>(match aggT P e,sizeT P e with
   | some false,some n=>(match zu1 code t with
    | some (c,_)=>bif Nat.beq n 1 then br (inB i len) (match QC c cs with | some l=>(idx l i).bind fun y=>K (refl c y) | none=>none) none else none
    | none=>br (inB i len) (match cs[i.toNat * n]? with | some c=>K c | none=>none) none)
   | _,_=>none)
  | none=>none)
 | _,_=>none
def zmj (place:Nat->Option (Nat × Nat)) (cells:List S):List (Nat × S)->Option (List S)
 | []=>some cells
 | (i,v) :: rest =>
  match place i,zbu v with
  | some (off,size),some n=>bif Nat.beq n size && Nat.ble (off + n) cells.length then zmj place (cells.take off++qp v++cells.drop (off + n)) rest else none
  | _,_=>none
def zbw (t:TypeId):Option S:=((P.info? t).bind (·.zero)).map zaH
def znU (t:TypeId) (parts:List (Nat × Operand)) (K:S->Option β):Option β :=
 match zbw P t,zfz P t with
 | some zv,some place=>(match zbu zv with
  | some _=>(match zmj place (qp zv) (parts.map fun x=>(x.1,evalX ro m x.2)) with
   | some out=>K (.agg out)
   | none=>none)
  | none=>none)
 | _,_=>none
def zkd (n:Nat):List S->Bool
 | []=>true
 | s :: ss=>(match zbu s with | some k=>Nat.beq k n | none=>false) && zkd n ss
def zke (t:TypeId) (len:Nat) (parts:List (Nat × Operand)) (dst:Option Nat) (K:S->Tk->Option β):Option β :=
 match yZ P t with
 | some e=>(match sizeT P e,zbw P e with
  | some sz,some zv=>(match zbu zv with
   | some zn=>bif !Nat.beq sz 0 && Nat.beq zn sz && Nat.beq parts.length len && Nat.ble (len * sz) 16777216 && zkN parts 0 then
     (match code e with
     | some c=>(match QC c (parts.map fun x=>evalX ro m x.2) with
      | some l=>bif Nat.beq (csz c) sz then K (.lst c l) (some (dst.getD 0,e)) else none
      | none=>none)
     | none=>bif zkd sz (parts.map fun x=>evalX ro m x.2) then K (.rows (parts.map fun x=>evalX ro m x.2)) (some (dst.getD 0,e)) else none)
    else none
   | none=>none)
  | _,_=>none)
 | none=>none
def zuo (x:S) (K:S->Option β):Option β :=
 match x with
 | .loc i off=>K (.loc i off)
 | .elt cs off=>K (.elt cs off)
 | .gel g off=>(match GL g with | some _=>K (.gel g off) | none=>none)
 | _=>none
def zup (t:TypeId) (x:S) (K:S->Option β):Option β :=
 match x with
 | .lst c l=>(match yZ P t with | some _=>K (.int .i64 l.length) | none=>none)
 | .rows vs=>(match yZ P t with | some _=>K (.int .i64 vs.length) | none=>none)
 | .str s=>(match ql P t with | .str=>K (.int .i64 s.length) | _=>none)
 | _=>none
def zhc (b:Builtin) (args:List S) (tys:List TypeId) (K:S->Option β):Option β :=
 match b,args,tys with
 | .len,[x],[t]=>zup P t x K
 | .max,[.int k a,.int k' b],[_,_]=>if k = k' then K (.int k (max a b)) else none
 | .min,[.int k a,.int k' b],[_,_]=>if k = k' then K (.int k (min a b)) else none
 | _,_,_=>none
def zkf (o:Oper) (x:Operand) (K:S->Tk->Option β):Option β :=
 match x with
 | .const (.slice none 0 0)=>(match yZ P o.type with
  | some e=>(match code e with
   | some c=>K (.lst c []) (some (o.dst.getD 0,e))
   | none=>K (.rows []) (some (o.dst.getD 0,e)))
  | none=>K (.rows []) none)
 | x=>K (evalX ro m x) (zs8 ro m x)
def zr0 (c a b:S) (K:S->Option β):Option β :=
 match c with
 | .bool t=>(match a,b with
  | .bool x,.bool y=>K (.bool (bif t then x else y))
  | .int k x,.int k' y=>if k = k' then K (.int k (bif t then x else y)) else none
  | .str x,.str y=>K (.str (bif t then x else y))
  | a,b=>br t (K a) (K b))
 | _=>none
def zr1 (o:Oper) (K:S->Tk->Option β):Option β :=
 match o.op with
 | .move x=>K (evalX ro m x) (zs8 ro m x)
 | .assign x=>zkf P code ro m o x K
 | .pick c x y=>zr0 (evalX ro m c) (evalX ro m x) (evalX ro m y) (K · none)
 | .load t x=>zmi P code ro m t (evalX ro m x) (K · none)
 | .binOp op xT x y _=>zun P op xT (evalX ro m x) (evalX ro m y) (K · none)
 | .unOp op _ x=>unX op (evalX ro m x) (K · none)
 | .convert s d x=>zrZ P s d (evalX ro m x) (K · none)
 | .makeInterface t x=>bif zi8 P t then K (.iface t (evalX ro m x)) none else none
 | .makeFunc f first cap=>K (.fn f (first.toList.map (evalX ro m)) (cap.toList.map (evalX ro m))) none
 | .slice t x lo hi mx=>zkc P code ro m t (evalX ro m x) lo hi mx o.dst K
 | .fieldAddr s x i=>znQ P s i (evalX ro m x) (K · none)
 | .field s x i=>znR P s i (evalX ro m x) (K · none)
 | .indexAddr t x i=>znS P code t (evalX ro m x) (evalX ro m i) (K · none)
 | .index t x i=>znT P code t (evalX ro m x) (evalX ro m i) (K · none)
 | .extract x i=>(match evalX ro m x with | .tup vs=>(match vs[i]? with | some v=>K v none | none=>none) | _=>none)
 | .build t parts=>znU P ro m t parts.toList (K · none)
 | .buildSlice t len parts=>zke P code ro m t len parts.toList o.dst K
 | .nilCheck x=>zuo (evalX ro m x) (K · none)
 | .call { callee:=.builtin b,args,argTypes }=>zhc P b (args.toList.map (evalX ro m)) argTypes.toList (K · none)
 | _=>none
end
end Go.X
namespace Go.X
open Go.Eng
open Go.RowKit
mutual
def YI (f:Nat->Nat):S->S
 | .loc i off=>.loc (f i) off
 | .loco i off n ix=>.loco (f i) off n ix
 | .mref i=>.mref (f i)
 | .agg cs=>.agg (zag f cs)
 | .tup cs=>.tup (zag f cs)
 | .elt cs off=>.elt (zag f cs) off
 | .rows vs=>.rows (zag f vs)
 | .fn g first cap=>.fn g (zag f first) (zag f cap)
 | .iface t v=>.iface t (YI f v)
 | v=>v
def zag (f:Nat->Nat):List S->List S
 | []=>[]
 | c :: cs=>YI f c :: zag f cs
end
mutual
def qW:S->List Nat
 | .loc i _=>[i]
 | .loco i _ _ _=>[i]
 | .mref i=>[i]
 | .agg cs=>yz cs
 | .tup cs=>yz cs
 | .elt cs _=>yz cs
 | .rows vs=>yz vs
 | .fn _ first cap=>yz first++yz cap
 | .iface _ v=>qW v
 | _=>[]
def yz:List S->List Nat
 | []=>[]
 | c :: cs=>qW c++yz cs
end
def Yy:List Nat->List Nat->List Nat
 | [],acc=>acc
 | i :: is,acc=>bif acc.any (Nat.beq i) then Yy is acc else Yy is (acc++[i])
def zep:List Nat->Nat->Nat
 | [],_=>0
 | x :: xs,i=>bif Nat.beq x i then 0 else zep xs i + 1
def zbx:yM->Bool
 | .cells cs _=>qc cs
 | .map _ _ _ _=>true
structure XSpec (P:Program) where
 f:FuncId
 run:{β:Type}->List S->List yM->(S->List yM->Option β)->Option (Option β)
 sound:∀ {β:Type} (args:List S) (ins:List yM) (K:S->List yM->Option β) (r:β),run args ins K = some (some r) ->
  ∃ res outs,K res outs = some r/\zb3 P f = true/\Go.Eng.Fn P f (zg args) (ins.map zB) (toV res) (outs.map zB)/\yi res = true/\(∀ B ∈ outs,zbx B = true)/\outs.length = ins.length
def zmk (v:Value):Option FuncId->Array Value
 | none=>#[v]
 | some g=>#[v,.func (.func g) #[] #[]]
structure ztv (P:Program) (f:FuncId) (g:Option FuncId) {α:Type} (enc:α->V) (sz:Nat) (srt:List α->List α):Prop where
 nil:∀ (w:World) (pr:Nat->Nat->Prop) (base:Option Addr) (cap:Nat),HL w pr->Calls P f (zmk (.slice base 0 cap) g) w fun en w'=>en = .returned (.tuple #[])/\Below w.heap.size w w'/\DLE w w'
 row:∀ (w:World) (pr:Nat->Nat->Prop) (lam:Nat->Option Nat) (blk cap:Nat) (d:List α) (cur:Array Value) (e:TypeId),HL w pr->((∀ k vs,GL k = some vs->blk ≠ k)/\TN ≠ some blk)->d ≠ []->d.length <= cap->cap <= maxLen->d.length < 4611686018427387904 ->
  w.heap[blk]? = some (.cells cur e (0,0))->cur.size = cap * sz->RR ⟨w,pr,lam⟩ blk sz 0 (d.map enc) ->
  Calls P f (zmk (.slice (some ⟨blk,0,none⟩) d.length cap) g) w fun en w'=>en = .returned (.tuple #[]) /\
   ∃ w1 cur',zfk w w1 blk/\w1.heap[blk]? = some (.cells cur' e (0,0))/\cur'.size = cur.size/\RR ⟨w1,pr,lam⟩ blk sz 0 ((srt d).map enc)/\Below w1.heap.size w1 w'/\DLE w1 w'
 len:∀ d,(srt d).length = d.length
structure zcg (P:Program) where
 f:FuncId
 g:Option FuncId
 c:C
 srt:List (den c)->List (den c)
 sound:ztv P f g (enc c) (csz c) srt
 go:zb3 P f = true
structure zhd (P:Program) where
 f:FuncId
 c:C
 e:TypeId
 run:List S->Option (Option (List (den c)))
 sound:∀ (args:List S) (l:List (den c)),run args = some (some l)->zb3 P f = true/\FnO P f (zg args) (.list (l.map (enc c))) e
structure zml (P:Program) where
 f:FuncId
 p:Nat
 c:C
 e:TypeId
 run:{β:Type}->List S->List yM->(List (den c)->List yM->Option β)->Option (Option β)
 sound:∀ {β:Type} (args:List S) (ins:List yM) (K:List (den c)->List yM->Option β) (r:β),run args ins K = some (some r) ->
  ∃ l outs,K l outs = some r/\zb3 P f = true/\FnM P f (zg args) (ins.map zB) p e (.list (l.map (enc c))) (outs.map zB)/\(∀ B ∈ outs,zbx B = true)/\outs.length = ins.length
def zfF {P:Program}:List (zml P)->FuncId->Option (zml P)
 | [],_=>none
 | s :: ss,f=>bif Nat.beq s.f f then some s else zfF ss f
def zfG {P:Program}:List (zhd P)->FuncId->Option (zhd P)
 | [],_=>none
 | s :: ss,f=>bif Nat.beq s.f f then some s else zfG ss f
def ztc:Option Nat->Option Nat->Bool
 | none,none=>true
 | some a,some b=>Nat.beq a b
 | _,_=>false
def zby {P:Program}:List (zcg P)->FuncId->Option FuncId->Option (zcg P)
 | [],_,_=>none
 | s :: ss,f,g=>bif Nat.beq s.f f && ztc s.g g then some s else zby ss f g
def zu2 {α:Type} (srt:List α->List α) (l:List α):Option (List α):=if l.length < 4611686018427387904 then some (srt l) else none
structure zeq (P:Program) where
 code:TypeId->Option C
 wr:Nat
 key:TypeId->Bool
 keyed:∀ t,key t = true->KeyT P t
 known:List (XSpec P)
 sorts:List (zcg P):=[]
 owned:List (zhd P):=[]
 muts:List (zml P):=[]
def zah {P:Program} {β:Type}:List (XSpec P)->FuncId->List S->List yM->(S->List yM->Option β)->Option (Option β)
 | [],_,_,_,_=>none
 | s :: ss,f,args,ins,K=>bif Nat.beq s.f f then (match s.run args ins K with | some r=>some r | none=>zah ss f args ins K) else zah ss f args ins K
section
variable {P:Program} (X:zeq P) (ro:RO)
variable {β:Type}
def zer (m:Mm):List Nat->Option (List yM)
 | []=>some []
 | i :: is=>match zu ro m i with
  | some B=>bif zbx B && ro.ownB i then (match zer m is with | some bs=>some (B :: bs) | none=>none) else none
  | none=>none
def zhe (bx:List (Option yM)):List Nat->List yM->List (Option yM)
 | i :: is,B :: bs=>zhe (bx.set i (some B)) is bs
 | _,_=>bx
def zr2 (dr:Bool) (m:Mm) (f:FuncId) (args:List S) (dst:Option Nat) (k:Mm->Option β):Option β :=
 match Yy (yz args) [] with
 | []=>(match zah X.known f args [] (fun res _=>qu ro m dst res none k) with
  | some r=>r
  | none=>none)
 | π=>bif dr || !Nat.ble ro.nb m.bx.length then none else (match zer ro m π with
  | some ins=>(match zah X.known f (zag (zep π) args) ins (fun res outs=>qu ro ⟨m.sl,zhe m.bx π outs⟩ dst res none k) with
   | some r=>r
   | none=>none)
  | none=>none)
def zfH (m:Mm) (B:yM) (dst:Option Nat) (v:S) (k:Mm->Option β):Option β :=
 bif Nat.ble ro.nb m.bx.length then qu ro ⟨m.sl,m.bx++[some B]⟩ dst v none k else none
def ztd (m:Mm) (e:TypeId) (v:S) (dst:Option Nat) (k:Mm->Option β):Option β :=
 match zbu v with
 | some _=>bif Nat.blt e 1000000000 then zfH ro m (.cells (qp v) e) dst (.loc m.bx.length 0) k else none
 | none=>none
def putA {α:Type} (l:List α) (i:Int) (x:α):Option (List α):=if 0 <= i/\i < l.length then some (l.set i.toNat x) else none
def zdw (c:C):Nat->List (den c)->Nat->List S
 | 0,_,_=>[]
 | n + 1,l,k=>refl c (l.getD k (dfl c)) :: zdw c n l (k + 1)
def ztw:S->Bool
 | .agg _=>false
 | _=>true
def znV (m:Mm) (t:TypeId) (x y:S) (dst:Option Nat) (k:Mm->Option β):Option β :=
 match x,dst with
 | .loc i off,none=>(match zu ro m i,sizeT P t,zbu y with
  | some (.cells cs ty),some n,some n'=>bif Nat.blt ty 1000000000 && Nat.beq n' n && Nat.ble (off + n) cs.length && ro.ownB i then
    k ⟨m.sl,m.bx.set i (some (.cells (cs.take off++qp y++cs.drop (off + n)) ty))⟩ else none
  | _,_,_=>none)
 | .loco i a n ix,none=>(match zu ro m i,X.code t,sizeT P t with
  | some (.cells cs ty),some c,some z=>(match QC c ((cs.drop a).take n),qb c y with
   | some l,some v=>bif Nat.blt ty 1000000000 && Nat.beq z 1 && Nat.beq (csz c) 1 && ztw y && Nat.ble (a + n) cs.length && ro.ownB i then
     (putA l ix v).bind fun l'=>k ⟨m.sl,m.bx.set i (some (.cells (cs.take a++zdw c n l' 0++cs.drop (a + n)) ty))⟩ else none
   | _,_=>none)
  | _,_,_=>none)
 | _,_=>none
def zkg (m:Mm) (ss:Nat) (x:S) (t u:TypeId) (dst:Option Nat) (k:Mm->Option β):Option β :=
 match zo ro m ss,yZ P t with
 | (.lst c l,some (tk,e)),some e'=>(match sizeT P e,bytesT P e,zbw P e with
  | some sz,some by',some zv=>(match zbu zv with
   | some zn=>bif Nat.beq e e' && Nat.blt (tcl tk) 2 && srcT P u && Nat.beq zn sz && Nat.beq (csz c) sz && !Nat.beq by' 0 then
     (match x with
     | .lst c' l2=>if h:c' = c then (app by' l (h ▸ l2:List (den c))).bind fun r=>qu ro ⟨m.sl.mapV (zaf tk),m.bx⟩ dst (.lst c r) (some (tk,e)) k else none
     | .rows []=>(app by' l []).bind fun r=>qu ro ⟨m.sl.mapV (zaf tk),m.bx⟩ dst (.lst c r) (some (tk,e)) k
     | .str s=>if h:C.u8 = c then (app by' l (h ▸ yy s:List (den c))).bind fun r=>qu ro ⟨m.sl.mapV (zaf tk),m.bx⟩ dst (.lst c r) (some (tk,e)) k else none
     | _=>none)
    else none
   | none=>none)
  | _,_,_=>none)
 | _,_=>none
mutual
def yR:S->Bool
 | .lst _ _=>false
 | .gel _ _=>false
 | .rows vs=>vs.isEmpty
 | .elt cs _=>cs.isEmpty
 | .agg cs=>Qj cs
 | .tup cs=>Qj cs
 | .fn _ a b=>Qj a && Qj b
 | .iface _ v=>yR v
 | _=>true
def Qj:List S->Bool
 | []=>true
 | c :: cs=>yR c && Qj cs
end
def zai:yM->Bool
 | .cells cs _=>Qj cs
 | .map _ kc vc _=>Zd kc && Zd vc
def QD (tk:Nat) (new:S) (x:S × Tk):S × Tk :=
 match x.2 with
 | some (t,e)=>bif Nat.beq t tk then (new,x.2) else bif Nat.beq (tcl t) 2 then x else bif yR x.1 then x else bif Nat.beq (tcl t) 0 then
   (match x.1 with | .lst c _=>bif Zd c then x else (.any,none) | _=>(.any,none)) else (.any,none)
 | none=>bif yR x.1 then x else (.any,none)
def T.findK {α:Type} (p:α->Bool) (t:T α):Option Nat :=
 T.rec (motive:=fun _=>Option Nat) none (fun _ v _ fl fr=>bif (match v with | some x=>p x | none=>false) then some 0 else
  match fl with
  | some q=>some (2 * q + 1)
  | none=>(match fr with | some q=>some (2 * q + 2) | none=>none)) t
def zmm {α:Type} (l:List α) (i:Int) (x:α):List α:=l.set i.toNat x
def zr3 (m:Mm) (tk:Nat):Option Nat:=m.sl.findK fun x=>match x.2 with | some (t,_)=>Nat.beq t tk | none=>false
def zkh (m:Mm) (t:TypeId) (ss:Nat) (i:S) (dst:Option Nat) (k:Mm->Option β):Option β :=
 match zo ro m ss,i with
 | (.lst c l,some (tk,e)),.int _ i=>(match zcf P t c with
  | some (e',sz)=>bif Nat.beq (tcl tk) 0 && Nat.beq e e' then br (inB i l.length) (qu ro m dst (.ptr i sz 0) (some (tk + 3000000,e)) k) none else none
  | none=>none)
 | _,_=>none
def zki (m:Mm) (s:TypeId) (d0 fi:Nat) (dst:Option Nat) (k:Mm->Option β):Option β :=
 match zo ro m d0,fieldT P s fi with
 | (.ptr i sz f,some (u,e)),some (fo,t)=>(match sizeT P t with
  | some n=>bif !Nat.beq n 0 && Nat.ble 3000000 u && Nat.beq (tcl (u - 3000000)) 0 then qu ro m dst (.ptr i sz (f + fo)) (some (u,e)) k else none
  | none=>none)
 | _,_=>none
def znW (m:Mm) (t:TypeId) (d0:Nat) (dst:Option Nat) (k:Mm->Option β):Option β :=
 match zo ro m d0 with
 | (.ptr i sz f,some (u,_))=>(match zr3 m (u - 3000000) with
  | some ss=>(match zo ro m ss,sizeT P t,aggT P t with
   | (.lst c l,some (tk,e)),some n,some ag=>bif Nat.beq (tk + 3000000) u && Nat.beq (tcl tk) 0 && Nat.beq (csz c) sz && (match sizeT P e with | some z=>Nat.beq z sz | none=>false) then
     (idx l i).bind fun x=>(match ag with
      | true=>bif Nat.ble (f + n) (qp (refl c x)).length then qu ro m dst (.agg (((qp (refl c x)).drop f).take n)) none k else none
      | false=>(match (qp (refl c x))[f]? with | some y=>qu ro m dst y none k | none=>none)) else none
   | _,_,_=>none)
  | none=>none)
 | _=>none
def zkj (c:C) (x:den c) (f n:Nat) (y:S):Option (den c) :=
 match refl c x with
 | .agg cs=>qb c (.agg (cs.take f++qp y++cs.drop (f + n)))
 | _=>bif Nat.beq f 0 && Nat.beq n 1 then (match y with | .agg _=>none | y=>qb c y) else none
def zkk (m:Mm) (t:TypeId) (d0:Nat) (y:S) (dst:Option Nat) (k:Mm->Option β):Option β :=
 match zo ro m d0,dst with
 | (.ptr i sz f,some (u,_)),none=>(match zr3 m (u - 3000000) with
  | some ss=>(match zo ro m ss,sizeT P t,zbu y with
   | (.lst c l,some (tk,e)),some n,some n'=>bif Nat.beq (tk + 3000000) u && Nat.beq (tcl tk) 0 && Nat.beq (csz c) sz && (match sizeT P e with | some z=>Nat.beq z sz | none=>false) && Nat.beq n' n && Nat.ble (f + n) sz && yR y && Zd c && ro.fl &&
      m.bx.all (fun B=>match B with | some B=>zai B | none=>true) then
     (idx l i).bind fun x=>(match zkj c x f n y with
      | some x'=>k ⟨m.sl.mapV (QD tk (.lst c (zmm l i x'))),m.bx⟩
      | none=>none) else none
   | _,_,_=>none)
  | none=>none)
 | _,_=>none
def mkL {α:Type} (z:α) (by':Nat) (l c:Int):Option (List α):=if 0 <= l/\l <= c/\(by':Int) * c <= 281474976710656/\c <= maxLen then some (List.replicate l.toNat z) else none
def znX (m:Mm) (t:TypeId) (l c:S) (dst:Option Nat) (k:Mm->Option β):Option β :=
 match l,c,yZ P t with
 | .int _ l,.int _ n,some e=>(match X.code e,sizeT P e,bytesT P e,zbw P e with
  | some c,some sz,some by',some zv=>(match qb c zv,zbu zv with
   | some z,some zn=>bif Nat.beq zn sz && Nat.beq (csz c) sz && Nat.beq (tcl (dst.getD 0)) 0 then (mkL z by' l n).bind fun r=>qu ro ⟨m.sl.mapV (zaf (dst.getD 0)),m.bx⟩ dst (.lst c r) (some (dst.getD 0,e)) k else none
   | _,_=>none)
  | _,_,_,_=>none)
 | _,_,_=>none
def zmn (m:Mm):Operand->Option Nat
 | .tmp t=>(match (zo ro m t).1 with | .ptr _ _ _=>some t | _=>none)
 | _=>none
def zo5 (m:Mm) (Q:zcg P) (ss:Nat) (dst:Option Nat) (k:Mm->Option β):Option β :=
 match zo ro m ss with
 | (.lst c l,some (tk,e))=>if h:c = Q.c then
   (bif Nat.beq (tcl tk) 0 && (match sizeT P e with | some z=>Nat.beq z (csz Q.c) | none=>false) && ro.fl && m.bx.all (fun B=>match B with | some B=>zai B | none=>true) then
    (zu2 Q.srt (h ▸ l)).bind fun r=>qu ro ⟨m.sl.mapV (QD tk (.lst Q.c r)),m.bx⟩ dst (.tup []) none k else none) else none
 | _=>none
def zuq (m:Mm) (Q:zhd P) (args:List S) (dst:Option Nat) (k:Mm->Option β):Option β :=
 bif (yz args).isEmpty && Nat.beq (tcl (dst.getD 0)) 0 then
  (match Q.run args with
  | some r=>r.bind fun l=>qu ro ⟨m.sl.mapV (zaf (dst.getD 0)),m.bx⟩ dst (.lst Q.c l) (some (dst.getD 0,Q.e)) k
  | none=>none)
 else none
def qP (tk:Nat) (x:S × Tk):S × Tk :=
 match x.2 with
 | some (t,_)=>bif Nat.beq t tk then (.any,none) else QD tk (.lst .i64 []) x
 | none=>QD tk (.lst .i64 []) x
def zbT (m:Mm) (tk:Nat) (ops:List Operand) (p:Nat) (v:S) (cap:List S):List S:=(ops.map (evalX ro ⟨m.sl.mapV (qP tk),m.bx⟩)).set p v++cap
def zur (m:Mm) (Q:zml P) (ops:List Operand) (cap:List S) (dst:Option Nat) (k:Mm->Option β):Option β :=
 match ops[Q.p]? with
 | some (.tmp ss)=>(match zo ro m ss with
  | (.lst c l,some (tk,e)) =>
   bif Nat.beq (tcl tk) 0 && Nat.beq e Q.e && Nat.beq (tcl (dst.getD 0)) 0 && ro.fl && m.bx.all (fun B=>match B with | some B=>zai B | none=>true) && Qj cap && Nat.ble ro.nb m.bx.length then
    (match zer ro m (Yy (yz (zbT ro m tk ops Q.p (.lst c l) cap)) []) with
    | some ins=>(match Q.run (zag (zep (Yy (yz (zbT ro m tk ops Q.p (.lst c l) cap)) [])) (zbT ro m tk ops Q.p (.lst c l) cap)) ins (fun r outs =>
      qu ro ⟨(m.sl.mapV (qP tk)).mapV (zaf (dst.getD 0)),zhe m.bx (Yy (yz (zbT ro m tk ops Q.p (.lst c l) cap)) []) outs⟩ dst (.lst Q.c r) (some (dst.getD 0,Q.e)) k) with
     | some r=>r
     | none=>none)
    | none=>none)
   else none
  | _=>none)
 | _=>none
def zus (m:Mm) (t:TypeId) (ss:Nat) (y:S) (dst:Option Nat) (k:Mm->Option β):Option β :=
 match zo ro m ss,y with
 | (.lst c l,some (tk,e)),.int _ i=>(match zcf P t c with
  | some (e',sz)=>bif Nat.beq e e' && Nat.beq (tcl tk) 0 && Zd c && Nat.beq (tcl (dst.getD 0)) 0 && ro.fl && m.bx.all (fun B=>match B with | some B=>zai B | none=>true) then
    (slc l 0 i).bind fun r=>qu ro ⟨(m.sl.mapV (qP tk)).mapV (zaf (dst.getD 0)),m.bx⟩ dst (.lst c r) (some (dst.getD 0,e)) k
   else none
  | none=>none)
 | _,_=>none
def zr4 (m:Mm) (s t:TypeId) (ss:Nat) (dst:Option Nat) (k:Mm->Option β):Option (Option β) :=
 match zo ro m ss with
 | (.lst .u8 l0,some (tk,e))=>bif Nat.beq (tcl tk) 0 && Nat.beq s t then (match l0 with
   | x :: l=>some (match zcf P t .u8,ql P e with
    | some (e',sz),.int .u8=>bif Nat.beq e e' && ro.fl && m.bx.all (fun B=>match B with | some B=>zai B | none=>true) then
      qu ro ⟨m.sl.mapV (qP tk),m.bx⟩ dst (.lst .u8 (x :: l)) none k
     else none
    | _,_=>none)
   | []=>none)
  else none
 | _=>none
def zkl (m:Mm) (ss:Nat) (x:S) (t u:TypeId) (dst:Option Nat) (k:Mm->Option β):Option β :=
 match zo ro m ss,yZ P t,x with
 | (.lst c l,some (tk,e)),some e',.lst c' (y :: l2)=>(match sizeT P e,bytesT P e,zbw P e with
  | some sz,some by',some zv=>(match zbu zv with
   | some zn=>bif Nat.beq e e' && Nat.blt (tcl tk) 2 && srcT P u && Nat.beq zn sz && Nat.beq (csz c) sz && !Nat.beq by' 0 && Nat.beq (tcl (dst.getD 0)) 0 then
     if h:c' = c then (app by' l (h ▸ (y :: l2):List (den c))).bind fun r=>qu ro ⟨(m.sl.mapV (zaf tk)).mapV (zaf (dst.getD 0)),m.bx⟩ dst (.lst c r) (some (dst.getD 0,e)) k else none
    else none
   | none=>none)
  | _,_,_=>none)
 | _,_,_=>none
def zu3 {α:Type} (l:List α) (i:Int) (z:α):Option (List α):=if 0 <= i/\i < l.length then some (l.take i.toNat++List.replicate (l.length - i.toNat) z) else none
def zr5 (o2 o3:Oper) (m:Mm) (k:Mm->Option β):Option β :=
 match o2.guard,o3.guard,o3.dst,o2.dst,o2.op with
 | none,none,none,some c,.slice t (.tmp ss) (some y) none none=>bif zou c t o3.op then (match zo ro m ss,evalX ro m y with
  | (.lst cc l,some (tk,e)),.int _ i=>(match zcf P t cc,zbw P e with
   | some (e',sz),some zv=>(match qb cc zv,zbu zv with
    | some z,some zn=>bif Nat.beq e e' && Nat.beq (tcl tk) 0 && Nat.beq zn sz && Zd cc && ro.fl && m.bx.all (fun B=>match B with | some B=>zai B | none=>true) then
      (zu3 l i z).bind fun r=>qu ro ⟨m.sl.mapV (QD tk (.lst cc r)),m.bx⟩ (some c) .any none k
     else none
    | _,_=>none)
   | _,_=>none)
  | _,_=>none) else none
 | _,_,_,_,_=>none
def zte {γ:Type} (A B:Option γ):Option γ:=open Classical in if A = B then B else none
def ztf {α γ:Type} (l:List α) (A B:Option γ):Option γ:=match l with
 | []=>zte A B
 | _ :: _=>B
def znY (m:Mm) (op:BinOp) (t:TypeId) (x:S) (dst:Option Nat) (k:Mm->Option β):Option (Option β) :=
 match x,op,yZ P t with
 | .lst _ l,.eql,some _=>some (ztf l (qu ro m dst (.bool true) none k) (qu ro m dst (.bool false) none k))
 | .lst _ l,.neq,some _=>some (ztf l (qu ro m dst (.bool false) none k) (qu ro m dst (.bool true) none k))
 | _,_,_=>none
def zkm (m:Mm) (t:TypeId) (mx x:S) (dst:Option Nat) (k:Mm->Option β):Option β :=
 match mx,mapT P t,dst with
 | .mref i,some (kt,_),none=>(match zu ro m i with
  | some (.map mt kc vc l)=>(match ckC kc,dq kc,keyT P kt with
   | some (ag,ks),some d,some (ag',ks')=>(match qb kc x with
    | some kk=>bif X.key kt && (ag == ag') && zka ks ks' && ro.ownB i then
      (@zui _ _ d (znP kc) l kk).bind fun l'=>k ⟨m.sl,m.bx.set i (some (.map mt kc vc l'))⟩ else none
    | _=>none)
   | _,_,_=>none)
  | _=>none)
 | _,_,_=>none
def zkn (m:Mm) (t:TypeId) (i:Nat) (dst:Option Nat) (k:Mm->Option β):Option β :=
 match mapT P t,zu ro m i with
 | some _,some (.map _ _ _ l)=>qu ro m dst (.int .i64 l.length) none k
 | _,_=>none
def zut (o:Oper) (m:Mm) (k:Mm->Option β):Option (Option β) :=
 match o.op with
 | .indexAddr t (.tmp ss) ix=>bif (match o.dst with | some d=>Nat.testBit X.wr d | none=>false) then some (zkh (P:=P) ro m t ss (evalX ro m ix) o.dst k) else none
 | .fieldAddr s x fi=>(match zmn ro m x with | some d0=>some (zki (P:=P) ro m s d0 fi o.dst k) | none=>none)
 | .load t x=>(match zmn ro m x with | some d0=>some (znW (P:=P) ro m t d0 o.dst k) | none=>none)
 | .store t x y=>(match zmn ro m x with | some d0=>some (zkk (P:=P) ro m t d0 (evalX ro m y) o.dst k) | none=>none)
 | .call { callee:=.value fo,args,.. }=>(match evalX ro m fo with
  | .fn (.func f) first cap=>(match zfG X.owned f with
   | some Q=>some (zuq ro m Q (first++args.toList.map (evalX ro m)++cap) o.dst k)
   | none=>(match first,zfF X.muts f with
   | [],some Q=>some (zur ro m Q args.toList cap o.dst k)
   | _,_=>(match first,cap,args.toList with
    | [],[],[.tmp ss]=>(match zby X.sorts f none with | some Q=>some (zo5 ro m Q ss o.dst k) | none=>none)
    | [],[],[.tmp ss,y]=>(match evalX ro m y with
     | .fn (.func g) [] []=>(match zby X.sorts f (some g) with | some Q=>some (zo5 ro m Q ss o.dst k) | none=>none)
     | _=>none)
    | _,_,_=>none)))
  | _=>none)
 | .slice t (.tmp ss) none (some y) none=>bif (match o.dst with | some d=>Nat.testBit X.wr d | none=>false) then some (zus (P:=P) ro m t ss (evalX ro m y) o.dst k) else none
 | .call { callee:=.builtin .append,args,argTypes }=>bif (match o.dst with | some d=>Nat.testBit X.wr d | none=>false) then (match args.toList,argTypes.toList with
  | [.tmp ss,x],[t,u]=>some (zkl (P:=P) ro m ss (evalX ro m x) t u o.dst k)
  | _,_=>none) else none
 | .convert s t (.tmp ss)=>zr4 (P:=P) ro m s t ss o.dst k
 | .makeSlice t l c=>some (znX X ro m t (evalX ro m l) (evalX ro m c) o.dst k)
 | .binOp op t x (.const (.slice none 0 0)) _=>znY (P:=P) ro m op t (evalX ro m x) o.dst k
 | .call { callee:=.builtin .delete,args,argTypes }=>(match args.toList,argTypes.toList with
  | [mx,x],[t,_]=>some (zkm X ro m t (evalX ro m mx) (evalX ro m x) o.dst k)
  | _,_=>none)
 | .call { callee:=.builtin .len,args,argTypes }=>(match args.toList,argTypes.toList with
  | [mx],[t]=>(match evalX ro m mx with
   | .mref i=>some (zkn (P:=P) ro m t i o.dst k)
   | _=>none)
  | _,_=>none)
 | _=>none
def znZ (m:Mm) (t:TypeId) (dst:Option Nat) (k:Mm->Option β):Option β :=
 match mapT P t with
 | some (kt,et)=>(match X.code kt,X.code et with
  | some kc,some vc=>zfH ro m (.map t kc vc []) dst (.mref m.bx.length) k
  | _,_=>none)
 | none=>none
def zko (m:Mm) (t:TypeId) (mx x:S) (ok:Bool) (K:S->Option β):Option β :=
 match mx,mapT P t with
 | .mref i,some (kt,et)=>(match zu ro m i with
  | some (.map _ kc vc l)=>(match ckC kc,dq kc,keyT P kt,zbw P et with
   | some (ag,ks),some d,some (ag',ks'),some zv=>(match qb kc x,qb vc zv with
    | some k,some z=>bif X.key kt && (ag == ag') && zka ks ks' then
      (@zs9 _ _ d (znP kc) l k).bind fun o=>K (bif ok then .tup [refl vc (o.getD z),.bool o.isSome] else refl vc (o.getD z)) else none
    | _,_=>none)
   | _,_,_,_=>none)
  | _=>none)
 | _,_=>none
def zkp (m:Mm) (t:TypeId) (mx x y:S) (dst:Option Nat) (k:Mm->Option β):Option β :=
 match mx,mapT P t,dst with
 | .mref i,some (kt,_),none=>(match zu ro m i with
  | some (.map mt kc vc l)=>(match ckC kc,dq kc,keyT P kt with
   | some (ag,ks),some d,some (ag',ks')=>(match qb kc x,qb vc y with
    | some kk,some v=>bif X.key kt && (ag == ag') && zka ks ks' && ro.ownB i then
      (@zta _ _ d (znP kc) l kk v).bind fun l'=>k ⟨m.sl,m.bx.set i (some (.map mt kc vc l'))⟩ else none
    | _,_=>none)
   | _,_,_=>none)
  | _=>none)
 | _,_,_=>none
def opX (dr:Bool) (o:Oper) (m:Mm) (k:Mm->Option β):Option β :=
 match (bif dr then none else zut X ro o m k) with
 | some r=>r
 | none =>
 match o.op with
 | .box e x=>ztd ro m e (evalX ro m x) o.dst k
 | .alloc e=>(match zbw P e with | some v=>ztd ro m e v o.dst k | none=>none)
 | .store t x y=>znV X ro m t (evalX ro m x) (evalX ro m y) o.dst k
 | .call { callee:=.builtin .append,args,argTypes }=>(match args.toList,argTypes.toList with
  | [.tmp ss,x],[t,u]=>zkg (P:=P) ro m ss (evalX ro m x) t u o.dst k
  | _,_=>none)
 | .call { callee:=.value f,args,.. }=>(match evalX ro m f with
  | .fn (.func g) first cap=>zr2 X ro dr m g (first++args.toList.map (evalX ro m)++cap) o.dst k
  | _=>none)
 | .makeMap t none=>znZ X ro m t o.dst k
 | .mapUpdate t mx x y=>zkp X ro m t (evalX ro m mx) (evalX ro m x) (evalX ro m y) o.dst k
 | .lookup t mx x ok=>zko X ro m t (evalX ro m mx) (evalX ro m x) ok fun v=>zo4 ro m dr o v none k
 | _=>zr1 P X.code ro m o fun v tk=>zo4 ro m dr o v tk k
def Z7 (m:Mm) (x:Operand) (b:Bool):Mm :=
 match x with
 | .tmp t=>bif ro.own t then ⟨m.sl.set t (.bool b,(zo ro m t).2),m.bx⟩ else m
 | _=>m
def gdX (ds:List (Option Nat)) (m:Mm) (g:Option (Nat × Bool)) (A B:Mm->Option β):Option β :=
 match g with
 | none=>A m
 | some (j,want)=>(match ds[j]? with
  | some (some d)=>(match (zo ro m d).1 with
   | .bool b=>br b (bif want then A (Z7 ro m (.tmp d) true) else B (Z7 ro m (.tmp d) true)) (bif want then B (Z7 ro m (.tmp d) false) else A (Z7 ro m (.tmp d) false))
   | .un=>B m
   | _=>none)
  | _=>B m)
def zbU (o:Oper):Bool:=match o.guard with
 | none=>true
 | some _=>false
structure zuu where
 t:TypeId
 op:BinOp
 s:Nat
 r:Nat
 c:Int
 d2:Nat
 d3:Nat
 d4:Nat
 d5:Nat
def zn0 (dr:Bool) (o2:Oper) (os:List Oper):Option zuu :=
 match o2.op with
 | .lookup t (.tmp s) (.tmp r) false=>(match os with
  | [o3,o4,o5,o6]=>(match o4.op with
   | .mapEntry t' (.tmp s') (.tmp r')=>(match o3.op with
    | .binOp op _ (.tmp a2) (.const (.int .i64 c)) _=>(match o5.op with
     | .extract (.tmp a4) i=>(match o6.op with
      | .entryStore t'' (.tmp s'') (.tmp a5) (.tmp a3)=>(match o2.dst,o3.dst,o4.dst,o5.dst,o6.dst with
       | some d2,some d3,some d4,some d5,none =>
        bif dr && (zbU o2 && zbU o3 && zbU o4 && zbU o5 && zbU o6) && (Nat.beq t' t && Nat.beq t'' t && Nat.beq s' s && Nat.beq s'' s && Nat.beq r' r && Nat.beq a2 d2 && Nat.beq a3 d3 && Nat.beq a4 d4 && Nat.beq a5 d5 && Nat.beq i 1) &&
         (!Nat.beq d2 d3 && !Nat.beq d2 d4 && !Nat.beq d2 d5 && !Nat.beq d3 d4 && !Nat.beq d3 d5 && !Nat.beq d4 d5) && (!Nat.beq s d2 && !Nat.beq s d3 && !Nat.beq s d4 && !Nat.beq s d5) && (!Nat.beq r d2 && !Nat.beq r d3 && !Nat.beq r d4 && !Nat.beq r d5) then
         some ⟨t,op,s,r,c,d2,d3,d4,d5⟩ else none
       | _,_,_,_,_=>none)
      | _=>none)
     | _=>none)
    | _=>none)
   | _=>none)
  | _=>none)
 | _=>none
def arX (op:BinOp) (a b:Int):Option Int:=match op with
 | .add=>qg .i64 a b
 | .sub=>zmg .i64 a b
 | _=>none
def zuv (m:Mm) (q:zuu) (k:Mm->Option β):Option β :=
 match evalX ro m (.tmp q.s),mapT P q.t with
 | .mref i,some (kt,et)=>(match zu ro m i with
  | some (.map mt kc .i64 l)=>(match ckC kc,dq kc,keyT P kt,zbw P et with
   | some (ag,ks),some d,some (ag',ks'),some zv=>(match qb kc (evalX ro m (.tmp q.r)),qb .i64 zv with
    | some kk,some z=>bif X.key kt && (ag == ag') && zka ks ks' && ro.ownB i then
      (@zs9 _ _ d (znP kc) l kk).bind fun o=>(arX q.op (o.getD z) q.c).bind fun y=>(@zta _ _ d (znP kc) l kk y).bind fun l' =>
       qu ro ⟨m.sl,m.bx.set i (some (.map mt kc .i64 l'))⟩ (some q.d2) (.int .i64 (o.getD z)) none fun m=>qu ro m (some q.d3) (.int .i64 y) none fun m=>qu ro m (some q.d4) .any none fun m=>qu ro m (some q.d5) .any none k else none
    | _,_=>none)
   | _,_,_,_=>none)
  | _=>none)
 | _,_=>none
def zn1 (dr:Bool) (ds:List (Option Nat)):List Oper->Mm->(Mm->Option β)->Option β
 | [],m,k=>k m
 | o :: os,m,k=>match zn0 dr o os with
  | some q=>zuv X ro m q k
  | none=>gdX ro ds m o.guard (fun m=>opX X ro dr o m fun m'=>zn1 dr ds os m' k) (fun m=>qu ro m o.dst .un none fun m'=>zn1 dr ds os m' k)
def zo6 (o:Oper) (m:Mm) (k:Mm->Option β):Option β :=
 match o.op with
 | .move x=>qu ro m o.dst (evalX ro m x) (zs8 ro m x) k
 | .binOp .add _ x y _=>(match evalX ro m x,evalX ro m y with
  | .int k1 a,.int k2 b=>if k1 = k2 then (qg k1 a b).bind fun n=>qu ro m o.dst (.int k1 n) none k else none
  | _,_=>none)
 | .binOp .sub _ x y _=>(match evalX ro m x,evalX ro m y with
  | .int k1 a,.int k2 b=>if k1 = k2 then (zmg k1 a b).bind fun n=>qu ro m o.dst (.int k1 n) none k else none
  | _,_=>none)
 | .indexAddr t x i=>(match evalX ro m x,evalX ro m i with
  | .lst c l,.int _ i=>(match zcf P t c with
   | some _=>(idx l i).bind fun x=>qu ro m o.dst (.elt (qp (refl c x)) 0) none k
   | none=>none)
  | _,_=>none)
 | .slice t x lo hi none=>(match evalX ro m x with
  | .lst c l=>zkb P ro m t (.lst c l) lo hi none o.dst fun v tk=>qu ro m o.dst v tk k
  | _=>none)
 | _=>none
def zr6 (o o':Oper) (m:Mm) (k:Mm->Option β):Option β :=
 match o.op,o'.op with
 | .load t x,.load t' x'=>zmi P X.code ro m t (evalX ro m x) fun v=>zmi P X.code ro m t' (evalX ro m x') fun u=>qu ro m o.dst v none fun m=>qu ro m o'.dst u none k
 | _,_=>none
def zo7:List Oper->Mm->(Mm->Option β)->Option β
 | [],_,_=>none
 | o :: os,m,k=>match os with
  | []=>none
  | [o3]=>zr5 (P:=P) ro o o3 m k
  | _=>(match o.guard with | none=>opX X ro false o m fun m'=>zo7 os m' k | some _=>none)
def ztg {γ:Type} (f:Nat->Option γ):List Nat->Option γ
 | []=>none
 | j :: l=>match l with
  | []=>f j
  | _=>zte (f j) (ztg f l)
def zdx (ops:Array Oper) (ds:List (Option Nat)):Nat->Array Bool->Mm->(Mm->Option β)->Option β
 | 0,listed,m,k=>(match Region.ready .any ops listed with | []=>k m | _=>none)
 | fuel + 1,listed,m,k=>(match Region.ready .any ops listed with
  | []=>k m
  | i :: is=>(match (i :: is).find? (zcT ops listed) with
   | some j=>(match ops[j]? with
    | some o=>zo6 (P:=P) ro o m fun m'=>zdx ops ds fuel (listed.setIfInBounds j true) m' k
    | none=>none)
   | none=>ztg (fun j=>match ops[j]? with
    | some o=>gdX ro ds m o.guard (fun m=>opX X ro false o m fun m'=>zdx ops ds fuel (listed.setIfInBounds j true) m' k) (fun m=>qu ro m o.dst .un none fun m'=>zdx ops ds fuel (listed.setIfInBounds j true) m' k)
    | none=>none) (i :: is)))
def zkq (ops:Array Oper) (ds:List (Option Nat)):List (Nat × Nat)->Mm->(Mm->Option β)->Option β
 | [],m,k=>k m
 | (i,t) :: l,m,k=>match ops[i]? with
  | none=>none
  | some o=>match t with
   | 1=>zo6 (P:=P) ro o m fun m'=>zkq ops ds l m' k
   | j + 2=>(match ops[j]? with
    | some o'=>zr6 X ro o o' m fun m'=>zkq ops ds l m' k
    | none=>none)
   | 0=>gdX ro ds m o.guard (fun m=>opX X ro false o m fun m'=>zkq ops ds l m' k) (fun m=>qu ro m o.dst .un none fun m'=>zkq ops ds l m' k)
end
inductive zcF (σ ρ:Type) where
 | next (s:σ)
 | done (r:ρ)
def za1 {σ ρ:Type} (F:σ->Option (zcF σ ρ)):Nat->σ->Option ρ
 | 0,_=>none
 | n + 1,s=>match F s with
  | some (.next s')=>za1 F n s'
  | some (.done r)=>some r
  | none=>none
open Classical in
def Qq {σ ρ:Type} (F:σ->Option (zcF σ ρ)) (s:σ):Option ρ :=
 if h:∃ r n,za1 F n s = some r then some h.choose else none
inductive LV where
 | slot (s:Nat) (c:C) (tk:Tk)
 | box (i:Nat) (c:C)
 | mapb (i:Nat) (kc vc:C)
@[reducible] def LV.ty:LV->Type
 | .slot _ c _=>den c
 | .box _ c=>den c
 | .mapb _ kc vc=>List (den kc × den vc)
@[reducible] def zfr:List LV->Type
 | []=>Unit
 | [v]=>v.ty
 | v :: w :: vs=>v.ty × zfr (w :: vs)
def zuw:Tk->Tk->Bool
 | none,_=>true
 | some (t,e),some (t',e')=>Nat.beq t t' && Nat.beq e e'
 | some _,none=>false
def zo8 (B:Option yM):TypeId:=match B with
 | some (.cells _ ty)=>ty
 | some (.map mt _ _ _)=>mt
 | none=>0
def zes (old:Nat->Option yM) (ro:RO) (m:Mm):(v:LV)->Option v.ty
 | .slot s c tk=>bif zuw tk (zo ro m s).2 then qb c (zo ro m s).1 else none
 | .box i c=>(match zu ro m i with
  | some (.cells cs ty)=>bif Nat.beq ty (zo8 (old i)) then (match qb c (.agg cs) with
   | some y=>some y
   | none=>(match cs with
    | [.agg _]=>none
    | [x]=>qb c x
    | _=>none)) else none
  | _=>none)
 | .mapb i kc vc=>(match zu ro m i with | some (.map mt kc' vc' l)=>bif Nat.beq mt (zo8 (old i)) then (if h:kc' = kc/\vc' = vc then some (h.1 ▸ h.2 ▸ l) else none) else none | _=>none)
def QE (old:Nat->Option yM) (ro:RO) (m:Mm):(L:List LV)->Option (zfr L)
 | []=>some ()
 | [v]=>zes old ro m v
 | v :: w :: vs=>match zes old ro m v,QE old ro m (w :: vs) with
  | some x,some y=>some (x,y)
  | _,_=>none
def qL (old:Nat->Option yM) (m:Mm):(v:LV)->v.ty->Mm
 | .slot s c tk,x=>⟨m.sl.set s (refl c x,tk),m.bx⟩
 | .box i c,x=>⟨m.sl,m.bx.set i (some (.cells (qp (refl c x)) (zo8 (old i))))⟩
 | .mapb i kc vc,x=>⟨m.sl,m.bx.set i (some (.map (zo8 (old i)) kc vc x))⟩
def qF (old:Nat->Option yM) (m:Mm):(L:List LV)->zfr L->Mm
 | [],_=>m
 | [v],x=>qL old m v x
 | v :: w :: vs,x=>qF old (qL old m v x.1) (w :: vs) x.2
inductive EX where
 | exit (id:Nat) | ret | norm
 deriving DecidableEq
def EX.of:Exit->Option EX
 | .exit id=>some (.exit id)
 | .ret=>some .ret
 | _=>none
def EX.ofJ:Exit->Option EX
 | .normal=>some .norm
 | .exit id=>some (.exit id)
 | .ret=>some .ret
 | _=>none
def EX.to:EX->Exit
 | .exit id=>.exit id
 | .ret=>.ret
 | .norm=>.normal
def EX.beq:EX->EX->Bool
 | .exit i,.exit j=>Nat.beq i j
 | .ret,.ret=>true
 | .norm,.norm=>true
 | _,_=>false
@[reducible] def zpU:List (EX × List LV)->Type
 | []=>Empty
 | [e]=>zfr e.2
 | e :: f :: es=>zfr e.2 ⊕ zpU (f :: es)
def QF (old:Nat->Option yM) (ro:RO) (m:Mm) (ex:EX):(es:List (EX × List LV))->Option (zpU es)
 | []=>none
 | [e]=>bif e.1.beq ex then QE old ro m e.2 else none
 | e :: f :: es=>bif e.1.beq ex then (match QE old ro m e.2 with | some x=>some (.inl x) | none=>none) else (match QF old ro m ex (f :: es) with | some x=>some (.inr x) | none=>none)
def Qk {β:Type} (old:Nat->Option yM) (m:Mm) (k:Exit->Mm->Option β):(es:List (EX × List LV))->zpU es->Option β
 | [],x=>none
 | [e],x=>k e.1.to (qF old m e.2 x)
 | e :: f :: es,x=>Sum.elim (fun y=>k e.1.to (qF old m e.2 y)) (fun y=>Qk old m k (f :: es) y) x
inductive Ann where
 | no
 | sch
 | full
 | two (a b:Ann)
 | loop (ds bs:List Nat) (L:List LV) (es:List (EX × List LV)) (a:Ann)
 | old (a:Ann)
 | join (ds bs:List Nat) (L:List LV) (es:List (EX × List LV)) (a:Ann)
def Ann.isOld:Ann->Bool
 | .old _=>true
 | _=>false
def Ann.un:Ann->Ann
 | .old a=>a
 | a=>a
def Ann.inn:Ann->Ann
 | .join _ _ _ _ a=>a
 | a=>a
def zhY (m:Mm):Mm:=⟨m.sl.mapV (fun x=>(x.1,some (2000000,0))),m.bx⟩
def zet (m:Mm):Mm:=⟨m.sl.mapV (fun x=>(x.1,none)),m.bx⟩
def Ann.l:Ann->Ann
 | .two a _=>a
 | a=>.no
def Ann.r:Ann->Ann
 | .two _ b=>b
 | a=>.no
def Ann.isSch:Ann->Bool
 | .sch=>true
 | _=>false
def Ann.isFull:Ann->Bool
 | .full=>true
 | _=>false
def zkr (l:List Nat):Nat:=l.foldl (fun a s=>a ||| (1 <<< s)) 0
def yp:List LV->Nat->Bool
 | [],_=>false
 | .slot _ _ _ :: L,i=>yp L i
 | .box j _ :: L,i=>Nat.beq j i || yp L i
 | .mapb j _ _ :: L,i=>Nat.beq j i || yp L i
def Zz:List LV->List Nat
 | []=>[]
 | .slot _ _ _ :: L=>Zz L
 | .box j _ :: L=>j :: Zz L
 | .mapb j _ _ :: L=>j :: Zz L
def zhf (sl:T (S × Tk)):List Nat->T (S × Tk)
 | []=>sl
 | s :: ss=>zhf (sl.set s (.any,none)) ss
def yY (mu:Bool) (x:S × Tk):S × Tk :=
 match x.2 with
 | some (t,e)=>bif Nat.beq (tcl t) 2 then x else bif !mu || yR x.1 then (x.1,none) else (.any,none)
 | none=>bif !mu || yR x.1 then x else (.any,none)
def yw (mu:Bool) (ro:RO) (m:Mm) (ds bs:List Nat):RO :=
 { all:=false,mask:=zkr ds,sl:=fun s=>yY mu (zo ro m s),nb:=m.bx.length,bmask:=zkr bs,bx:=fun i=>zu ro m i,
   fl:=mu && (List.range m.bx.length).all (fun i=>match zu ro m i with | some B=>zai B | none=>true) }
def inD (ds:List (Option Nat)) (t:Nat):Bool:=ds.any (fun d=>match d with | some d=>Nat.beq d (t % 1000000) | none=>false)
def zhZ (ds:List (Option Nat)) (x:S × Tk):S × Tk:=match x.2 with
 | some (t,_)=>bif Nat.blt (tcl t) 2 && inD ds t then (x.1,none) else x
 | none=>x
def zn2 (ro:RO) (m:Mm) (ds bs:List Nat) (L:List LV) (es:List (EX × List LV)):Bool :=
 ds.all ro.own && bs.all ro.ownB && bs.all (fun i=>Nat.blt i m.bx.length) && bs.all (yp L) && es.all (fun e=>bs.all (yp e.2)) && Nat.ble ro.nb m.bx.length && (Zz L).all (fun i=>bs.any (Nat.beq i)) && es.all (fun e=>(Zz e.2).all (fun i=>bs.any (Nat.beq i)))
def Z8 {P:Program} (X:zeq P):Code->Ann->RO->Mm->{β:Type}->(Exit->Mm->Option β)->Option β
 | .skip,_,_,m,_,k=>k .normal m
 | .label _,_,_,m,_,k=>k .normal m
 | .region _ ops dr,a,ro,m,_,k=>bif dr && a.isFull then zdx X ro ops (ops.toList.map (·.dst)) ops.size (Array.replicate ops.size false) m (k .normal) else bif dr && a.isSch then (match zqD ops with
  | some l=>zkq X ro ops (ops.toList.map (·.dst)) l m (k .normal)
  | none=>none) else bif a.isSch then zo7 X ro ops.toList m (k .normal) else zn1 X ro dr (ops.toList.map (·.dst)) ops.toList (bif dr then ⟨m.sl.mapV (zhZ ((ops.toList.filter Y2).map (·.dst))),m.bx⟩ else m) (k .normal)
 | .seq x y,a,ro,m,_,k=>match a.l with
  | .join ds bs L es a1 =>
   bif zn2 ro m ds bs L es then
    (match QE (zu ro m) ro m L with
    | some v=>(Z8 X x a1 (yw (!Nat.beq X.wr 0) ro m ds bs) (qF (zu ro m) ⟨.nil,List.replicate m.bx.length none⟩ L v) fun ex m'=>match EX.ofJ ex with
      | some e=>QF (zu ro m) (yw (!Nat.beq X.wr 0) ro m ds bs) m' e es
      | none=>none).bind fun w =>
      Qk (zu ro m) ⟨zhf (m.sl.mapV (yY (!Nat.beq X.wr 0))) ds,m.bx⟩ (fun ex m'=>match ex with
       | .normal=>Z8 X y a.r.un ro m' k
       | e=>k e m') es w
    | none=>none)
   else none
  | al=>Z8 X x al ro m fun ex m'=>match ex with
   | .normal=>bif a.r.isOld && ro.all then Z8 X y a.r.un ro (zhY m') (fun ex2 m2=>k ex2 (zet m2)) else Z8 X y a.r.un ro m' k
   | e=>k e m'
 | .cond c x y,a,ro,m,_,k=>(match evalX ro m c with
  | .bool b=>br b (Z8 X x a.l ro (Z7 ro m c true) k) (Z8 X y a.r ro (Z7 ro m c false) k)
  | _=>none)
 | .block id x,a,ro,m,_,k=>Z8 X x a ro m fun ex m'=>match ex with
  | .exit id'=>bif Nat.beq id' id then k .normal m' else k (.exit id') m'
  | e=>k e m'
 | .exit id,_,_,m,_,k=>k (.exit id) m
 | .ret,_,_,m,_,k=>k .ret m
 | .loop x,.loop ds bs L es a,ro,m,_,k =>
  bif ds.all ro.own && bs.all ro.ownB && bs.all (fun i=>Nat.blt i m.bx.length) && bs.all (yp L) && es.all (fun e=>bs.all (yp e.2)) && Nat.ble ro.nb m.bx.length && (Zz L).all (fun i=>bs.any (Nat.beq i)) && es.all (fun e=>(Zz e.2).all (fun i=>bs.any (Nat.beq i))) then
   (match QE (zu ro m) ro m L with
   | some v=>(Qq (σ:=zfr L) (ρ:=zpU es) (fun v=>Z8 X x a (yw (!Nat.beq X.wr 0) ro m ds bs) (qF (zu ro m) ⟨.nil,List.replicate m.bx.length none⟩ L v) fun ex m'=>match ex with
     | .normal=>(match QE (zu ro m) (yw (!Nat.beq X.wr 0) ro m ds bs) m' L with | some w=>some (.next w) | none=>none)
     | ex=>(match EX.of ex with
      | some ex=>(match QF (zu ro m) (yw (!Nat.beq X.wr 0) ro m ds bs) m' ex es with | some w=>some (.done w) | none=>none)
      | none=>none)) v).bind fun w =>
      Qk (zu ro m) ⟨zhf (m.sl.mapV (yY (!Nat.beq X.wr 0))) ds,m.bx⟩ k es w
   | none=>none)
  else none
 | _,_,_,_,_,_=>none
def qQ:RO:={ all:=true,mask:=0,sl:=fun _=>(.any,none),nb:=0,bmask:=0,bx:=fun _=>none,fl:=true }
def YJ:Nat->List S->T (S × Tk)
 | _,[]=>.nil
 | n,s :: ss=>(YJ (n + 1) ss).set n (s,some (2000000,0))
def zn3 {P:Program} (m:Mm):List ResultVar->Option (List S)
 | []=>some []
 | r :: rs=>match (match r with
   | .tmp t=>some (zo qQ m t).1
   | .cell a t=>(match (zo qQ m a).1 with
    | .loc i off=>(match zu qQ m i,aggT P t with
     | some (.cells cs ty),some true=>(match sizeT P t with | some n=>bif Nat.blt ty 1000000000 && Nat.ble (off + n) cs.length then some (.agg ((cs.drop off).take n)) else none | none=>none)
     | some (.cells cs ty),some false=>bif Nat.blt ty 1000000000 then cs[off]? else none
     | _,_=>none)
    | _=>none)),zn3 (P:=P) m rs with
  | some v,some vs=>some (v :: vs)
  | _,_=>none
def zhg (m:Mm):Nat->Nat->Option (List yM)
 | _,0=>some []
 | i,n + 1=>match zu qQ m i,zhg m (i + 1) n with
  | some B,some bs=>bif zbx B then some (B :: bs) else none
  | _,_=>none
def zr7 {P:Program} (X:zeq P) (rs:List ResultVar) (c:Code) (a:Ann) (args:List S) (ins:List yM) {β:Type} (K:S->List yM->Option β):Option β :=
 Z8 X c a qQ ⟨YJ 0 args,ins.map some⟩ fun ex m=>match (match ex with | .ret | .normal=>true | _=>false),zn3 (P:=P) m rs,zhg m 0 ins.length with
  | true,some [v],some outs=>bif yi v then K v outs else none
  | true,some vs,some outs=>bif qc vs then K (.tup vs) outs else none
  | _,_,_=>none
end Go.X
namespace Go.X
open Go.Eng
open Go.RowKit
theorem zS {α:Type} {c:Bool} {a:Option α} {r:α} (h:(bif c then a else none) = some r):c = true/\a = some r:=by
 cases c
 ·cases h
 ·exact ⟨rfl,h⟩
theorem brS {α:Type} {b:Bool} {x y:Option α} {r:α} (h:br b x y = some r):(b = true/\x = some r) ∨ (b = false/\y = some r):=by
 cases b
 ·exact .inr ⟨rfl,h⟩
 ·exact .inl ⟨rfl,h⟩
theorem za5 {α:Type} {c:Prop} [Decidable c] {a:Option α} {r:α} (h:(if c then a else none) = some r):c/\a = some r:=by
 split at h
 ·exact ⟨‹_›,h⟩
 ·cases h
theorem yK (cs:List S):(zg cs).length = cs.length:=by rw [Ze]; simp
theorem zaj (cs:List S) (n:Nat):zg (cs.drop n) = (zg cs).drop n:=by simp [Ze,List.map_drop]
theorem zak (cs:List S) (n:Nat):zg (cs.take n) = (zg cs).take n:=by simp [Ze,List.map_take]
theorem qf (cs ds:List S):zg (cs++ds) = zg cs++zg ds:=by simp [Ze]
theorem Z9 (cs:List S) (n:Nat):(zg cs)[n]? = (cs[n]?).map toV:=by simp [Ze]
theorem Yz (cs:List S) (o n:Nat):zg ((cs.drop o).take n) = ((zg cs).drop o).take n:=by rw [zak,zaj]
theorem zhh (v:Value):toV (zhb v) = Yh v:=by
 unfold zhb
 split
 case h_3 =>
  simp only [Yh]
  rename_i s
  by_cases hc:s.size <= maxLen
  ·rw [if_pos hc,Nat.ble_eq_true_of_le hc]; simp [toV]
  ·have:Nat.ble s.size maxLen = false:=by
    cases hb:Nat.ble s.size maxLen
    ·rfl
    ·exact absurd (zvN hb) hc
   rw [if_neg hc,this]; simp [toV]
 all_goals first
  | (simp [Yh,toV,zg]; done)
  | (unfold Yh; split <;> simp_all [toV,zg])
theorem zeu (v:Value):toV (zaH v) = qv v:=by
 unfold zaH
 split
 ·rename_i cs
  simp only [qv]
  by_cases h:cs.toList.all (fun x=>x.oneCell') = true
  ·rw [if_pos h,h]; simp only [cond_true,toV,Ze,List.map_map]
   congr 1
   exact List.map_congr_left fun x _=>zhh x
  ·rw [if_neg h]
   rw [Bool.not_eq_true] at h
   rw [h]; simp [toV]
 ·simp only [qv,toV,Ze,List.map_map]
  congr 1
  exact List.map_congr_left fun x _=>zhh x
 ·rename_i h1 h2
  rw [zhh]
  cases v <;> first | rfl | (exact absurd rfl (h1 _)) | (exact absurd rfl (h2 _))
theorem ze1 (vs:List Value):zg (vs.map zaH) = vs.map qv:=by
 rw [Ze,List.map_map]
 exact List.map_congr_left fun x _=>zeu x
theorem zh (ro:RO) (m:Mm) (x:Operand):toV (evalX ro m x) = (za ro m).eval x:=by
 cases x with
 | tmp t=>rfl
 | const v=>exact zeu v
 | global g =>
  simp only [evalX,toV,St.eval]
  cases GL g <;> rfl
 | func f=>simp [evalX,toV,zg,St.eval]
theorem zbz (ro:RO) (m:Mm) (xs:List Operand):zg (xs.map (evalX ro m)) = xs.map (za ro m).eval:=by
 rw [Ze,List.map_map]
 exact List.map_congr_left fun x _=>zh ro m x
theorem zn4 (ro:RO) (m:Mm) (x:Operand):zs8 ro m x = (za ro m).tokOf x:=by
 cases x <;> rfl
theorem zr8 (x:IV):(QT x).csize = some 1:=by cases x <;> rfl
theorem zbV (x:IV):(QT x).cellsL = [QT x]:=by cases x <;> rfl
theorem Ql {s:S} {n:Nat} (h:zbu s = some n):(toV s).csize = some n:=by
 cases s <;> simp only [zbu,zvO,reduceCtorEq] at h <;> subst h <;> first | (simp only [toV]; exact zr8 _) | simp [toV,V.csize,yK]
theorem zal {s:S} {n:Nat} (h:zbu s = some n):zg (qp s) = (toV s).cellsL:=by
 cases s <;> simp only [zbu,zvO,reduceCtorEq] at h <;> first | (simp only [toV,zg,qp]; exact (zbV _).symm) | simp [toV,zg,V.cellsL,qp]
theorem zr9 (c:C) (x:den c):zbu (refl c x) = some (csz c):=by
 cases c <;> rfl
theorem Yl (c:C) (x:den c):zg (qp (refl c x)) = (enc c x).cellsL:=by
 rw [zal (zr9 c x),y6]
theorem QG (c:C) (x:den c):yi (refl c x) = true:=by
 cases c <;> rfl
theorem zaJ (v:Value):(Yh v).noLoc = true:=by
 unfold Yh
 split <;> try (simp [V.noLoc,V.noLocL]; done)
 split <;> simp [V.noLoc]
theorem zbW {l:List V} (h:∀ v ∈ l,v.noLoc = true):V.noLocL l = true:=by
 induction l with
 | nil=>rfl
 | cons x l ih=>simp [V.noLocL,h x (by simp),ih fun v hv=>h v (by simp [hv])]
theorem zks (v:Value):(qv v).noLoc = true:=by
 unfold qv
 split
 ·split
  ·simp only [V.noLoc]
   refine zbW fun v hv=>?_
   obtain ⟨x,_,rfl⟩:=List.mem_map.1 hv
   exact zaJ x
  ·rfl
 ·simp only [V.noLoc]
  refine zbW fun v hv=>?_
  obtain ⟨x,_,rfl⟩:=List.mem_map.1 hv
  exact zaJ x
 ·exact zaJ _
theorem ziT (g off:Nat):(toV (.gel g off)).noLoc = true:=by
 simp only [toV]
 split
 ·simp only [V.noLoc]
  refine zbW fun v hv=>?_
  obtain ⟨x,_,rfl⟩:=List.mem_map.1 hv
  exact zks x
 ·rfl
mutual
theorem zdy:∀ s:S,yi s = true->(toV s).noLoc = true
 | .any,_=>by simp [toV,V.noLoc]
 | .un,_=>by simp [toV,V.noLoc]
 | .int _ _,_=>by simp [toV,V.noLoc]
 | .bool _,_=>by simp [toV,V.noLoc]
 | .str _,_=>by simp [toV,V.noLoc]
 | .agg cs,h=>by simp only [yi] at h; simp only [toV,V.noLoc]; exact qS cs h
 | .tup cs,h=>by simp only [yi] at h; simp only [toV,V.noLoc]; exact qS cs h
 | .loc _ _,h=>by simp [yi] at h
 | .loco _ _ _ _,h=>by simp [yi] at h
 | .elt cs _,h=>by simp only [yi] at h; simp only [toV,V.noLoc]; exact qS cs h
 | .gel g off,_=>ziT g off
 | .nilp,_=>by simp [toV,V.noLoc]
 | .lst c l,_=>by simp only [toV,V.noLoc]; exact z8 (Y0 c) l
 | .rows vs,h=>by simp only [yi] at h; simp only [toV,V.noLoc]; exact qS vs h
 | .fn _ a b,h=>by
  simp only [yi,zvL] at h; simp only [toV,V.noLoc,zvL]
  exact ⟨qS a h.1,qS b h.2⟩
 | .nilfn,_=>by simp [toV,V.noLoc]
 | .iface _ v,h=>by simp only [yi] at h; simp only [toV,V.noLoc]; exact zdy v h
 | .nilif,_=>by simp [toV,V.noLoc]
 | .mref _,h=>by simp [yi] at h
 | .nilm,_=>by simp [toV,V.noLoc]
 | .ptr _ _ _,_=>by simp [toV,V.noLoc]
 | .ivd x,_=>by simp only [toV]; exact zg1 x
theorem qS:∀ cs:List S,qc cs = true->V.noLocL (zg cs) = true
 | [],_=>by simp [zg,V.noLocL]
 | c :: cs,h=>by
  simp only [qc,zvL] at h
  simp only [zg,V.noLocL,zvL]
  exact ⟨zdy c h.1,qS cs h.2⟩
end
theorem zhi {kc vc:C} (l:List (den kc × den vc)):V.noLocL (Y7 (enc kc) (enc vc) l) = true:=by
 refine zbW fun v hv=>?_
 obtain ⟨x,_,rfl⟩:=List.mem_map.1 hv
 simp [V.noLoc,V.noLocL,Y0]
theorem zdz {B:yM} (h:zbx B = true):V.noLocL (zB B).cells = true:=by
 cases B with
 | cells cs ty=>exact qS cs h
 | map mt kc vc l=>exact zhi l
theorem zmo {ro:RO} {m:Mm} {d:Nat} {v:S} {tk:Tk} (ho:ro.own d = true):za ro ⟨m.sl.set d (v,tk),m.bx⟩ = (za ro m).put (some d) (toV v) tk:=by
 have hb:∀ i,zu ro ⟨m.sl.set d (v,tk),m.bx⟩ i = zu ro m i:=fun i=>rfl
 have hs:∀ s,zo ro ⟨m.sl.set d (v,tk),m.bx⟩ s = if s = d then (v,tk) else zo ro m s:=by
  intro s
  unfold zo
  by_cases h:s = d
  ·subst h; rw [ho,if_pos rfl]; simp [T.get_set]
  ·rw [if_neg h]; simp [T.get_set,h]
 unfold za St.put
 simp only [hb,hs]
 congr 1
 funext s
 unfold upd
 split <;> rfl
variable {β:Type}
theorem zj {ro:RO} {m:Mm} {dst:Option Nat} {v:S} {tk:Tk} {k:Mm->Option β} {r:β} (h:qu ro m dst v tk k = some r) :
  ∃ m',(za ro m).put dst (toV v) tk = za ro m'/\k m' = some r:=by
 unfold qu at h
 split at h
 ·exact ⟨m,rfl,h⟩
 ·rename_i d
  obtain ⟨h1,h2⟩:=zS h
  exact ⟨_,(zmo h1).symm,h2⟩
section
variable {P:Program} {code:TypeId->Option C} {ro:RO} {m:Mm} {r:β} {K:S->Option β} {Kp:V->Prop} {K2:S->Tk->Option β} {K2p:V->Tk->Prop}
theorem zpV {k:IntKind} {a b n:Int} (h:qg k a b = some n):InR k (a + b)/\n = a + b:=by
 obtain ⟨h1,h2⟩:=za5 h; cases h2; exact ⟨h1,rfl⟩
theorem ziU {k:IntKind} {a b n:Int} (h:zmg k a b = some n):InR k (a - b)/\n = a - b:=by
 obtain ⟨h1,h2⟩:=za5 h; cases h2; exact ⟨h1,rfl⟩
theorem zpW {k:IntKind} {a b n:Int} (h:zu0 k a b = some n):InR k (a * b)/\n = a * b:=by
 obtain ⟨h1,h2⟩:=za5 h; cases h2; exact ⟨h1,rfl⟩
theorem zpX {k:IntKind} {a b n:Int} (h:za4 k a b = some n):(b ≠ 0/\InR k (a.tdiv b))/\n = a.tdiv b:=by
 obtain ⟨h1,h2⟩:=za5 h; cases h2; exact ⟨h1,rfl⟩
theorem zpY {a b n:Int} (h:zfq a b = some n):b ≠ 0/\n = a.tmod b:=by
 obtain ⟨h1,h2⟩:=za5 h; cases h2; exact ⟨h1,rfl⟩
theorem zpZ {s t n:List UInt8} (h:qa s t = some n):s.length + t.length <= maxLen/\n = s++t:=by
 obtain ⟨h1,h2⟩:=za5 h; cases h2; exact ⟨h1,rfl⟩
theorem Ya {α:Type} {l q:List α} {lo hi:Int} (h:slc l lo hi = some q):(0 <= lo/\lo <= hi/\hi <= l.length)/\q = (l.take hi.toNat).drop lo.toNat:=by
 obtain ⟨h1,h2⟩:=za5 h; cases h2; exact ⟨h1,rfl⟩
theorem Qm {α:Type} {l:List α} {i:Int} {x:α} (h:idx l i = some x):0 <= i/\i < l.length/\l[i.toNat]? = some x:=by
 obtain ⟨h1,h2⟩:=za5 h
 have:=(List.getElem?_eq_some_iff.1 h2).1
 exact ⟨h1,by omega,h2⟩
theorem zam {c:C}:∀ {ss:List S} {l:List (den c)},QC c ss = some l->zg ss = l.map (enc c)
 | [],l,h=>by simp only [QC,zvO] at h; subst h; simp [zg]
 | s :: ss,l,h=>by
  simp only [QC] at h
  split at h
  ·rename_i x hx
   split at h
   ·rename_i xs hxs
    cases h
    simp only [zg,List.map_cons,zV hx,zam hxs]
   ·cases h
  ·cases h
theorem ziV {c:C} {g off n:Nat} {x:den c} (h:zmh c g off n = some x):∃ vs,GL g = some vs/\off + n <= vs.length/\V.agg (((vs.map qv).drop off).take n) = enc c x:=by
 unfold zmh at h
 split at h
 ·rename_i vs hg
  obtain ⟨h1,h2⟩:=za5 h
  refine ⟨vs,hg,h1,?_⟩
  rw [<- zV h2]
  simp only [toV,Yz,ze1]
 ·cases h
theorem zp0 {c:C} {g off:Nat} {x:den c} (h:zuj c g off = some x):∃ vs,GL g = some vs/\(vs.map qv)[off]? = some (enc c x):=by
 unfold zuj at h
 split at h
 ·rename_i vs hg
  split at h
  ·rename_i s hs
   refine ⟨vs,hg,?_⟩
   rw [<- ze1,Z9,hs,Option.map_some,zV h]
  ·cases h
 ·cases h
theorem zbA {t:TypeId} {x:S} (hK:∀ s,K s = some r->Kp (toV s)) (h:zmi P code ro m t x K = some r):ZU P t (za ro m).box (toV x) Kp:=by
 unfold zmi at h
 split at h
 ·rename_i cs off ha
  split at h
  ·rename_i n hs
   obtain ⟨h1,h2⟩:=zS h
   simp only [toV,ZU,ha,hs]
   refine ⟨by rw [yK]; exact zvN h1,?_⟩
   have:=hK _ h2
   simpa only [toV,Yz] using this
  ·cases h
 ·rename_i cs off ha
  split at h
  ·rename_i c hc
   simp only [toV,ZU,ha,Z9,hc,Option.map_some]
   exact hK _ h
  ·cases h
 ·rename_i i off ha
  split at h
  ·rename_i cs ty n hB hs
   obtain ⟨h1,h2⟩:=zS h
   simp only [zvL] at h1
   have hb:(za ro m).box i = some ⟨zg cs,ty⟩:=by show (zu ro m i).map zB = _; rw [hB]; rfl
   simp only [toV,ZU,ha,hb,hs]
   refine ⟨zvN h1.1,by rw [yK]; exact zvN h1.2,?_⟩
   have:=hK _ h2
   simpa only [toV,Yz] using this
  ·cases h
 ·rename_i i off ha
  split at h
  ·rename_i cs ty hB
   obtain ⟨h1,h2⟩:=zS h
   have hb:(za ro m).box i = some ⟨zg cs,ty⟩:=by show (zu ro m i).map zB = _; rw [hB]; rfl
   split at h2
   ·rename_i c hc
    simp only [toV,ZU,ha,hb,Z9,hc,Option.map_some]
    exact ⟨zvN h1,hK _ h2⟩
   ·cases h2
  ·cases h
 ·rename_i i a n ix ha
  split at h
  ·rename_i cs ty c hB hc
   obtain ⟨h1,h2⟩:=zS h
   simp only [zvL] at h1
   have hb:(za ro m).box i = some ⟨zg cs,ty⟩:=by show (zu ro m i).map zB = _; rw [hB]; rfl
   split at h2
   ·rename_i l hl
    obtain ⟨y,h3,h4⟩:=bind_some h2
    obtain ⟨q1,q2,q3⟩:=Qm h3
    have hle:=zvN h1.2
    have hseg:=zam hl
    have hlen:l.length = n:=by
     have:=congrArg List.length hseg
     rw [yK,List.length_map,List.length_take,List.length_drop] at this
     omega
    have hget:(zg cs)[a + ix.toNat]? = some (enc c y):=by
     have:((zg ((cs.drop a).take n)))[ix.toNat]? = some (enc c y):=by rw [hseg,List.getElem?_map,q3]; rfl
     rw [Yz,List.getElem?_take,if_pos (by omega),List.getElem?_drop] at this
     exact this
    simp only [toV,ZU,ha,hb,hget]
    refine ⟨zvN h1.1,?_⟩
    rw [<- y6]
    exact hK _ h4
   ·cases h2
  ·cases h
 ·rename_i g off ha
  split at h
  ·rename_i n c hs hc
   obtain ⟨y,h1,h2⟩:=bind_some h
   obtain ⟨vs,q1,q2,q3⟩:=ziV h1
   simp only [toV,q1,ZU,ha,hs]
   refine ⟨by simpa using q2,?_⟩
   rw [q3,<- y6]
   exact hK _ h2
  ·cases h
 ·rename_i g off ha
  split at h
  ·rename_i c hc
   obtain ⟨y,h1,h2⟩:=bind_some h
   obtain ⟨vs,q1,q2⟩:=zp0 h1
   simp only [toV,q1,ZU,ha,q2]
   rw [<- y6]
   exact hK _ h2
  ·cases h
 ·cases h
theorem zn5 {op:BinOp} {k:IntKind} {a b:Int} (hK:∀ s,K s = some r->Kp (toV s)) (h:zul op k a b K = some r):zql op k a b Kp:=by
 have hK':∀ s v,K s = some r->toV s = v->Kp v:=fun s v h e=>e ▸ hK s h
 cases op <;> simp only [zul,reduceCtorEq] at h
 case add=>obtain ⟨n,h1,h2⟩:=bind_some h; obtain ⟨q1,rfl⟩:=zpV h1; exact ⟨q1,hK' _ _ h2 (by simp [toV])⟩
 case sub=>obtain ⟨n,h1,h2⟩:=bind_some h; obtain ⟨q1,rfl⟩:=ziU h1; exact ⟨q1,hK' _ _ h2 (by simp [toV])⟩
 case mul=>obtain ⟨n,h1,h2⟩:=bind_some h; obtain ⟨q1,rfl⟩:=zpW h1; exact ⟨q1,hK' _ _ h2 (by simp [toV])⟩
 case quo=>obtain ⟨n,h1,h2⟩:=bind_some h; obtain ⟨q1,rfl⟩:=zpX h1; exact ⟨q1.1,q1.2,hK' _ _ h2 (by simp [toV])⟩
 case rem=>obtain ⟨n,h1,h2⟩:=bind_some h; obtain ⟨q1,rfl⟩:=zpY h1; exact ⟨q1,hK' _ _ h2 (by simp [toV])⟩
 all_goals exact hK' _ _ h (by simp [toV])
theorem zn6 {op:BinOp} {a b:List UInt8} (hK:∀ s,K s = some r->Kp (toV s)) (h:zum op a b K = some r):zqm op a b Kp:=by
 have hK':∀ s v,K s = some r->toV s = v->Kp v:=fun s v h e=>e ▸ hK s h
 cases op <;> simp only [zum,reduceCtorEq] at h
 case add=>obtain ⟨n,h1,h2⟩:=bind_some h; obtain ⟨q1,rfl⟩:=zpZ h1; exact ⟨q1,hK' _ _ h2 (by simp [toV])⟩
 all_goals exact hK' _ _ h (by simp [toV])
theorem zhj {a b:S} {k k':CK} (ha:ze0 a = some k) (hb:ze0 b = some k'):YC (toV a) (toV b) = zfE a b:=by
 cases a <;> simp only [ze0,reduceCtorEq] at ha <;> cases b <;> simp only [ze0,reduceCtorEq] at hb <;> simp [toV,YC,zfE]
theorem zp1 {a b:CK} (h:zpT a b = true):a = b:=by
 cases a <;> cases b <;> simp_all [zpT]
theorem zth {a:S} {k:CK} (h:ze0 a = some k):YL (toV a) = some k:=by
 cases a <;> simp only [ze0,reduceCtorEq] at h <;> simpa [toV,YL] using h
theorem zbB {k:CK} {ks:List CK} {c:S} {cs:List S} (h:qK (k :: ks) (c :: cs) = true):ze0 c = some k/\qK ks cs = true:=by
 simp only [qK,zvL] at h
 refine ⟨?_,h.2⟩
 have h1:=h.1
 split at h1
 ·rename_i k' hk; rw [hk,zp1 h1]
 ·cases h1
theorem zbC:∀ {ks:List CK} {cs:List S},qK ks cs = true->Zy ks (zg cs)
 | [],[],_=>by simp [zg,Zy]
 | [],_ :: _,h=>by simp [qK] at h
 | _ :: _,[],h=>by simp [qK] at h
 | k :: ks,c :: cs,h=>by
  obtain ⟨h1,h2⟩:=zbB h
  simp only [zg,Zy]
  exact ⟨zth h1,zbC h2⟩
theorem zsa:∀ {ks:List CK} {cs ds:List S},qK ks cs = true->qK ks ds = true->eqV (zg cs) (zg ds) = eqS cs ds
 | [],[],[],_,_=>by simp [zg,eqV,eqS]
 | [],_ :: _,_,h,_=>by simp [qK] at h
 | [],[],_ :: _,_,h=>by simp [qK] at h
 | _ :: _,[],_,h,_=>by simp [qK] at h
 | _ :: _,_ :: _,[],_,h=>by simp [qK] at h
 | k :: ks,c :: cs,d :: ds,h1,h2=>by
  obtain ⟨a1,a2⟩:=zbB h1
  obtain ⟨b1,b2⟩:=zbB h2
  have ih:=zsa a2 b2
  cases cs with
  | nil =>
   cases ds with
   | nil=>simp only [zg,eqV,eqS]; exact zhj a1 b1
   | cons d' ds=>cases ks <;> simp [qK] at a2 b2
  | cons c' cs =>
   cases ds with
   | nil=>cases ks <;> simp [qK] at a2 b2
   | cons d' ds =>
    simp only [zg] at ih ⊢
    rw [eqV,eqS,ih,zhj a1 b1]
    ·simp
    ·simp
theorem zn7 {op:BinOp} {xT:TypeId} {a b:S} (hK:∀ s,K s = some r->Kp (toV s)) (h:zun P op xT a b K = some r):zeB P op xT (toV a) (toV b) Kp:=by
 have hK':∀ s v,K s = some r->toV s = v->Kp v:=fun s v h e=>e ▸ hK s h
 unfold zun at h
 split at h
 ·rename_i k x k' y
  simp only [toV,zeB]
  cases hs:zuk op with
  | true =>
   rw [hs] at h
   simp only [cond_true] at h
   right
   unfold shX at h
   unfold ztC
   cases op <;> simp only [zuk,Bool.false_eq_true] at hs
   ·obtain ⟨n,h1,h2⟩:=bind_some h
    obtain ⟨h3,h4⟩:=za5 h1
    cases h4
    exact ⟨h3,hK' _ _ h2 (by simp [toV])⟩
   ·obtain ⟨n,h1,h2⟩:=bind_some h
    obtain ⟨h3,h4⟩:=za5 h1
    cases h4
    exact ⟨h3,hK' _ _ h2 (by simp [toV])⟩
  | false =>
   rw [hs] at h
   simp only [cond_false] at h
   obtain ⟨h1,h2⟩:=za5 h
   exact .inl ⟨h1,zn5 hK h2⟩
 ·simp only [toV,zeB]
  exact zn6 hK h
 ·simp only [toV,zeB]
  split at h
  ·rename_i hb; simp only [hb]; exact hK' _ _ h (by simp [toV])
  ·rename_i hb; simp only [hb]; exact hK' _ _ h (by simp [toV])
  ·cases h
 ·rename_i cs ds
  simp only [toV,zeB]
  split at h
  ·rename_i ks hk
   obtain ⟨h1,h2⟩:=zS h
   simp only [zvL] at h1
   simp only [hk]
   exact ⟨zbC h1.1,zbC h1.2,hK' _ _ h2 (by simp [toV,zsa h1.1 h1.2])⟩
  ·rename_i ks hk
   obtain ⟨h1,h2⟩:=zS h
   simp only [zvL] at h1
   simp only [hk]
   exact ⟨zbC h1.1,zbC h1.2,hK' _ _ h2 (by simp [toV,zsa h1.1 h1.2])⟩
  ·cases h
 ·cases h
theorem zp2 {op:UnOp} {x:S} (hK:∀ s,K s = some r->Kp (toV s)) (h:unX op x K = some r):zqn op (toV x) Kp:=by
 have hK':∀ s v,K s = some r->toV s = v->Kp v:=fun s v h e=>e ▸ hK s h
 unfold unX at h
 split at h
 ·simp only [toV,zqn]; exact hK' _ _ h (by simp [toV])
 ·obtain ⟨n,h1,h2⟩:=bind_some h
  obtain ⟨q1,rfl⟩:=ziU h1
  simp only [toV,zqn]; exact ⟨q1,hK' _ _ h2 (by simp [toV])⟩
 ·cases h
theorem zmp (s:List UInt8):(yy s).map (enc .u8) = yS s:=by
 simp [yy,yS,enc,zgW]
theorem zp3 {l:List Int} {s:List UInt8} (h:Z6 l = some s):l.map (enc .u8) = yS s:=by
 obtain ⟨h1,h2⟩:=za5 h
 cases h2
 simp only [yS,List.map_map]
 refine List.map_congr_left fun n hn=>?_
 have:=List.all_eq_true.1 h1 n hn
 simp only [zvL,decide_eq_true_eq] at this
 simp only [enc,zgW,Function.comp]
 congr 1
 have h3:n.toNat < 256:=by omega
 rw [UInt8.toNat_ofNat',Nat.mod_eq_of_lt h3]
 omega
theorem zmq {s d:TypeId} {x:S} (hK:∀ s,K s = some r->Kp (toV s)) (h:zrZ P s d x K = some r):za6 P s d (toV x) Kp:=by
 have hK':∀ s v,K s = some r->toV s = v->Kp v:=fun s v h e=>e ▸ hK s h
 unfold zrZ at h
 split at h
 ·rename_i h1 h2
  simp only [toV,za6,h1,h2]; exact hK' _ _ h (by simp [toV])
 ·rename_i h1 h2
  simp only [toV,za6,h1,h2]; exact hK' _ _ h (by simp [toV])
 ·rename_i h1 h2
  split at h
  ·rename_i e he
   split at h
   ·rename_i hb
    simp only [toV,za6,h1,h2,he,hb]
    refine hK' _ _ h ?_
    simp only [toV]
    rw [zmp]
   ·cases h
  ·cases h
 ·rename_i h1 h2
  split at h
  ·rename_i e he
   split at h
   ·rename_i hb
    obtain ⟨y,h3,h4⟩:=bind_some h
    simp only [toV,za6,h1,h2,he,hb]
    exact ⟨y,zp3 h3,hK' _ _ h4 (by simp [toV])⟩
   ·cases h
  ·cases h
 ·cases h
theorem Ym {x:Option Operand} {d:Nat} {Ki:Int->Option β} {Kn:Nat->Prop} (hK:∀ i,Ki i = some r->0 <= i/\Kn i.toNat) (h:zcE ro m x d Ki = some r):Qr (za ro m) x d Kn:=by
 unfold zcE at h
 unfold Qr
 cases x with
 | none=>have:=(hK _ h).2; simpa using this
 | some x =>
  simp only at h ⊢
  rw [<- zh]
  split at h
  ·rename_i k i hi; simp only [hi,toV]; exact hK _ h
  ·cases h
theorem Zg {t:TypeId} {c:C} {e:TypeId} {n:Nat} (h:zcf P t c = some (e,n)):yZ P t = some e/\sizeT P e = some n/\n = csz c:=by
 unfold zcf at h
 split at h
 ·rename_i e' he
  split at h
  ·rename_i n' hn
   obtain ⟨h1,h2⟩:=zS h
   cases h2
   exact ⟨he,hn,Nat.eq_of_beq_eq_true h1⟩
  ·cases h
 ·cases h
theorem yq (c:C) (l:List (den c)):yL (csz c) (l.map (enc c)):=by
 intro v hv
 obtain ⟨x,_,rfl⟩:=List.mem_map.1 hv
 exact ziG c x
theorem zdA {t:TypeId} {x:S} {lo hi mx:Option Operand} {dst:Option Nat} (hK:∀ s tk,K2 s tk = some r->K2p (toV s) tk) (h:zkb P ro m t x lo hi mx dst K2 = some r) :
  ZW P t (za ro m) (toV x) lo hi mx dst K2p:=by
 have hK':∀ s tk v,K2 s tk = some r->toV s = v->K2p v tk:=fun s tk v h e=>e ▸ hK s tk h
 unfold zkb at h
 split at h
 ·rename_i s
  split at h
  ·rename_i hb
   simp only [toV,ZW,hb]
   refine Ym (fun a ha=>?_) h
   have hb2:Qr (za ro m) hi _ _:=Ym (Kn:=fun h=>a.toNat <= h/\h <= s.length/\K2p (.str ((List.take h s).drop a.toNat)) none) (fun b hb=>?_) ha
   ·refine ⟨?_,hb2⟩
    rcases hi with _ | hi
    ·simp only [zcE] at ha
     obtain ⟨y,h1,_⟩:=bind_some ha
     exact (Ya h1).1.1
    ·simp only [zcE] at ha
     split at ha
     ·obtain ⟨y,h1,_⟩:=bind_some ha
      exact (Ya h1).1.1
     ·cases ha
   ·obtain ⟨y,h1,h2⟩:=bind_some hb
    obtain ⟨⟨q1,q2,q3⟩,rfl⟩:=Ya h1
    exact ⟨by omega,by omega,by omega,hK' _ _ _ h2 (by simp [toV])⟩
  ·cases h
 ·rename_i c l
  split at h
  ·rename_i en he
   obtain ⟨e,n⟩:=en
   obtain ⟨e1,e2,rfl⟩:=Zg he
   simp only [toV,ZW,e1,e2]
   refine ⟨yq c l,?_⟩
   refine Ym (fun a ha=>?_) h
   rw [List.length_map]
   have hb2:Qr (za ro m) hi _ _:=Ym (Kn:=fun h=>a.toNat <= h/\h <= l.length/\K2p (.list ((List.take h (l.map (enc c))).drop a.toNat)) none) (fun b hb=>?_) ha
   ·refine ⟨?_,hb2⟩
    rcases hi with _ | hi
    ·simp only [zcE] at ha
     obtain ⟨y,h1,_⟩:=bind_some ha
     exact (Ya h1).1.1
    ·simp only [zcE] at ha
     split at ha
     ·obtain ⟨y,h1,_⟩:=bind_some ha
      exact (Ya h1).1.1
     ·cases ha
   ·obtain ⟨y,h1,h2⟩:=bind_some hb
    obtain ⟨⟨q1,q2,q3⟩,rfl⟩:=Ya h1
    exact ⟨by omega,by omega,by omega,hK' _ _ _ h2 (by simp [toV,List.map_drop,List.map_take])⟩
  ·cases h
 ·rename_i c l mx
  split at h
  ·rename_i e n hi he
   obtain ⟨e1,e2,rfl⟩:=Zg he
   simp only [toV,ZW,e1,e2]
   refine ⟨yq c l,?_⟩
   refine Ym (fun a ha=>?_) h
   rw [List.length_map]
   have h0:0 <= a:=by
    simp only [zcE] at ha
    split at ha
    ·split at ha
     ·rcases brS ha with ⟨_,ha⟩ | ⟨_,ha⟩
      ·obtain ⟨y,h1,_⟩:=bind_some ha
       exact (Ya h1).1.1
      ·cases ha
     ·cases ha
    ·cases ha
   refine ⟨h0,Ym (fun b hb=>?_) ha⟩
   have hb':=hb
   simp only [zcE] at hb
   split at hb
   ·rename_i kk i hi'
    rcases brS hb with ⟨q0,hb⟩ | ⟨_,hb⟩
    ·obtain ⟨y,h1,h2⟩:=bind_some hb
     obtain ⟨⟨q1,q2,q3⟩,rfl⟩:=Ya h1
     simp only [decide_eq_true_eq] at q0
     subst q0
     refine ⟨by omega,?_⟩
     unfold Qr
     simp only
     rw [<- zh,hi']
     simp only [toV]
     exact ⟨by omega,trivial,by omega,by omega,hK' _ _ _ h2 (by simp [toV,List.map_drop,List.map_take])⟩
    ·cases hb
   ·cases hb
  ·cases h
 ·cases h
theorem ziW {c:C} {g n:Nat}:∀ {k off:Nat} {l:List (den c)},zrY c g n k off = some l->0 < k->∃ vs,GL g = some vs/\off + k * n <= vs.length/\YB n k ((vs.map qv).drop off) = l.map (enc c)
 | 0,_,_,_,h0=>absurd h0 (by omega)
 | k + 1,off,l,h,_=>by
  simp only [zrY] at h
  split at h
  ·rename_i x l' h1 h2
   cases h
   obtain ⟨vs,q1,q2,q3⟩:=ziV h1
   by_cases hk:0 < k
   ·obtain ⟨vs',r1,r2,r3⟩:=ziW h2 hk
    rw [q1] at r1; cases r1
    refine ⟨vs,q1,by rw [Nat.add_mul]; omega,?_⟩
    simp only [YB,List.map_cons,q3,List.drop_drop,r3]
   ·obtain rfl:k = 0:=by omega
    simp only [zrY,zvO] at h2
    subst h2
    refine ⟨vs,q1,by omega,?_⟩
    simp only [YB,List.map_cons,q3,List.map_nil]
  ·cases h
theorem zh0 {t:TypeId} {x:S} {lo hi mx:Option Operand} {dst:Option Nat} (hK:∀ s tk,K2 s tk = some r->K2p (toV s) tk) (h:zkc P code ro m t x lo hi mx dst K2 = some r) :
  ZW P t (za ro m) (toV x) lo hi mx dst K2p:=by
 unfold zkc at h
 split at h
 ·rename_i g a
  split at h
  ·rename_i len e hT
   split at h
   ·rename_i n c hs hc
    obtain ⟨h1,h2⟩:=zS h
    simp only [zvL] at h1
    obtain ⟨y,h3,h4⟩:=bind_some h2
    have hl0:0 < len:=zvN h1.2
    obtain ⟨vs,q1,q2,q3⟩:=ziW h3 hl0
    simp only [toV,q1,ZW,hT,hs]
    refine ⟨by simpa using q2,zvN h1.1.2,hl0,?_⟩
    rw [q3]
    have:=hK _ _ h4
    simpa only [toV] using this
   ·cases h
  ·cases h
 ·exact zdA hK h
theorem zkt {s:TypeId} {i:Nat} {x:S} (hK:∀ s,K s = some r->Kp (toV s)) (h:znQ P s i x K = some r):zft P s i (toV x) Kp:=by
 have hK':∀ s v,K s = some r->toV s = v->Kp v:=fun s v h e=>e ▸ hK s h
 unfold znQ at h
 unfold zft
 split at h
 ·rename_i off t hf
  simp only [hf]
  split at h
  ·rename_i n hs
   simp only [hs]
   cases hn:Nat.beq n 0 with
   | true=>rw [hn] at h; cases h
   | false =>
    rw [hn] at h
    have hn':n ≠ 0:=fun e=>by subst e; cases hn
    simp only [cond_false] at h
    refine ⟨hn',?_⟩
    split at h
    ·simp only [toV]; exact hK' _ _ h (by simp [toV])
    ·simp only [toV]; exact hK' _ _ h (by simp [toV])
    ·rename_i g a
     split at h
     ·rename_i vs hv
      simp only [toV,hv]
      exact hK' _ _ h (by simp [toV,hv])
     ·cases h
    ·cases h
  ·cases h
 ·cases h
end
end Go.X
