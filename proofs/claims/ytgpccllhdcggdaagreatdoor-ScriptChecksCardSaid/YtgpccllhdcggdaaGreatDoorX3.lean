import Derived.Test.YtgpccllhdcggdaaGreatDoorE16
open Bool renaming and_eq_true -> zyL
open Nat renaming le_of_ble_eq_true -> zyN
open Option.some renaming injEq -> zyO
set_option linter.unusedSimpArgs false
set_option linter.unusedVariables false
noncomputable section
namespace Go.X
open Go.Eng
open Go.RowKit
structure ID where
 Node:Int
 Seq:Int
 Off:Int
 deriving DecidableEq,Inhabited,Repr
structure Contact where
 From:Int
 To:Int
 Start:Int
 End:Int
 Rate:Int
 Delay:Int
 deriving DecidableEq,Inhabited,Repr
structure Outc where
 Tick:Int
 Node:Int
 Kind:Int
 ID:ID
 Other:Int
 deriving DecidableEq,Inhabited,Repr
structure Word where
 At:Int
 Key:List UInt8
 Text:List UInt8
 deriving DecidableEq,Inhabited,Repr
structure Row where
 At:Int
 Words:List (Word)
 deriving DecidableEq,Inhabited,Repr
structure Fault where
 Err:Int
 At:Int
 deriving DecidableEq,Inhabited,Repr
structure Bundle where
 ID:ID
 Dest:Int
 Prio:Int
 Born:Int
 Life:Int
 Total:Int
 Data:List UInt8
 deriving DecidableEq,Inhabited,Repr
structure Command where
 Kind:Int
 Node:Int
 Other:Int
 N:Int
 At:Int
 By:Int
 Bundle:Bundle
 deriving DecidableEq,Inhabited,Repr
structure W3 where
 a:Int
 b:Int
 c:Int
 deriving DecidableEq,Inhabited,Repr
structure Config where
 Node:Int
 Quota:Int
 Largest:Int
 Window:Int
 Low:Int
 Retry:Int
 RetryMax:Int
 Bypass:Int
 Weights:List Int
 RateN:Int
 RateD:Int
 Burst:Int
 Blocks:Int
 Rate:Int
 deriving DecidableEq,Inhabited,Repr
structure Script where
 Configs:List (Config)
 Plan:List (Contact)
 Commands:List (Command)
 deriving DecidableEq,Inhabited,Repr
structure U3 where
 a:Int
 b:Int
 c:Int
 deriving DecidableEq,Inhabited,Repr
structure Pair where
 a:Int
 b:Int
 deriving DecidableEq,Inhabited,Repr
structure Use where
 word:List UInt8
 node:Bool
 other:Bool
 low:Int
 n:Int
 at_:Int
 by_:Int
 bndl:Bool
 deriving DecidableEq,Inhabited,Repr
structure RUse where
 word:List UInt8
 node:Bool
 other:Bool
 n:Bool
 at_:Bool
 by_:Bool
 b:Bool
 least:Int
 most:Int
 far:Int
 deriving DecidableEq,Inhabited,Repr
structure BI where
 used:Bool
 n:Int
 deriving DecidableEq,Inhabited,Repr
inductive IV where
 | int (t:Nat) (n:Int)
 | id (t:Nat) (x:ID)
 deriving DecidableEq,Inhabited,Repr
inductive C where
 | i64 | u64 | i32 | u32 | u8 | i16 | u16 | i8 | bool | str | iv | a3_i64 | a6_i64 | ID | Contact | Outc | Word | Row | Fault | Bundle | Command | W3 | Config | Script | U3 | Pair | Use | RUse | BI | l_W3 | l_U3 | l_Contact | l_Word | l_Row | l_Command | l_Config | l_Use | l_BI | l_u8 | l_i64 | l_u64 | l_str | l_Pair
 deriving DecidableEq
@[reducible] def den:C->Type
 | .i64=>Int
 | .u64=>Int
 | .i32=>Int
 | .u32=>Int
 | .u8=>Int
 | .i16=>Int
 | .u16=>Int
 | .i8=>Int
 | .bool=>Bool
 | .str=>List UInt8
 | .iv=>IV
 | .a3_i64=>List Int
 | .a6_i64=>List Int
 | .ID=>ID
 | .Contact=>Contact
 | .Outc=>Outc
 | .Word=>Word
 | .Row=>Row
 | .Fault=>Fault
 | .Bundle=>Bundle
 | .Command=>Command
 | .W3=>W3
 | .Config=>Config
 | .Script=>Script
 | .U3=>U3
 | .Pair=>Pair
 | .Use=>Use
 | .RUse=>RUse
 | .BI=>BI
 | .l_W3=>List (W3)
 | .l_U3=>List (U3)
 | .l_Contact=>List (Contact)
 | .l_Word=>List (Word)
 | .l_Row=>List (Row)
 | .l_Command=>List (Command)
 | .l_Config=>List (Config)
 | .l_Use=>List (Use)
 | .l_BI=>List (BI)
 | .l_u8=>List (Int)
 | .l_i64=>List (Int)
 | .l_u64=>List (Int)
 | .l_str=>List (List UInt8)
 | .l_Pair=>List (Pair)
def Yp:Int->V:=fun x=>.int .i64 x
def zlb:Int->V:=fun x=>.int .u64 x
def zqu:Int->V:=fun x=>.int .i32 x
def zqv:Int->V:=fun x=>.int .u32 x
def zhC:Int->V:=fun x=>.int .u8 x
def zqw:Int->V:=fun x=>.int .i16 x
def zqx:Int->V:=fun x=>.int .u16 x
def zt9:Int->V:=fun x=>.int .i8 x
def zm4:Bool->V:=fun x=>.bool x
def zdU:List UInt8->V:=fun x=>.str x
def zaj:IV->V
 | .int t n=>.iface t (.int .i64 n)
 | .id t x=>.iface t (.agg [.int .i64 x.Node,.int .u64 x.Seq,.int .i64 x.Off])
def zcX:List Int->V:=fun x=>.agg [.int .i64 (x.getD 0 0),.int .i64 (x.getD 1 0),.int .i64 (x.getD 2 0)]
def zcY:List Int->V:=fun x=>.agg [.int .i64 (x.getD 0 0),.int .i64 (x.getD 1 0),.int .i64 (x.getD 2 0),.int .i64 (x.getD 3 0),.int .i64 (x.getD 4 0),.int .i64 (x.getD 5 0)]
def zeO:ID->V:=fun x=>.agg [.int .i64 x.Node,.int .u64 x.Seq,.int .i64 x.Off]
def Zj:Contact->V:=fun x=>.agg [.int .i64 x.From,.int .i64 x.To,.int .i64 x.Start,.int .i64 x.End,.int .i64 x.Rate,.int .i64 x.Delay]
def zaB:Outc->V:=fun x=>.agg [.int .i64 x.Tick,.int .i64 x.Node,.int .i64 x.Kind,.int .i64 x.ID.Node,.int .u64 x.ID.Seq,.int .i64 x.ID.Off,.int .i64 x.Other]
def zbU:Word->V:=fun x=>.agg [.int .i64 x.At,.str x.Key,.str x.Text]
def zeP:Fault->V:=fun x=>.agg [.int .i64 x.Err,.int .i64 x.At]
def zcZ:Bundle->V:=fun x=>.agg [.int .i64 x.ID.Node,.int .u64 x.ID.Seq,.int .i64 x.ID.Off,.int .i64 x.Dest,.int .i64 x.Prio,.int .i64 x.Born,.int .i64 x.Life,.int .i64 x.Total,.str x.Data]
def qe:Command->V:=fun x=>.agg [.int .i64 x.Kind,.int .i64 x.Node,.int .i64 x.Other,.int .i64 x.N,.int .i64 x.At,.int .i64 x.By,.int .i64 x.Bundle.ID.Node,.int .u64 x.Bundle.ID.Seq,.int .i64 x.Bundle.ID.Off,.int .i64 x.Bundle.Dest,.int .i64 x.Bundle.Prio,.int .i64 x.Bundle.Born,.int .i64 x.Bundle.Life,.int .i64 x.Bundle.Total,.str x.Bundle.Data]
def zlc:W3->V:=fun x=>.agg [.int .i64 x.a,.int .i64 x.b,.int .i64 x.c]
def qN:Config->V:=fun x=>.agg [.int .i64 x.Node,.int .u64 x.Quota,.int .u64 x.Largest,.int .u64 x.Window,.int .u64 x.Low,.int .i64 x.Retry,.int .i64 x.RetryMax,.int .i64 x.Bypass,.int .i64 (x.Weights.getD 0 0),.int .i64 (x.Weights.getD 1 0),.int .i64 (x.Weights.getD 2 0),.int .i64 x.RateN,.int .i64 x.RateD,.int .i64 x.Burst,.int .i64 x.Blocks,.int .i64 x.Rate]
def zld:U3->V:=fun x=>.agg [.int .u64 x.a,.int .u64 x.b,.int .u64 x.c]
def QN:Pair->V:=fun x=>.agg [.int .i64 x.a,.int .i64 x.b]
def zgm:Use->V:=fun x=>.agg [.str x.word,.bool x.node,.bool x.other,.int .i64 x.low,.int .i64 x.n,.int .i64 x.at_,.int .i64 x.by_,.bool x.bndl]
def zhD:RUse->V:=fun x=>.agg [.str x.word,.bool x.node,.bool x.other,.bool x.n,.bool x.at_,.bool x.by_,.bool x.b,.int .i64 x.least,.int .i64 x.most,.int .i64 x.far]
def zle:BI->V:=fun x=>.agg [.bool x.used,.int .i64 x.n]
def zhE:List (W3)->V:=fun x=>.list (x.map zlc)
def zhF:List (U3)->V:=fun x=>.list (x.map zld)
def zak:List (Contact)->V:=fun x=>.list (x.map Zj)
def zc0:List (Word)->V:=fun x=>.list (x.map zbU)
def zal:List (Command)->V:=fun x=>.list (x.map qe)
def za3:List (Config)->V:=fun x=>.list (x.map qN)
def zeQ:List (Use)->V:=fun x=>.list (x.map zgm)
def zhG:List (BI)->V:=fun x=>.list (x.map zle)
def zhH:List (Int)->V:=fun x=>.list (x.map zhC)
def zeR:List (Int)->V:=fun x=>.list (x.map Yp)
def zeS:List (Int)->V:=fun x=>.list (x.map zlb)
def zeT:List (List UInt8)->V:=fun x=>.list (x.map zdU)
def zc1:List (Pair)->V:=fun x=>.list (x.map QN)
def zdV:Row->V:=fun x=>.agg [.int .i64 x.At,.list (x.Words.map zbU)]
def qO:Script->V:=fun x=>.agg [.list (x.Configs.map qN),.list (x.Plan.map Zj),.list (x.Commands.map qe)]
def zeU:List (Row)->V:=fun x=>.list (x.map zdV)
def qi (l:List Int):List Int:=[l.getD 0 0,l.getD 1 0,l.getD 2 0]
def zye:C->Option (C × Nat)
 | .a3_i64=>some (.i64,3)
 | .a6_i64=>some (.i64,6)
 | _=>none
def dfl:∀ c:C,den c
 | .i64=>(0:Int)
 | .u64=>(0:Int)
 | .i32=>(0:Int)
 | .u32=>(0:Int)
 | .u8=>(0:Int)
 | .i16=>(0:Int)
 | .u16=>(0:Int)
 | .i8=>(0:Int)
 | .bool=>(false:Bool)
 | .str=>([]:List UInt8)
 | .iv=>(.int 0 0:IV)
 | .a3_i64=>([]:List Int)
 | .a6_i64=>([]:List Int)
 | .ID=>(⟨0,0,0⟩:ID)
 | .Contact=>(⟨0,0,0,0,0,0⟩:Contact)
 | .Outc=>(⟨0,0,0,⟨0,0,0⟩,0⟩:Outc)
 | .Word=>(⟨0,[],[]⟩:Word)
 | .Row=>(⟨0,[]⟩:Row)
 | .Fault=>(⟨0,0⟩:Fault)
 | .Bundle=>(⟨⟨0,0,0⟩,0,0,0,0,0,[]⟩:Bundle)
 | .Command=>(⟨0,0,0,0,0,0,⟨⟨0,0,0⟩,0,0,0,0,0,[]⟩⟩:Command)
 | .W3=>(⟨0,0,0⟩:W3)
 | .Config=>(⟨0,0,0,0,0,0,0,0,[],0,0,0,0,0⟩:Config)
 | .Script=>(⟨[],[],[]⟩:Script)
 | .U3=>(⟨0,0,0⟩:U3)
 | .Pair=>(⟨0,0⟩:Pair)
 | .Use=>(⟨[],false,false,0,0,0,0,false⟩:Use)
 | .RUse=>(⟨[],false,false,false,false,false,false,0,0,0⟩:RUse)
 | .BI=>(⟨false,0⟩:BI)
 | .l_W3=>([]:List (W3))
 | .l_U3=>([]:List (U3))
 | .l_Contact=>([]:List (Contact))
 | .l_Word=>([]:List (Word))
 | .l_Row=>([]:List (Row))
 | .l_Command=>([]:List (Command))
 | .l_Config=>([]:List (Config))
 | .l_Use=>([]:List (Use))
 | .l_BI=>([]:List (BI))
 | .l_u8=>([]:List (Int))
 | .l_i64=>([]:List (Int))
 | .l_u64=>([]:List (Int))
 | .l_str=>([]:List (List UInt8))
 | .l_Pair=>([]:List (Pair))
def enc:∀ c:C,den c->V
 | .i64=>Yp
 | .u64=>zlb
 | .i32=>zqu
 | .u32=>zqv
 | .u8=>zhC
 | .i16=>zqw
 | .u16=>zqx
 | .i8=>zt9
 | .bool=>zm4
 | .str=>zdU
 | .iv=>zaj
 | .a3_i64=>zcX
 | .a6_i64=>zcY
 | .ID=>zeO
 | .Contact=>Zj
 | .Outc=>zaB
 | .Word=>zbU
 | .Row=>zdV
 | .Fault=>zeP
 | .Bundle=>zcZ
 | .Command=>qe
 | .W3=>zlc
 | .Config=>qN
 | .Script=>qO
 | .U3=>zld
 | .Pair=>QN
 | .Use=>zgm
 | .RUse=>zhD
 | .BI=>zle
 | .l_W3=>zhE
 | .l_U3=>zhF
 | .l_Contact=>zak
 | .l_Word=>zc0
 | .l_Row=>zeU
 | .l_Command=>zal
 | .l_Config=>za3
 | .l_Use=>zeQ
 | .l_BI=>zhG
 | .l_u8=>zhH
 | .l_i64=>zeR
 | .l_u64=>zeS
 | .l_str=>zeT
 | .l_Pair=>zc1
def csz:C->Nat
 | .i64=>1
 | .u64=>1
 | .i32=>1
 | .u32=>1
 | .u8=>1
 | .i16=>1
 | .u16=>1
 | .i8=>1
 | .bool=>1
 | .str=>1
 | .iv=>1
 | .a3_i64=>3
 | .a6_i64=>6
 | .ID=>3
 | .Contact=>6
 | .Outc=>7
 | .Word=>3
 | .Row=>2
 | .Fault=>2
 | .Bundle=>9
 | .Command=>15
 | .W3=>3
 | .Config=>16
 | .Script=>3
 | .U3=>3
 | .Pair=>2
 | .Use=>8
 | .RUse=>10
 | .BI=>2
 | .l_W3=>1
 | .l_U3=>1
 | .l_Contact=>1
 | .l_Word=>1
 | .l_Row=>1
 | .l_Command=>1
 | .l_Config=>1
 | .l_Use=>1
 | .l_BI=>1
 | .l_u8=>1
 | .l_i64=>1
 | .l_u64=>1
 | .l_str=>1
 | .l_Pair=>1
theorem zL {α:Type} {f:α->V} (h:∀ x,(f x).noLoc = true):∀ l:List α,V.noLocL (l.map f) = true
 | []=>rfl
 | x :: l=>by simp [V.noLocL,h x,zL h l]
theorem zjx:∀ (c:C) (x:den c),(enc c x).csize = some (csz c):=by
 intro c x; cases c <;> first | rfl | (cases x <;> rfl)
theorem zhI (x:IV):(zaj x).noLoc = true:=by cases x <;> rfl
theorem zjy (x:Int):(Yp x).noLoc = true:=rfl
theorem zjz (x:Int):(zlb x).noLoc = true:=rfl
theorem zrp (x:Int):(zqu x).noLoc = true:=rfl
theorem zrq (x:Int):(zqv x).noLoc = true:=rfl
theorem zm5 (x:Int):(zhC x).noLoc = true:=rfl
theorem zrr (x:Int):(zqw x).noLoc = true:=rfl
theorem zrs (x:Int):(zqx x).noLoc = true:=rfl
theorem zua (x:Int):(zt9 x).noLoc = true:=rfl
theorem zpk (x:Bool):(zm4 x).noLoc = true:=rfl
theorem zjA (x:List UInt8):(zdU x).noLoc = true:=rfl
theorem zlf (x:List Int):(zcX x).noLoc = true:=rfl
theorem zlg (x:List Int):(zcY x).noLoc = true:=rfl
theorem zub (x:ID):(zeO x).noLoc = true:=rfl
theorem zam (x:Contact):(Zj x).noLoc = true:=rfl
theorem zpl (x:Outc):(zaB x).noLoc = true:=rfl
theorem zc2 (x:Word):(zbU x).noLoc = true:=rfl
theorem zm6 (x:Fault):(zeP x).noLoc = true:=rfl
theorem zlh (x:Bundle):(zcZ x).noLoc = true:=rfl
theorem zan (x:Command):(qe x).noLoc = true:=rfl
theorem zm7 (x:W3):(zlc x).noLoc = true:=rfl
theorem za4 (x:Config):(qN x).noLoc = true:=rfl
theorem zm8 (x:U3):(zld x).noLoc = true:=rfl
theorem zhJ (x:Pair):(QN x).noLoc = true:=rfl
theorem zjB (x:Use):(zgm x).noLoc = true:=rfl
theorem zpm (x:RUse):(zhD x).noLoc = true:=rfl
theorem zm9 (x:BI):(zle x).noLoc = true:=rfl
theorem zpn (x:List (W3)):(zhE x).noLoc = true:=by simp only [zhE,V.noLoc]; exact zL zm7 x
theorem zpo (x:List (U3)):(zhF x).noLoc = true:=by simp only [zhF,V.noLoc]; exact zL zm8 x
theorem zf3 (x:List (Contact)):(zak x).noLoc = true:=by simp only [zak,V.noLoc]; exact zL zam x
theorem zli (x:List (Word)):(zc0 x).noLoc = true:=by simp only [zc0,V.noLoc]; exact zL zc2 x
theorem zf4 (x:List (Command)):(zal x).noLoc = true:=by simp only [zal,V.noLoc]; exact zL zan x
theorem zhK (x:List (Config)):(za3 x).noLoc = true:=by simp only [za3,V.noLoc]; exact zL za4 x
theorem zna (x:List (Use)):(zeQ x).noLoc = true:=by simp only [zeQ,V.noLoc]; exact zL zjB x
theorem zpp (x:List (BI)):(zhG x).noLoc = true:=by simp only [zhG,V.noLoc]; exact zL zm9 x
theorem zpq (x:List (Int)):(zhH x).noLoc = true:=by simp only [zhH,V.noLoc]; exact zL zm5 x
theorem znb (x:List (Int)):(zeR x).noLoc = true:=by simp only [zeR,V.noLoc]; exact zL zjy x
theorem znc (x:List (Int)):(zeS x).noLoc = true:=by simp only [zeS,V.noLoc]; exact zL zjz x
theorem znd (x:List (List UInt8)):(zeT x).noLoc = true:=by simp only [zeT,V.noLoc]; exact zL zjA x
theorem zlj (x:List (Pair)):(zc1 x).noLoc = true:=by simp only [zc1,V.noLoc]; exact zL zhJ x
theorem zjC (x:Row):(zdV x).noLoc = true:=by simp [zdV,V.noLoc,V.noLocL,zL zc2]
theorem zdW (x:Script):(qO x).noLoc = true:=by simp [qO,V.noLoc,V.noLocL,zL zan,zL za4,zL zam]
theorem zne (x:List (Row)):(zeU x).noLoc = true:=by simp only [zeU,V.noLoc]; exact zL zjC x
theorem Qp:∀ (c:C) (x:den c),(enc c x).noLoc = true
 | .i64,x=>zjy x
 | .u64,x=>zjz x
 | .i32,x=>zrp x
 | .u32,x=>zrq x
 | .u8,x=>zm5 x
 | .i16,x=>zrr x
 | .u16,x=>zrs x
 | .i8,x=>zua x
 | .bool,x=>zpk x
 | .str,x=>zjA x
 | .iv,x=>zhI x
 | .a3_i64,x=>zlf x
 | .a6_i64,x=>zlg x
 | .ID,x=>zub x
 | .Contact,x=>zam x
 | .Outc,x=>zpl x
 | .Word,x=>zc2 x
 | .Row,x=>zjC x
 | .Fault,x=>zm6 x
 | .Bundle,x=>zlh x
 | .Command,x=>zan x
 | .W3,x=>zm7 x
 | .Config,x=>za4 x
 | .Script,x=>zdW x
 | .U3,x=>zm8 x
 | .Pair,x=>zhJ x
 | .Use,x=>zjB x
 | .RUse,x=>zpm x
 | .BI,x=>zm9 x
 | .l_W3,x=>zpn x
 | .l_U3,x=>zpo x
 | .l_Contact,x=>zf3 x
 | .l_Word,x=>zli x
 | .l_Row,x=>zne x
 | .l_Command,x=>zf4 x
 | .l_Config,x=>zhK x
 | .l_Use,x=>zna x
 | .l_BI,x=>zpp x
 | .l_u8,x=>zpq x
 | .l_i64,x=>znb x
 | .l_u64,x=>znc x
 | .l_str,x=>znd x
 | .l_Pair,x=>zlj x
inductive S:Type where
 | any | un
 | int (k:IntKind) (n:Int)
 | bool (b:Bool)
 | str (s:List UInt8)
 | agg (cs:List S)
 | tup (vs:List S)
 | loc (i off:Nat)
 | loco (i off n:Nat) (ix:Int)
 | elt (cs:List S) (off:Nat)
 | gel (g off:Nat)
 | nilp
 | lst (c:C) (l:List (den c))
 | rows (vs:List S)
 | fn (f:Go.Fn) (first cap:List S)
 | nilfn
 | iface (t:TypeId) (v:S)
 | nilif
 | mref (i:Nat)
 | nilm
 | ptr (i:Int) (sz f:Nat)
 | ivd (x:IV)
 deriving Inhabited
def asInt (k:IntKind):S->Option Int
 | .int k' n=>if k' = k then some n else none
 | _=>none
def asBool:S->Option Bool
 | .bool b=>some b
 | _=>none
def zcF:S->Option (List UInt8)
 | .str b=>some b
 | _=>none
def zw2:S->Option IV
 | .ivd x=>some x
 | .iface t (.int .i64 n)=>some (.int t n)
 | .iface t (.agg [.int .i64 a,.int .u64 b,.int .i64 c])=>some (.id t ⟨a,b,c⟩)
 | _=>none
def Yh (c:C):S->Option (List (den c))
 | .lst c' l=>if h:c' = c then some (h ▸ l) else none
 | .rows []=>some []
 | _=>none
def zdX:Int->S:=fun x=>.int .i64 x
def zhL:Int->S:=fun x=>.int .u64 x
def znf:Int->S:=fun x=>.int .i32 x
def zng:Int->S:=fun x=>.int .u32 x
def zqy:Int->S:=fun x=>.int .u8 x
def znh:Int->S:=fun x=>.int .i16 x
def zni:Int->S:=fun x=>.int .u16 x
def zqz:Int->S:=fun x=>.int .i8 x
def zjD:Bool->S:=fun x=>.bool x
def zbV:List UInt8->S:=fun x=>.str x
def zqA:IV->S:=fun x=>.ivd x
def zfw:List Int->S:=fun x=>.agg [.int .i64 (x.getD 0 0),.int .i64 (x.getD 1 0),.int .i64 (x.getD 2 0)]
def zfx:List Int->S:=fun x=>.agg [.int .i64 (x.getD 0 0),.int .i64 (x.getD 1 0),.int .i64 (x.getD 2 0),.int .i64 (x.getD 3 0),.int .i64 (x.getD 4 0),.int .i64 (x.getD 5 0)]
def zqB:ID->S:=fun x=>.agg [.int .i64 x.Node,.int .u64 x.Seq,.int .i64 x.Off]
def zdY:Contact->S:=fun x=>.agg [.int .i64 x.From,.int .i64 x.To,.int .i64 x.Start,.int .i64 x.End,.int .i64 x.Rate,.int .i64 x.Delay]
def zjE:Outc->S:=fun x=>.agg [.int .i64 x.Tick,.int .i64 x.Node,.int .i64 x.Kind,.int .i64 x.ID.Node,.int .u64 x.ID.Seq,.int .i64 x.ID.Off,.int .i64 x.Other]
def zjF:Word->S:=fun x=>.agg [.int .i64 x.At,.str x.Key,.str x.Text]
def znj:Row->S:=fun x=>.agg [.int .i64 x.At,.lst .Word x.Words]
def zhM:Fault->S:=fun x=>.agg [.int .i64 x.Err,.int .i64 x.At]
def zfy:Bundle->S:=fun x=>.agg [.int .i64 x.ID.Node,.int .u64 x.ID.Seq,.int .i64 x.ID.Off,.int .i64 x.Dest,.int .i64 x.Prio,.int .i64 x.Born,.int .i64 x.Life,.int .i64 x.Total,.str x.Data]
def zdZ:Command->S:=fun x=>.agg [.int .i64 x.Kind,.int .i64 x.Node,.int .i64 x.Other,.int .i64 x.N,.int .i64 x.At,.int .i64 x.By,.int .i64 x.Bundle.ID.Node,.int .u64 x.Bundle.ID.Seq,.int .i64 x.Bundle.ID.Off,.int .i64 x.Bundle.Dest,.int .i64 x.Bundle.Prio,.int .i64 x.Bundle.Born,.int .i64 x.Bundle.Life,.int .i64 x.Bundle.Total,.str x.Bundle.Data]
def zqC:W3->S:=fun x=>.agg [.int .i64 x.a,.int .i64 x.b,.int .i64 x.c]
def zfz:Config->S:=fun x=>.agg [.int .i64 x.Node,.int .u64 x.Quota,.int .u64 x.Largest,.int .u64 x.Window,.int .u64 x.Low,.int .i64 x.Retry,.int .i64 x.RetryMax,.int .i64 x.Bypass,.int .i64 (x.Weights.getD 0 0),.int .i64 (x.Weights.getD 1 0),.int .i64 (x.Weights.getD 2 0),.int .i64 x.RateN,.int .i64 x.RateD,.int .i64 x.Burst,.int .i64 x.Blocks,.int .i64 x.Rate]
def zfA:Script->S:=fun x=>.agg [.lst .Config x.Configs,.lst .Contact x.Plan,.lst .Command x.Commands]
def zqD:U3->S:=fun x=>.agg [.int .u64 x.a,.int .u64 x.b,.int .u64 x.c]
def zjG:Pair->S:=fun x=>.agg [.int .i64 x.a,.int .i64 x.b]
def znk:Use->S:=fun x=>.agg [.str x.word,.bool x.node,.bool x.other,.int .i64 x.low,.int .i64 x.n,.int .i64 x.at_,.int .i64 x.by_,.bool x.bndl]
def zjH:RUse->S:=fun x=>.agg [.str x.word,.bool x.node,.bool x.other,.bool x.n,.bool x.at_,.bool x.by_,.bool x.b,.int .i64 x.least,.int .i64 x.most,.int .i64 x.far]
def zqE:BI->S:=fun x=>.agg [.bool x.used,.int .i64 x.n]
def zjI:List (W3)->S:=fun x=>.lst .W3 x
def zjJ:List (U3)->S:=fun x=>.lst .U3 x
def zbW:List (Contact)->S:=fun x=>.lst .Contact x
def zfB:List (Word)->S:=fun x=>.lst .Word x
def zhN:List (Row)->S:=fun x=>.lst .Row x
def zbX:List (Command)->S:=fun x=>.lst .Command x
def zcG:List (Config)->S:=fun x=>.lst .Config x
def zhO:List (Use)->S:=fun x=>.lst .Use x
def zjK:List (BI)->S:=fun x=>.lst .BI x
def zjL:List (Int)->S:=fun x=>.lst .u8 x
def zhP:List (Int)->S:=fun x=>.lst .i64 x
def zhQ:List (Int)->S:=fun x=>.lst .u64 x
def zc3:List (List UInt8)->S:=fun x=>.lst .str x
def zfC:List (Pair)->S:=fun x=>.lst .Pair x
def refl:∀ c:C,den c->S
 | .i64=>zdX
 | .u64=>zhL
 | .i32=>znf
 | .u32=>zng
 | .u8=>zqy
 | .i16=>znh
 | .u16=>zni
 | .i8=>zqz
 | .bool=>zjD
 | .str=>zbV
 | .iv=>zqA
 | .a3_i64=>zfw
 | .a6_i64=>zfx
 | .ID=>zqB
 | .Contact=>zdY
 | .Outc=>zjE
 | .Word=>zjF
 | .Row=>znj
 | .Fault=>zhM
 | .Bundle=>zfy
 | .Command=>zdZ
 | .W3=>zqC
 | .Config=>zfz
 | .Script=>zfA
 | .U3=>zqD
 | .Pair=>zjG
 | .Use=>znk
 | .RUse=>zjH
 | .BI=>zqE
 | .l_W3=>zjI
 | .l_U3=>zjJ
 | .l_Contact=>zbW
 | .l_Word=>zfB
 | .l_Row=>zhN
 | .l_Command=>zbX
 | .l_Config=>zcG
 | .l_Use=>zhO
 | .l_BI=>zjK
 | .l_u8=>zjL
 | .l_i64=>zhP
 | .l_u64=>zhQ
 | .l_str=>zc3
 | .l_Pair=>zfC
def zeV:S->Option (List Int)
 | .agg [p0,p1,p2]=>(asInt .i64 p0).bind fun q0=>(asInt .i64 p1).bind fun q1=>(asInt .i64 p2).bind fun q2=>(some [q0,q1,q2])
 | _=>none
def zeW:S->Option (List Int)
 | .agg [p0,p1,p2,p3,p4,p5]=>(asInt .i64 p0).bind fun q0=>(asInt .i64 p1).bind fun q1=>(asInt .i64 p2).bind fun q2=>(asInt .i64 p3).bind fun q3=>(asInt .i64 p4).bind fun q4=>(asInt .i64 p5).bind fun q5=>(some [q0,q1,q2,q3,q4,q5])
 | _=>none
def zuc:S->Option (ID)
 | .agg [p0,p1,p2]=>(asInt .i64 p0).bind fun q0=>(asInt .u64 p1).bind fun q1=>(asInt .i64 p2).bind fun q2=>(some ⟨q0,q1,q2⟩)
 | _=>none
def zc4:S->Option (Contact)
 | .agg [p0,p1,p2,p3,p4,p5]=>(asInt .i64 p0).bind fun q0=>(asInt .i64 p1).bind fun q1=>(asInt .i64 p2).bind fun q2=>(asInt .i64 p3).bind fun q3=>(asInt .i64 p4).bind fun q4=>(asInt .i64 p5).bind fun q5=>(some ⟨q0,q1,q2,q3,q4,q5⟩)
 | _=>none
def zlk:S->Option (Outc)
 | .agg [p0,p1,p2,p3,p4,p5,p6]=>(asInt .i64 p0).bind fun q0=>(asInt .i64 p1).bind fun q1=>(asInt .i64 p2).bind fun q2=>(asInt .i64 p3).bind fun q3=>(asInt .u64 p4).bind fun q4=>(asInt .i64 p5).bind fun q5=>(asInt .i64 p6).bind fun q6=>(some ⟨q0,q1,q2,⟨q3,q4,q5⟩,q6⟩)
 | _=>none
def zll:S->Option (Word)
 | .agg [p0,p1,p2]=>(asInt .i64 p0).bind fun q0=>(zcF p1).bind fun q1=>(zcF p2).bind fun q2=>(some ⟨q0,q1,q2⟩)
 | _=>none
def zpr:S->Option (Row)
 | .agg [p0,p1]=>(asInt .i64 p0).bind fun q0=>(Yh .Word p1).bind fun q1=>(some ⟨q0,q1⟩)
 | _=>none
def zhR:S->Option (Fault)
 | .agg [p0,p1]=>(asInt .i64 p0).bind fun q0=>(asInt .i64 p1).bind fun q1=>(some ⟨q0,q1⟩)
 | _=>none
def zeX:S->Option (Bundle)
 | .agg [p0,p1,p2,p3,p4,p5,p6,p7,p8]=>(asInt .i64 p0).bind fun q0=>(asInt .u64 p1).bind fun q1=>(asInt .i64 p2).bind fun q2=>(asInt .i64 p3).bind fun q3=>(asInt .i64 p4).bind fun q4=>(asInt .i64 p5).bind fun q5=>(asInt .i64 p6).bind fun q6=>(asInt .i64 p7).bind fun q7=>(zcF p8).bind fun q8=>(some ⟨⟨q0,q1,q2⟩,q3,q4,q5,q6,q7,q8⟩)
 | _=>none
def zc5:S->Option (Command)
 | .agg [p0,p1,p2,p3,p4,p5,p6,p7,p8,p9,p10,p11,p12,p13,p14]=>(asInt .i64 p0).bind fun q0=>(asInt .i64 p1).bind fun q1=>(asInt .i64 p2).bind fun q2=>(asInt .i64 p3).bind fun q3=>(asInt .i64 p4).bind fun q4=>(asInt .i64 p5).bind fun q5=>(asInt .i64 p6).bind fun q6=>(asInt .u64 p7).bind fun q7=>(asInt .i64 p8).bind fun q8=>(asInt .i64 p9).bind fun q9=>(asInt .i64 p10).bind fun q10=>(asInt .i64 p11).bind fun q11=>(asInt .i64 p12).bind fun q12=>(asInt .i64 p13).bind fun q13=>(zcF p14).bind fun q14=>(some ⟨q0,q1,q2,q3,q4,q5,⟨⟨q6,q7,q8⟩,q9,q10,q11,q12,q13,q14⟩⟩)
 | _=>none
def zud:S->Option (W3)
 | .agg [p0,p1,p2]=>(asInt .i64 p0).bind fun q0=>(asInt .i64 p1).bind fun q1=>(asInt .i64 p2).bind fun q2=>(some ⟨q0,q1,q2⟩)
 | _=>none
def zeY:S->Option (Config)
 | .agg [p0,p1,p2,p3,p4,p5,p6,p7,p8,p9,p10,p11,p12,p13,p14,p15]=>(asInt .i64 p0).bind fun q0=>(asInt .u64 p1).bind fun q1=>(asInt .u64 p2).bind fun q2=>(asInt .u64 p3).bind fun q3=>(asInt .u64 p4).bind fun q4=>(asInt .i64 p5).bind fun q5=>(asInt .i64 p6).bind fun q6=>(asInt .i64 p7).bind fun q7=>(asInt .i64 p8).bind fun q8=>(asInt .i64 p9).bind fun q9=>(asInt .i64 p10).bind fun q10=>(asInt .i64 p11).bind fun q11=>(asInt .i64 p12).bind fun q12=>(asInt .i64 p13).bind fun q13=>(asInt .i64 p14).bind fun q14=>(asInt .i64 p15).bind fun q15=>(some ⟨q0,q1,q2,q3,q4,q5,q6,q7,[q8,q9,q10],q11,q12,q13,q14,q15⟩)
 | _=>none
def zeZ:S->Option (Script)
 | .agg [p0,p1,p2]=>(Yh .Config p0).bind fun q0=>(Yh .Contact p1).bind fun q1=>(Yh .Command p2).bind fun q2=>(some ⟨q0,q1,q2⟩)
 | _=>none
def zue:S->Option (U3)
 | .agg [p0,p1,p2]=>(asInt .u64 p0).bind fun q0=>(asInt .u64 p1).bind fun q1=>(asInt .u64 p2).bind fun q2=>(some ⟨q0,q1,q2⟩)
 | _=>none
def zlm:S->Option (Pair)
 | .agg [p0,p1]=>(asInt .i64 p0).bind fun q0=>(asInt .i64 p1).bind fun q1=>(some ⟨q0,q1⟩)
 | _=>none
def zps:S->Option (Use)
 | .agg [p0,p1,p2,p3,p4,p5,p6,p7]=>(zcF p0).bind fun q0=>(asBool p1).bind fun q1=>(asBool p2).bind fun q2=>(asInt .i64 p3).bind fun q3=>(asInt .i64 p4).bind fun q4=>(asInt .i64 p5).bind fun q5=>(asInt .i64 p6).bind fun q6=>(asBool p7).bind fun q7=>(some ⟨q0,q1,q2,q3,q4,q5,q6,q7⟩)
 | _=>none
def zln:S->Option (RUse)
 | .agg [p0,p1,p2,p3,p4,p5,p6,p7,p8,p9]=>(zcF p0).bind fun q0=>(asBool p1).bind fun q1=>(asBool p2).bind fun q2=>(asBool p3).bind fun q3=>(asBool p4).bind fun q4=>(asBool p5).bind fun q5=>(asBool p6).bind fun q6=>(asInt .i64 p7).bind fun q7=>(asInt .i64 p8).bind fun q8=>(asInt .i64 p9).bind fun q9=>(some ⟨q0,q1,q2,q3,q4,q5,q6,q7,q8,q9⟩)
 | _=>none
def zuf:S->Option (BI)
 | .agg [p0,p1]=>(asBool p0).bind fun q0=>(asInt .i64 p1).bind fun q1=>(some ⟨q0,q1⟩)
 | _=>none
def Ze:∀ c:C,S->Option (den c)
 | .i64=>fun s=>asInt .i64 s
 | .u64=>fun s=>asInt .u64 s
 | .i32=>fun s=>asInt .i32 s
 | .u32=>fun s=>asInt .u32 s
 | .u8=>fun s=>asInt .u8 s
 | .i16=>fun s=>asInt .i16 s
 | .u16=>fun s=>asInt .u16 s
 | .i8=>fun s=>asInt .i8 s
 | .bool=>fun s=>asBool s
 | .str=>fun s=>zcF s
 | .iv=>fun s=>zw2 s
 | .a3_i64=>zeV
 | .a6_i64=>zeW
 | .ID=>zuc
 | .Contact=>zc4
 | .Outc=>zlk
 | .Word=>zll
 | .Row=>zpr
 | .Fault=>zhR
 | .Bundle=>zeX
 | .Command=>zc5
 | .W3=>zud
 | .Config=>zeY
 | .Script=>zeZ
 | .U3=>zue
 | .Pair=>zlm
 | .Use=>zps
 | .RUse=>zln
 | .BI=>zuf
 | .l_W3=>fun s=>Yh .W3 s
 | .l_U3=>fun s=>Yh .U3 s
 | .l_Contact=>fun s=>Yh .Contact s
 | .l_Word=>fun s=>Yh .Word s
 | .l_Row=>fun s=>Yh .Row s
 | .l_Command=>fun s=>Yh .Command s
 | .l_Config=>fun s=>Yh .Config s
 | .l_Use=>fun s=>Yh .Use s
 | .l_BI=>fun s=>Yh .BI s
 | .l_u8=>fun s=>Yh .u8 s
 | .l_i64=>fun s=>Yh .i64 s
 | .l_u64=>fun s=>Yh .u64 s
 | .l_str=>fun s=>Yh .str s
 | .l_Pair=>fun s=>Yh .Pair s
def Yq:C->Bool
 | .i64=>true
 | .u64=>true
 | .i32=>true
 | .u32=>true
 | .u8=>true
 | .i16=>true
 | .u16=>true
 | .i8=>true
 | .bool=>true
 | .str=>true
 | .iv=>false
 | .a3_i64=>true
 | .a6_i64=>true
 | .ID=>true
 | .Contact=>true
 | .Outc=>true
 | .Word=>true
 | .Row=>false
 | .Fault=>true
 | .Bundle=>true
 | .Command=>true
 | .W3=>true
 | .Config=>true
 | .Script=>false
 | .U3=>true
 | .Pair=>true
 | .Use=>true
 | .RUse=>true
 | .BI=>true
 | .l_W3=>false
 | .l_U3=>false
 | .l_Contact=>false
 | .l_Word=>false
 | .l_Row=>false
 | .l_Command=>false
 | .l_Config=>false
 | .l_Use=>false
 | .l_BI=>false
 | .l_u8=>false
 | .l_i64=>false
 | .l_u64=>false
 | .l_str=>false
 | .l_Pair=>false
def dq:∀ c:C,Option (DecidableEq (den c))
 | .i64=>some (inferInstanceAs (DecidableEq (Int)))
 | .u64=>some (inferInstanceAs (DecidableEq (Int)))
 | .str=>some (inferInstanceAs (DecidableEq (List UInt8)))
 | .Pair=>some (inferInstanceAs (DecidableEq (Pair)))
 | .ID=>some (inferInstanceAs (DecidableEq (ID)))
 | .Outc=>some (inferInstanceAs (DecidableEq (Outc)))
 | _=>none
mutual
def toV:S->V
 | .any=>.any
 | .un=>.un
 | .int k n=>.int k n
 | .bool b=>.bool b
 | .str s=>.str s
 | .agg cs=>.agg (zi cs)
 | .tup cs=>.tup (zi cs)
 | .loc i off=>.loc i off
 | .loco i off _ ix=>.loc i (off + ix.toNat)
 | .elt cs off=>.elt (zi cs) off
 | .gel g off=>(match GL g with | some vs=>.elt (vs.map Zd) off | none=>.any)
 | .nilp=>.nilp
 | .lst c l=>.list (l.map (enc c))
 | .rows vs=>.list (zi vs)
 | .fn f first cap=>.fn f (zi first) (zi cap)
 | .nilfn=>.nilfn
 | .iface t v=>.iface t (toV v)
 | .nilif=>.nilif
 | .mref i=>.mref i
 | .nilm=>.nilm
 | .ptr i sz f=>.ptr (i.toNat * sz + f)
 | .ivd x=>zaj x
def zi:List S->List V
 | []=>[]
 | c :: cs=>toV c :: zi cs
end
theorem ZM:∀ cs:List S,zi cs = cs.map toV
 | []=>by simp [zi]
 | c :: cs=>by simp [zi,ZM cs]
theorem zpt {k:IntKind} {s:S} {n:Int} (h:asInt k s = some n):s = .int k n:=by
 cases s <;> simp only [asInt,reduceCtorEq] at h
 split at h
 ·rename_i e; subst e; cases h; rfl
 ·cases h
theorem znl {s:S} {n:Bool} (h:asBool s = some n):s = .bool n:=by
 cases s <;> simp only [asBool,reduceCtorEq] at h
 cases h; rfl
theorem zpu {s:S} {n:List UInt8} (h:zcF s = some n):s = .str n:=by
 cases s <;> simp only [zcF,reduceCtorEq] at h
 cases h; rfl
theorem yA {c:C} {s:S} {l:List (den c)} (h:Yh c s = some l):toV s = .list (l.map (enc c)):=by
 unfold Yh at h
 split at h
 ·split at h
  ·rename_i e; subst e; cases h; simp [toV]
  ·cases h
 ·cases h; simp [toV,zi]
 ·cases h
theorem bind_some {α β:Type} {o:Option α} {f:α->Option β} {r:β} (h:o.bind f = some r):∃ x,o = some x/\f x = some r:=by
 cases o with
 | none=>cases h
 | some x=>exact ⟨x,rfl,h⟩
theorem zd {k:IntKind} {s:S} {n:Int} (h:asInt k s = some n):toV s = .int k n:=by rw [zpt h]; simp [toV]
theorem ZN {s:S} {n:Bool} (h:asBool s = some n):toV s = .bool n:=by rw [znl h]; simp [toV]
theorem zw3 {s:S} {n:IV} (h:zw2 s = some n):toV s = zaj n:=by
 unfold zw2 at h
 split at h
 ·cases h; simp [toV]
 ·cases h; simp [toV,zaj]
 ·cases h; simp [toV,zi,zaj]
 ·cases h
theorem za5 {s:S} {n:List UInt8} (h:zcF s = some n):toV s = .str n:=by rw [zpu h]; simp [toV]
theorem ziM {s:S} {x:List Int} (h:zeV s = some x):toV s = zcX x:=by
 unfold zeV at h
 split at h
 ·obtain ⟨q0,h0,h⟩:=bind_some h
  obtain ⟨q1,h1,h⟩:=bind_some h
  obtain ⟨q2,h2,h⟩:=bind_some h
  cases h
  simp only [toV,zi,zd h0,zd h1,zd h2]
  rfl
 ·cases h
theorem ziN {s:S} {x:List Int} (h:zeW s = some x):toV s = zcY x:=by
 unfold zeW at h
 split at h
 ·obtain ⟨q0,h0,h⟩:=bind_some h
  obtain ⟨q1,h1,h⟩:=bind_some h
  obtain ⟨q2,h2,h⟩:=bind_some h
  obtain ⟨q3,h3,h⟩:=bind_some h
  obtain ⟨q4,h4,h⟩:=bind_some h
  obtain ⟨q5,h5,h⟩:=bind_some h
  cases h
  simp only [toV,zi,zd h0,zd h1,zd h2,zd h3,zd h4,zd h5]
  rfl
 ·cases h
theorem zrt {s:S} {x:ID} (h:zuc s = some x):toV s = zeO x:=by
 unfold zuc at h
 split at h
 ·obtain ⟨q0,h0,h⟩:=bind_some h
  obtain ⟨q1,h1,h⟩:=bind_some h
  obtain ⟨q2,h2,h⟩:=bind_some h
  cases h
  simp only [toV,zi,zd h0,zd h1,zd h2]
  rfl
 ·cases h
theorem zhS {s:S} {x:Contact} (h:zc4 s = some x):toV s = Zj x:=by
 unfold zc4 at h
 split at h
 ·obtain ⟨q0,h0,h⟩:=bind_some h
  obtain ⟨q1,h1,h⟩:=bind_some h
  obtain ⟨q2,h2,h⟩:=bind_some h
  obtain ⟨q3,h3,h⟩:=bind_some h
  obtain ⟨q4,h4,h⟩:=bind_some h
  obtain ⟨q5,h5,h⟩:=bind_some h
  cases h
  simp only [toV,zi,zd h0,zd h1,zd h2,zd h3,zd h4,zd h5]
  rfl
 ·cases h
theorem znm {s:S} {x:Outc} (h:zlk s = some x):toV s = zaB x:=by
 unfold zlk at h
 split at h
 ·obtain ⟨q0,h0,h⟩:=bind_some h
  obtain ⟨q1,h1,h⟩:=bind_some h
  obtain ⟨q2,h2,h⟩:=bind_some h
  obtain ⟨q3,h3,h⟩:=bind_some h
  obtain ⟨q4,h4,h⟩:=bind_some h
  obtain ⟨q5,h5,h⟩:=bind_some h
  obtain ⟨q6,h6,h⟩:=bind_some h
  cases h
  simp only [toV,zi,zd h0,zd h1,zd h2,zd h3,zd h4,zd h5,zd h6]
  rfl
 ·cases h
theorem znn {s:S} {x:Word} (h:zll s = some x):toV s = zbU x:=by
 unfold zll at h
 split at h
 ·obtain ⟨q0,h0,h⟩:=bind_some h
  obtain ⟨q1,h1,h⟩:=bind_some h
  obtain ⟨q2,h2,h⟩:=bind_some h
  cases h
  simp only [toV,zi,zd h0,za5 h1,za5 h2]
  rfl
 ·cases h
theorem zpv {s:S} {x:Row} (h:zpr s = some x):toV s = zdV x:=by
 unfold zpr at h
 split at h
 ·obtain ⟨q0,h0,h⟩:=bind_some h
  obtain ⟨q1,h1,h⟩:=bind_some h
  cases h
  simp only [toV,zi,zd h0,yA h1]
  rfl
 ·cases h
theorem zlo {s:S} {x:Fault} (h:zhR s = some x):toV s = zeP x:=by
 unfold zhR at h
 split at h
 ·obtain ⟨q0,h0,h⟩:=bind_some h
  obtain ⟨q1,h1,h⟩:=bind_some h
  cases h
  simp only [toV,zi,zd h0,zd h1]
  rfl
 ·cases h
theorem ziO {s:S} {x:Bundle} (h:zeX s = some x):toV s = zcZ x:=by
 unfold zeX at h
 split at h
 ·obtain ⟨q0,h0,h⟩:=bind_some h
  obtain ⟨q1,h1,h⟩:=bind_some h
  obtain ⟨q2,h2,h⟩:=bind_some h
  obtain ⟨q3,h3,h⟩:=bind_some h
  obtain ⟨q4,h4,h⟩:=bind_some h
  obtain ⟨q5,h5,h⟩:=bind_some h
  obtain ⟨q6,h6,h⟩:=bind_some h
  obtain ⟨q7,h7,h⟩:=bind_some h
  obtain ⟨q8,h8,h⟩:=bind_some h
  cases h
  simp only [toV,zi,zd h0,zd h1,zd h2,zd h3,zd h4,zd h5,zd h6,zd h7,za5 h8]
  rfl
 ·cases h
theorem zhT {s:S} {x:Command} (h:zc5 s = some x):toV s = qe x:=by
 unfold zc5 at h
 split at h
 ·obtain ⟨q0,h0,h⟩:=bind_some h
  obtain ⟨q1,h1,h⟩:=bind_some h
  obtain ⟨q2,h2,h⟩:=bind_some h
  obtain ⟨q3,h3,h⟩:=bind_some h
  obtain ⟨q4,h4,h⟩:=bind_some h
  obtain ⟨q5,h5,h⟩:=bind_some h
  obtain ⟨q6,h6,h⟩:=bind_some h
  obtain ⟨q7,h7,h⟩:=bind_some h
  obtain ⟨q8,h8,h⟩:=bind_some h
  obtain ⟨q9,h9,h⟩:=bind_some h
  obtain ⟨q10,h10,h⟩:=bind_some h
  obtain ⟨q11,h11,h⟩:=bind_some h
  obtain ⟨q12,h12,h⟩:=bind_some h
  obtain ⟨q13,h13,h⟩:=bind_some h
  obtain ⟨q14,h14,h⟩:=bind_some h
  cases h
  simp only [toV,zi,zd h0,zd h1,zd h2,zd h3,zd h4,zd h5,zd h6,zd h7,zd h8,zd h9,zd h10,zd h11,zd h12,zd h13,za5 h14]
  rfl
 ·cases h
theorem zru {s:S} {x:W3} (h:zud s = some x):toV s = zlc x:=by
 unfold zud at h
 split at h
 ·obtain ⟨q0,h0,h⟩:=bind_some h
  obtain ⟨q1,h1,h⟩:=bind_some h
  obtain ⟨q2,h2,h⟩:=bind_some h
  cases h
  simp only [toV,zi,zd h0,zd h1,zd h2]
  rfl
 ·cases h
theorem ziP {s:S} {x:Config} (h:zeY s = some x):toV s = qN x:=by
 unfold zeY at h
 split at h
 ·obtain ⟨q0,h0,h⟩:=bind_some h
  obtain ⟨q1,h1,h⟩:=bind_some h
  obtain ⟨q2,h2,h⟩:=bind_some h
  obtain ⟨q3,h3,h⟩:=bind_some h
  obtain ⟨q4,h4,h⟩:=bind_some h
  obtain ⟨q5,h5,h⟩:=bind_some h
  obtain ⟨q6,h6,h⟩:=bind_some h
  obtain ⟨q7,h7,h⟩:=bind_some h
  obtain ⟨q8,h8,h⟩:=bind_some h
  obtain ⟨q9,h9,h⟩:=bind_some h
  obtain ⟨q10,h10,h⟩:=bind_some h
  obtain ⟨q11,h11,h⟩:=bind_some h
  obtain ⟨q12,h12,h⟩:=bind_some h
  obtain ⟨q13,h13,h⟩:=bind_some h
  obtain ⟨q14,h14,h⟩:=bind_some h
  obtain ⟨q15,h15,h⟩:=bind_some h
  cases h
  simp only [toV,zi,zd h0,zd h1,zd h2,zd h3,zd h4,zd h5,zd h6,zd h7,zd h8,zd h9,zd h10,zd h11,zd h12,zd h13,zd h14,zd h15]
  rfl
 ·cases h
theorem ziQ {s:S} {x:Script} (h:zeZ s = some x):toV s = qO x:=by
 unfold zeZ at h
 split at h
 ·obtain ⟨q0,h0,h⟩:=bind_some h
  obtain ⟨q1,h1,h⟩:=bind_some h
  obtain ⟨q2,h2,h⟩:=bind_some h
  cases h
  simp only [toV,zi,yA h0,yA h1,yA h2]
  rfl
 ·cases h
theorem zrv {s:S} {x:U3} (h:zue s = some x):toV s = zld x:=by
 unfold zue at h
 split at h
 ·obtain ⟨q0,h0,h⟩:=bind_some h
  obtain ⟨q1,h1,h⟩:=bind_some h
  obtain ⟨q2,h2,h⟩:=bind_some h
  cases h
  simp only [toV,zi,zd h0,zd h1,zd h2]
  rfl
 ·cases h
theorem zno {s:S} {x:Pair} (h:zlm s = some x):toV s = QN x:=by
 unfold zlm at h
 split at h
 ·obtain ⟨q0,h0,h⟩:=bind_some h
  obtain ⟨q1,h1,h⟩:=bind_some h
  cases h
  simp only [toV,zi,zd h0,zd h1]
  rfl
 ·cases h
theorem zpw {s:S} {x:Use} (h:zps s = some x):toV s = zgm x:=by
 unfold zps at h
 split at h
 ·obtain ⟨q0,h0,h⟩:=bind_some h
  obtain ⟨q1,h1,h⟩:=bind_some h
  obtain ⟨q2,h2,h⟩:=bind_some h
  obtain ⟨q3,h3,h⟩:=bind_some h
  obtain ⟨q4,h4,h⟩:=bind_some h
  obtain ⟨q5,h5,h⟩:=bind_some h
  obtain ⟨q6,h6,h⟩:=bind_some h
  obtain ⟨q7,h7,h⟩:=bind_some h
  cases h
  simp only [toV,zi,za5 h0,ZN h1,ZN h2,zd h3,zd h4,zd h5,zd h6,ZN h7]
  rfl
 ·cases h
theorem znp {s:S} {x:RUse} (h:zln s = some x):toV s = zhD x:=by
 unfold zln at h
 split at h
 ·obtain ⟨q0,h0,h⟩:=bind_some h
  obtain ⟨q1,h1,h⟩:=bind_some h
  obtain ⟨q2,h2,h⟩:=bind_some h
  obtain ⟨q3,h3,h⟩:=bind_some h
  obtain ⟨q4,h4,h⟩:=bind_some h
  obtain ⟨q5,h5,h⟩:=bind_some h
  obtain ⟨q6,h6,h⟩:=bind_some h
  obtain ⟨q7,h7,h⟩:=bind_some h
  obtain ⟨q8,h8,h⟩:=bind_some h
  obtain ⟨q9,h9,h⟩:=bind_some h
  cases h
  simp only [toV,zi,za5 h0,ZN h1,ZN h2,ZN h3,ZN h4,ZN h5,ZN h6,zd h7,zd h8,zd h9]
  rfl
 ·cases h
theorem zrw {s:S} {x:BI} (h:zuf s = some x):toV s = zle x:=by
 unfold zuf at h
 split at h
 ·obtain ⟨q0,h0,h⟩:=bind_some h
  obtain ⟨q1,h1,h⟩:=bind_some h
  cases h
  simp only [toV,zi,ZN h0,zd h1]
  rfl
 ·cases h
theorem yV:∀ {c:C} {s:S} {x:den c},Ze c s = some x->toV s = enc c x
 | .i64,s,x,h=>zd h
 | .u64,s,x,h=>zd h
 | .i32,s,x,h=>zd h
 | .u32,s,x,h=>zd h
 | .u8,s,x,h=>zd h
 | .i16,s,x,h=>zd h
 | .u16,s,x,h=>zd h
 | .i8,s,x,h=>zd h
 | .bool,s,x,h=>ZN h
 | .str,s,x,h=>za5 h
 | .iv,s,x,h=>zw3 h
 | .a3_i64,s,x,h=>ziM h
 | .a6_i64,s,x,h=>ziN h
 | .ID,s,x,h=>zrt h
 | .Contact,s,x,h=>zhS h
 | .Outc,s,x,h=>znm h
 | .Word,s,x,h=>znn h
 | .Row,s,x,h=>zpv h
 | .Fault,s,x,h=>zlo h
 | .Bundle,s,x,h=>ziO h
 | .Command,s,x,h=>zhT h
 | .W3,s,x,h=>zru h
 | .Config,s,x,h=>ziP h
 | .Script,s,x,h=>ziQ h
 | .U3,s,x,h=>zrv h
 | .Pair,s,x,h=>zno h
 | .Use,s,x,h=>zpw h
 | .RUse,s,x,h=>znp h
 | .BI,s,x,h=>zrw h
 | .l_W3,s,x,h=>yA h
 | .l_U3,s,x,h=>yA h
 | .l_Contact,s,x,h=>yA h
 | .l_Word,s,x,h=>yA h
 | .l_Row,s,x,h=>yA h
 | .l_Command,s,x,h=>yA h
 | .l_Config,s,x,h=>yA h
 | .l_Use,s,x,h=>yA h
 | .l_BI,s,x,h=>yA h
 | .l_u8,s,x,h=>yA h
 | .l_i64,s,x,h=>yA h
 | .l_u64,s,x,h=>yA h
 | .l_str,s,x,h=>yA h
 | .l_Pair,s,x,h=>yA h
theorem qz:∀ (c:C) (x:den c),toV (refl c x) = enc c x:=by
 intro c x; cases c <;> simp only [refl,enc,zdX,zhL,znf,zng,zqy,znh,zni,zqz,zjD,zbV,zqA,zfw,zfx,zqB,zdY,zjE,zjF,znj,zhM,zfy,zdZ,zqC,zfz,zfA,zqD,zjG,znk,zjH,zqE,zjI,zjJ,zbW,zfB,zhN,zbX,zcG,zhO,zjK,zjL,zhP,zhQ,zc3,zfC,toV,zi] <;> rfl
end Go.X
namespace Go.X
open Go.Eng
open Go.RowKit
inductive T (α:Type) where
 | nil
 | node (l:T α) (v:Option α) (r:T α)
def T.get {α:Type} (t:T α):Nat->Option α :=
 T.rec (motive:=fun _=>Nat->Option α) (fun _=>none) (fun _ v _ gl gr n=>cond (Nat.beq n 0) v (cond (Nat.beq (n % 2) 1) (gl (n / 2)) (gr (n / 2 - 1)))) t
def T.setF {α:Type} (f:Nat):T α->Nat->α->T α :=
 Nat.rec (motive:=fun _=>T α->Nat->α->T α) (fun t _ _=>t) (fun _ ih t n x=>T.casesOn (motive:=fun _=>T α) t
  (cond (Nat.beq n 0) (.node .nil (some x) .nil) (cond (Nat.beq (n % 2) 1) (.node (ih .nil (n / 2) x) none .nil) (.node .nil none (ih .nil (n / 2 - 1) x))))
  (fun l v r=>cond (Nat.beq n 0) (.node l (some x) r) (cond (Nat.beq (n % 2) 1) (.node (ih l (n / 2) x) v r) (.node l v (ih r (n / 2 - 1) x))))) f
theorem T.get_node0 {α:Type} (l:T α) (v:Option α) (r:T α) (n:Nat):(T.node l v r).get n = cond (Nat.beq n 0) v (cond (Nat.beq (n % 2) 1) (l.get (n / 2)) (r.get (n / 2 - 1))):=rfl
theorem T.setF_nil {α:Type} (f n:Nat) (x:α):T.setF (f + 1) .nil n x = cond (Nat.beq n 0) (.node .nil (some x) .nil) (cond (Nat.beq (n % 2) 1) (.node (T.setF f .nil (n / 2) x) none .nil) (.node .nil none (T.setF f .nil (n / 2 - 1) x))):=rfl
theorem T.setF_node {α:Type} (f:Nat) (l:T α) (v:Option α) (r:T α) (n:Nat) (x:α):T.setF (f + 1) (.node l v r) n x = cond (Nat.beq n 0) (.node l (some x) r) (cond (Nat.beq (n % 2) 1) (.node (T.setF f l (n / 2) x) v r) (.node l v (T.setF f r (n / 2 - 1) x))):=rfl
def T.set {α:Type} (t:T α) (n:Nat) (x:α):T α:=T.setF (n + 1) t n x
theorem beqF {n m:Nat} (h:¬ n = m):Nat.beq n m = false:=by
 cases hb:Nat.beq n m
 ·rfl
 ·exact absurd (Nat.eq_of_beq_eq_true hb) h
theorem T.get_nil {α:Type} (n:Nat):(T.nil:T α).get n = none:=rfl
theorem T.get_node {α:Type} (l:T α) (v:Option α) (r:T α) (n:Nat) :
  (T.node l v r).get n = if n = 0 then v else if n % 2 = 1 then l.get (n / 2) else r.get (n / 2 - 1):=by
 rw [T.get_node0]
 by_cases h:n = 0
 ·subst h; rfl
 ·have:Nat.beq n 0 = false:=beqF h
  rw [this,if_neg h]
  by_cases h1:n % 2 = 1
  ·rw [if_pos h1,h1]; rfl
  ·have:Nat.beq (n % 2) 1 = false:=beqF h1
   rw [this,if_neg h1]; rfl
theorem T.setF_succ {α:Type} (f:Nat) (t:T α) (n:Nat) (x:α):∃ l v r,(∀ m,t.get m = (T.node l v r).get m) /\
  T.setF (f + 1) t n x = if n = 0 then .node l (some x) r else if n % 2 = 1 then .node (T.setF f l (n / 2) x) v r else .node l v (T.setF f r (n / 2 - 1) x):=by
 cases t with
 | nil =>
  refine ⟨.nil,none,.nil,fun m=>by rw [T.get_node]; simp [T.get_nil],?_⟩
  rw [T.setF_nil]
  by_cases h:n = 0
  ·subst h; rfl
  ·have:Nat.beq n 0 = false:=beqF h
   rw [this,if_neg h]
   by_cases h1:n % 2 = 1
   ·rw [if_pos h1,h1]; rfl
   ·have:Nat.beq (n % 2) 1 = false:=beqF h1
    rw [this,if_neg h1]; rfl
 | node l v r =>
  refine ⟨l,v,r,fun m=>rfl,?_⟩
  rw [T.setF_node]
  by_cases h:n = 0
  ·subst h; rfl
  ·have:Nat.beq n 0 = false:=beqF h
   rw [this,if_neg h]
   by_cases h1:n % 2 = 1
   ·rw [if_pos h1,h1]; rfl
   ·have:Nat.beq (n % 2) 1 = false:=beqF h1
    rw [this,if_neg h1]; rfl
theorem T.get_setF {α:Type} (x:α):∀ (f:Nat) (t:T α) (n:Nat),n + 1 < 2 ^ f->∀ m,(T.setF f t n x).get m = if m = n then some x else t.get m
 | 0,_,n,h,_=>by simp at h
 | f + 1,t,n,h,m=>by
  obtain ⟨l,v,r,h1,h2⟩:=T.setF_succ f t n x
  rw [h2,h1 m]
  rw [Nat.pow_succ] at h
  by_cases h0:n = 0
  ·subst h0
   rw [if_pos rfl,T.get_node,T.get_node]
   by_cases hm:m = 0
   ·rw [if_pos hm,if_pos hm]
   ·rw [if_neg hm,if_neg hm,if_neg hm]
  ·rw [if_neg h0]
   by_cases h3:n % 2 = 1
   ·rw [if_pos h3,T.get_node,T.get_node]
    by_cases hm:m = 0
    ·rw [if_pos hm,if_pos hm,if_neg (by omega)]
    ·rw [if_neg hm,if_neg hm]
     by_cases hm1:m % 2 = 1
     ·rw [if_pos hm1,if_pos hm1,T.get_setF x f l (n / 2) (by omega) (m / 2)]
      by_cases he:m / 2 = n / 2
      ·rw [if_pos he,if_pos (by omega)]
      ·rw [if_neg he,if_neg (by omega)]
     ·rw [if_neg hm1,if_neg hm1,if_neg (by omega)]
   ·rw [if_neg h3,T.get_node,T.get_node]
    by_cases hm:m = 0
    ·rw [if_pos hm,if_pos hm,if_neg (by omega)]
    ·rw [if_neg hm,if_neg hm]
     by_cases hm1:m % 2 = 1
     ·rw [if_pos hm1,if_pos hm1,if_neg (by omega)]
     ·rw [if_neg hm1,if_neg hm1,T.get_setF x f r (n / 2 - 1) (by omega) (m / 2 - 1)]
      by_cases he:m / 2 - 1 = n / 2 - 1
      ·rw [if_pos he,if_pos (by omega)]
      ·rw [if_neg he,if_neg (by omega)]
theorem T.get_set {α:Type} {t:T α} {n:Nat} {x:α} (m:Nat):(t.set n x).get m = if m = n then some x else t.get m :=
 T.get_setF x (n + 1) t n Nat.lt_two_pow_self m
def T.mapV {α:Type} (f:α->α) (t:T α):T α :=
 T.rec (motive:=fun _=>T α) .nil (fun _ v _ ml mr=>.node ml (v.map f) mr) t
theorem T.get_mapV {α:Type} (f:α->α):∀ (t:T α) (n:Nat),(t.mapV f).get n = (t.get n).map f
 | .nil,n=>rfl
 | .node l v r,n=>by
  show (T.node (l.mapV f) (v.map f) (r.mapV f)).get n = _
  rw [T.get_node,T.get_node]
  split
  ·rfl
  split
  ·exact T.get_mapV f l _
  ·exact T.get_mapV f r _
abbrev Tk:=Option (Nat × TypeId)
inductive qg where
 | cells (cs:List S) (ty:TypeId)
 | map (mt:TypeId) (kc vc:C) (l:List (den kc × den vc))
def zE:qg->Box
 | .cells cs ty=>⟨zi cs,ty⟩
 | .map mt kc vc l=>⟨zgF (enc kc) (enc vc) l,1000000000 + mt⟩
structure RO where
 all:Bool
 mask:Nat
 sl:Nat->S × Tk
 nb:Nat
 bmask:Nat
 bx:Nat->Option qg
 fl:Bool
structure Mm where
 sl:T (S × Tk)
 bx:List (Option qg)
def RO.own (ro:RO) (s:Nat):Bool:=bif ro.all then true else Nat.testBit ro.mask s
def RO.ownB (ro:RO) (i:Nat):Bool:=bif Nat.ble ro.nb i then true else Nat.testBit ro.bmask i
def zN (ro:RO) (m:Mm) (s:Nat):S × Tk:=bif ro.own s then (m.sl.get s).getD (.any,none) else ro.sl s
def zz (ro:RO) (m:Mm) (i:Nat):Option qg:=bif ro.ownB i then (m.bx[i]?).getD none else ro.bx i
def zh (ro:RO) (m:Mm):St :=
 ⟨m.bx.length,fun s=>(toV (zN ro m s).1,(zN ro m s).2),fun i=>(zz ro m i).map zE⟩
variable {β:Type}
def ZT (ro:RO) (m:Mm) (dst:Option Nat) (v:S) (tk:Tk) (k:Mm->Option β):Option β :=
 match dst with
 | none=>k m
 | some d=>bif ro.own d then k ⟨m.sl.set d (v,tk),m.bx⟩ else none
def zby (t:Nat) (x:S × Tk):S × Tk:=match x.2 with
 | some (t',e)=>bif Nat.beq t' t || Nat.beq t' (t + 3000000) then (x.1,none) else x
 | none=>x
def zqF (ro:RO) (m:Mm) (dr:Bool) (o:Oper) (v:S) (tk:Tk) (k:Mm->Option β):Option β :=
 bif yr o then ZT ro m o.dst v tk k else
  match tk with
  | none=>ZT ro m o.dst v none k
  | some (t,e)=>bif Nat.blt (tcl t) 2 && (!dr || Qw o && (match o.dst with | some d=>Nat.beq d (t % 1000000) | none=>false)) then ZT ro ⟨m.sl.mapV (zby t),m.bx⟩ o.dst v (some (t,e)) k else none
def zhU:Value->S
 | .int k n=>.int k n
 | .bool b=>.bool b
 | .string s=>bif Nat.ble s.size maxLen then .str s.data.toList else .any
 | .pointer none=>.nilp
 | .slice none 0 0=>.rows []
 | .nilFunc=>.nilfn
 | .nilIface=>.nilif
 | _=>.any
def za6:Value->S
 | .agg cs=>bif cs.toList.all (fun x=>x.oneCell') then .agg (cs.toList.map zhU) else .any
 | .tuple cs=>.tup (cs.toList.map zhU)
 | v=>zhU v
def evalX (ro:RO) (m:Mm):Operand->S
 | .tmp t=>(zN ro m t).1
 | .const v=>za6 v
 | .global g=>.gel g 0
 | .func f=>.fn (.func f) [] []
def zvA (ro:RO) (m:Mm):Operand->Tk
 | .tmp t=>(zN ro m t).2
 | _=>none
instance (k:IntKind) (n:Int):Decidable (InR k n):=inferInstanceAs (Decidable (k.wrap n = n))
def yj (k:IntKind) (a b:Int):Option Int:=if InR k (a + b) then some (a + b) else none
def zf5 (k:IntKind) (a b:Int):Option Int:=if InR k (a - b) then some (a - b) else none
def zxR (k:IntKind) (a b:Int):Option Int:=if InR k (a * b) then some (a * b) else none
def zbz (k:IntKind) (a b:Int):Option Int:=if b ≠ 0/\InR k (a.tdiv b) then some (a.tdiv b) else none
def zf6 (a b:Int):Option Int:=if b ≠ 0 then some (a.tmod b) else none
def zO (s t:List UInt8):Option (List UInt8):=if s.length + t.length <= maxLen then some (s++t) else none
def slc {α:Type} (l:List α) (lo hi:Int):Option (List α):=if 0 <= lo/\lo <= hi/\hi <= l.length then some ((l.take hi.toNat).drop lo.toNat) else none
def idx {α:Type} (l:List α) (i:Int):Option α:=if 0 <= i then l[i.toNat]? else none
def za7 (s:List UInt8) (i:Int):Option Int:=(idx s i).map fun b=>(b.toNat:Int)
def app {α:Type} (by':Nat) (l m:List α):Option (List α):=if (l.length + m.length) * by' <= 140737488355328 then some (l++m) else none
def zY (s:List UInt8):List Int:=s.map fun b=>(b.toNat:Int)
def Zz (l:List Int):Option (List UInt8):=if l.all (fun n=>decide (0 <= n) && decide (n < 256)) then some (l.map fun n=>UInt8.ofNat n.toNat) else none
def br {α:Type} (b:Bool) (x y:α):α:=cond b x y
def zc6:S->Option Nat
 | .agg cs=>some cs.length
 | .any | .un | .tup _=>none
 | .gel _ _=>none
 | _=>some 1
def qP:S->List S
 | .agg cs=>cs
 | v=>[v]
def zfD:S->Option CK
 | .int k _=>some (.int k)
 | .bool _=>some .bool
 | .str _=>some .str
 | _=>none
def zgn:S->S->Bool
 | .int _ a,.int _ b=>a == b
 | .bool a,.bool b=>a == b
 | .str a,.str b=>a == b
 | _,_=>false
def eqS:List S->List S->Bool
 | [x],[y]=>zgn x y
 | x :: xs,y :: ys=>zgn x y && eqS xs ys
 | _,_=>true
def zrx:CK->CK->Bool
 | .int k,.int k'=>decide (k = k')
 | .bool,.bool=>true
 | .str,.str=>true
 | _,_=>false
def Zn:List CK->List S->Bool
 | [],[]=>true
 | k :: ks,c :: cs=>(match zfD c with | some k'=>zrx k' k | none=>false) && Zn ks cs
 | _,_=>false
mutual
def yk:S->Bool
 | .loc _ _=>false
 | .loco _ _ _ _=>false
 | .mref _=>false
 | .agg cs=>qD cs
 | .tup cs=>qD cs
 | .elt cs _=>qD cs
 | .rows vs=>qD vs
 | .fn _ first cap=>qD first && qD cap
 | .iface _ v=>yk v
 | _=>true
def qD:List S->Bool
 | []=>true
 | c :: cs=>yk c && qD cs
end
def zaC:(c:C)->den c->Bool
 | .i64,n=>decide (InR .i64 n)
 | .u64,n=>decide (InR .u64 n)
 | .str,_=>true
 | .Pair,p=>decide (InR .i64 p.a) && decide (InR .i64 p.b)
 | .ID,p=>decide (InR .i64 p.Node) && decide (InR .u64 p.Seq) && decide (InR .i64 p.Off)
 | .Outc,p=>decide (InR .i64 p.Tick) && decide (InR .i64 p.Node) && decide (InR .i64 p.Kind) && decide (InR .i64 p.ID.Node) && decide (InR .u64 p.ID.Seq) && decide (InR .i64 p.ID.Off) && decide (InR .i64 p.Other)
 | _,_=>false
def ckC:C->Option (Bool × List CK)
 | .i64=>some (false,[.int .i64])
 | .u64=>some (false,[.int .u64])
 | .str=>some (false,[.str])
 | .Pair=>some (true,[.int .i64,.int .i64])
 | .ID=>some (true,[.int .i64,.int .u64,.int .i64])
 | .Outc=>some (true,[.int .i64,.int .i64,.int .i64,.int .i64,.int .u64,.int .i64,.int .i64])
 | _=>none
def znq:List CK->List CK->Bool
 | [],[]=>true
 | a :: l,b :: m=>zrx a b && znq l m
 | _,_=>false
def znr {α β:Type} [DecidableEq α] (kin:α->Bool) (l:List (α × β)) (k:α):Option (Option β):=bif kin k && l.all (fun e=>kin e.1) then some (zct l k) else none
def zns {α β:Type} [DecidableEq α] (kin:α->Bool) (l:List (α × β)) (k:α) (v:β):Option (List (α × β)):=bif kin k && l.all (fun e=>kin e.1) then some (zfT l k v) else none
theorem zvB {a b:CK} (h:zrx a b = true):a = b:=by
 cases a <;> cases b <;> simp [zrx] at h <;> simp [*]
theorem zlp:∀ {a b:List CK},znq a b = true->a = b
 | [],[],_=>rfl
 | [],_ :: _,h=>by simp [znq] at h
 | _ :: _,[],h=>by simp [znq] at h
 | a :: l,b :: m,h=>by
  simp only [znq,zyL] at h
  rw [zvB h.1,zlp h.2]
theorem zgo {c:C} {ag:Bool} {ks:List CK} (h:ckC c = some (ag,ks)) {x:den c} (hx:zaC c x = true):zbo ag ks (enc c x):=by
 cases c <;> simp only [ckC,zyO,Prod.mk.injEq,reduceCtorEq] at h <;> obtain ⟨rfl,rfl⟩:=h <;>
  simp only [zaC,zyL,decide_eq_true_eq] at hx
 ·exact ⟨rfl,rfl,⟨⟨rfl,hx⟩,trivial⟩⟩
 ·exact ⟨rfl,rfl,⟨⟨rfl,hx⟩,trivial⟩⟩
 ·exact ⟨rfl,rfl,trivial⟩
 ·exact ⟨rfl,rfl,⟨⟨rfl,hx.1.1⟩,⟨rfl,hx.1.2⟩,⟨rfl,hx.2⟩,trivial⟩⟩
 ·obtain ⟨⟨⟨⟨⟨⟨h1,h2⟩,h3⟩,h4⟩,h5⟩,h6⟩,h7⟩:=hx
  exact ⟨rfl,rfl,⟨⟨rfl,h1⟩,⟨rfl,h2⟩,⟨rfl,h3⟩,⟨rfl,h4⟩,⟨rfl,h5⟩,⟨rfl,h6⟩,⟨rfl,h7⟩,trivial⟩⟩
 ·exact ⟨rfl,rfl,⟨⟨rfl,hx.1⟩,⟨rfl,hx.2⟩,trivial⟩⟩
theorem znt {c:C} {d:DecidableEq (den c)} (h:dq c = some d) (a b:den c):Zs (enc c a) (enc c b) = decide (a = b):=by
 have key:(Zs (enc c a) (enc c b) = true ↔ a = b):=by
  cases c <;> simp only [dq,reduceCtorEq] at h
  ·show Zs (.int .i64 a) (.int .i64 b) = true ↔ a = b
   simp [Zs,V.cellsL,eqV,Y1]
  ·show Zs (.int .u64 a) (.int .u64 b) = true ↔ a = b
   simp [Zs,V.cellsL,eqV,Y1]
  ·show Zs (.str a) (.str b) = true ↔ a = b
   simp [Zs,V.cellsL,eqV,Y1]
  ·obtain ⟨a1,a2,a3⟩:=a; obtain ⟨b1,b2,b3⟩:=b
   show Zs (zeO ⟨a1,a2,a3⟩) (zeO ⟨b1,b2,b3⟩) = true ↔ _
   simp [Zs,zeO,V.cellsL,eqV,Y1]
  ·obtain ⟨a1,a2,a3,⟨a4,a5,a6⟩,a7⟩:=a; obtain ⟨b1,b2,b3,⟨b4,b5,b6⟩,b7⟩:=b
   show Zs (zaB ⟨a1,a2,a3,⟨a4,a5,a6⟩,a7⟩) (zaB ⟨b1,b2,b3,⟨b4,b5,b6⟩,b7⟩) = true ↔ _
   simp [Zs,zaB,V.cellsL,eqV,Y1,and_assoc]
  ·obtain ⟨a1,a2⟩:=a; obtain ⟨b1,b2⟩:=b
   show Zs (QN ⟨a1,a2⟩) (QN ⟨b1,b2⟩) = true ↔ _
   simp [Zs,QN,V.cellsL,eqV,Y1]
 rw [Bool.eq_iff_iff,key]; simp
section
variable (P:Program) (code:TypeId->Option C) (ro:RO) (m:Mm)
def Qi (c:C):List S->Option (List (den c))
 | []=>some []
 | s :: ss=>match Ze c s with
  | some x=>(match Qi c ss with | some xs=>some (x :: xs) | none=>none)
  | none=>none
def znu (c:C) (g off n:Nat):Option (den c):=match GL g with
 | some vs=>if off + n <= vs.length then Ze c (.agg (((vs.map za6).drop off).take n)) else none
 | none=>none
def zw5 (c:C) (g off:Nat):Option (den c):=match GL g with
 | some vs=>(match (vs.map za6)[off]? with | some s=>Ze c s | none=>none)
 | none=>none
def zug (c:C) (g n:Nat):Nat->Nat->Option (List (den c))
 | 0,_=>some []
 | k + 1,off=>match znu c g off n,zug c g n k (off + n) with
  | some x,some l=>some (x :: l)
  | _,_=>none
def zxS (t:TypeId):Option (C × Nat):=match code t with | some c=>zye c | none=>none
def zuh (t:TypeId) (x:S) (K:S->Option β):Option β :=
 match x,aggT P t with
 | .elt cs off,some true=>(match sizeT P t with | some n=>bif Nat.ble (off + n) cs.length then K (.agg ((cs.drop off).take n)) else none | none=>none)
 | .elt cs off,some false=>(match cs[off]? with | some c=>K c | none=>none)
 | .loc i off,some true=>(match zz ro m i,sizeT P t with | some (.cells cs ty),some n=>bif Nat.blt ty 1000000000 && Nat.ble (off + n) cs.length then K (.agg ((cs.drop off).take n)) else none | _,_=>none)
 | .loc i off,some false=>(match zz ro m i with | some (.cells cs ty)=>bif Nat.blt ty 1000000000 then (match cs[off]? with | some c=>K c | none=>none) else none | _=>none)
 | .loco i a n ix,some false=>(match zz ro m i,code t with
  | some (.cells cs ty),some c=>bif Nat.blt ty 1000000000 && Nat.ble (a + n) cs.length then (match Qi c ((cs.drop a).take n) with | some l=>(idx l ix).bind fun y=>K (refl c y) | none=>none) else none
  | _,_=>none)
 | .gel g off,some true=>(match sizeT P t,code t with | some n,some c=>(znu c g off n).bind fun y=>K (refl c y) | _,_=>none)
 | .gel g off,some false=>(match code t with | some c=>(zw5 c g off).bind fun y=>K (refl c y) | none=>none)
 | _,_=>none
def zyf (k:IntKind) (a b:Int):Option Int:=if 0 <= b then some (k.wrap (a * 2 ^ (min b.toNat k.bits))) else none
def zyg (k:IntKind) (a b:Int):Option Int:=if 0 <= b then some (a.fdiv (2 ^ (min b.toNat k.bits))) else none
def shX (op:BinOp) (k:IntKind) (a b:Int) (K:S->Option β):Option β :=
 match op with
 | .shl=>(zyf k a b).bind fun n=>K (.int k n)
 | .shr=>(zyg k a b).bind fun n=>K (.int k n)
 | _=>none
def zw6:BinOp->Bool
 | .shl=>true
 | .shr=>true
 | _=>false
def zw7 (op:BinOp) (k:IntKind) (a b:Int) (K:S->Option β):Option β :=
 match op with
 | .add=>(yj k a b).bind fun n=>K (.int k n)
 | .sub=>(zf5 k a b).bind fun n=>K (.int k n)
 | .mul=>(zxR k a b).bind fun n=>K (.int k n)
 | .quo=>(zbz k a b).bind fun n=>K (.int k n)
 | .rem=>(zf6 a b).bind fun n=>K (.int k n)
 | .eql=>K (.bool (a == b))
 | .neq=>K (.bool (a != b))
 | .lss=>K (.bool (decide (a < b)))
 | .leq=>K (.bool (decide (a <= b)))
 | .gtr=>K (.bool (decide (b < a)))
 | .geq=>K (.bool (decide (b <= a)))
 | .and=>K (.int k (zcu .and k a b))
 | .or=>K (.int k (zcu .or k a b))
 | .xor=>K (.int k (zcu .xor k a b))
 | .andNot=>K (.int k (zcu .andNot k a b))
 | _=>none
def zw8 (op:BinOp) (s t:List UInt8) (K:S->Option β):Option β :=
 match op with
 | .add=>(zO s t).bind fun r=>K (.str r)
 | .eql=>K (.bool (s == t))
 | .neq=>K (.bool (!(s == t)))
 | .lss=>K (.bool (Op.bytesLess s t))
 | .leq=>K (.bool (Op.bytesLess s t || s == t))
 | .gtr=>K (.bool (!(Op.bytesLess s t || s == t)))
 | .geq=>K (.bool (!Op.bytesLess s t))
 | _=>none
def zw9 (op:BinOp) (xT:TypeId) (a b:S) (K:S->Option β):Option β :=
 match a,b with
 | .int k x,.int k' y=>bif zw6 op then shX op k x y K else if k = k' then zw7 op k x y K else none
 | .str s,.str t=>zw8 op s t K
 | .bool x,.bool y=>(match op,qK P xT with
  | .eql,.bool=>K (.bool (x == y))
  | .neq,.bool=>K (.bool (!(x == y)))
  | _,_=>none)
 | .agg cs,.agg ds=>(match op,eqT P xT with
  | .eql,some ks=>bif Zn ks cs && Zn ks ds then K (.bool (eqS cs ds)) else none
  | .neq,some ks=>bif Zn ks cs && Zn ks ds then K (.bool (!eqS cs ds)) else none
  | _,_=>none)
 | _,_=>none
def unX (op:UnOp) (x:S) (K:S->Option β):Option β :=
 match op,x with
 | .not,.bool b=>K (.bool (!b))
 | .neg,.int k n=>(zf5 k 0 n).bind fun r=>K (.int k r)
 | _,_=>none
def zui (s d:TypeId) (x:S) (K:S->Option β):Option β :=
 match x,qK P s,qK P d with
 | .int _ n,.int _,.int k=>K (.int k (k.wrap n))
 | .str l,.str,.str=>K (.str l)
 | .str l,.str,.other=>(match qB P d with
  | some e=>(match qK P e with | .int .u8=>K (.lst .u8 (zY l)) | _=>none)
  | none=>none)
 | .lst .u8 rows,.other,.str=>(match qB P s with
  | some e=>(match qK P e with | .int .u8=>(Zz rows).bind fun r=>K (.str r) | _=>none)
  | none=>none)
 | _,_,_=>none
def zc7 (x:Option Operand) (d:Int) (K:Int->Option β):Option β :=
 match x with
 | none=>K d
 | some x=>(match evalX ro m x with
  | .int _ i=>K i
  | _=>none)
def zfE (t:TypeId) (c:C):Option (TypeId × Nat):=match qB P t with
 | some e=>(match sizeT P e with | some n=>bif Nat.beq n (csz c) then some (e,n) else none | none=>none)
 | none=>none
def zlq (t:TypeId) (x:S) (lo hi mx:Option Operand) (dst:Option Nat) (K:S->Tk->Option β):Option β :=
 match x,mx with
 | .str s,none=>(match qK P t with
  | .str=>zc7 ro m lo 0 fun l=>zc7 ro m hi s.length fun h=>(slc s l h).bind fun r=>K (.str r) none
  | _=>none)
 | .lst c l,none=>(match zfE P t c with
  | some _=>zc7 ro m lo 0 fun a=>zc7 ro m hi l.length fun h=>(slc l a h).bind fun r=>K (.lst c r) none
  | none=>none)
 | .lst c l,some mx=>(match zfE P t c,hi with
  | some (e,_),some hi=>zc7 ro m lo 0 fun a=>zc7 ro m (some hi) l.length fun h=>zc7 ro m (some mx) l.length fun h'=>br (decide (h' = h)) ((slc l a h).bind fun r=>K (.lst c r) (some (zjX hi (dst.getD 0),e))) none
  | _,_=>none)
 | _,_=>none
def zlr (t:TypeId) (x:S) (lo hi mx:Option Operand) (dst:Option Nat) (K:S->Tk->Option β):Option β :=
 match x with
 | .gel g a=>(match lo,hi,mx,zfQ P t with
  | none,none,none,some (len,e)=>(match sizeT P e,code e with
   | some n,some c=>bif Nat.beq n (csz c) && Nat.ble len maxLen && Nat.blt 0 len then (zug c g n len a).bind fun r=>K (.lst c r) none else none
   | _,_=>none)
  | _,_,_,_=>none)
 | .elt cs a=>(match lo,hi,mx,zfQ P t with
  | none,none,none,some (len,e)=>(match sizeT P e,code e with
   | some n,some c=>bif Nat.beq n 1 && Nat.ble (a + len) cs.length && Nat.ble len maxLen && Nat.blt 0 len then (match Qi c ((cs.drop a).take len) with | some l=>K (.lst c l) none | none=>none) else none
   | _,_=>none)
  | _,_,_,_=>none)
 | x=>zlq P ro m t x lo hi mx dst K
def zpx (s:TypeId) (i:Nat) (x:S) (K:S->Option β):Option β :=
 match fieldT P s i with
 | some (off,t)=>(match sizeT P t with
  | some n=>bif Nat.beq n 0 then none else (match x with
   | .loc j a=>K (.loc j (a + off))
   | .elt cs a=>K (.elt cs (a + off))
   | .gel g a=>(match GL g with | some _=>K (.gel g (a + off)) | none=>none)
   | _=>none)
  | none=>none)
 | none=>none
def zpy (s:TypeId) (i:Nat) (x:S) (K:S->Option β):Option β :=
 match fieldT P s i,x with
 | some (off,t),.agg cs=>(match aggT P t,sizeT P t with
  | some true,some n=>K (.agg ((cs.drop off).take n))
  | some false,_=>(match cs[off]? with | some c=>K c | none=>none)
  | _,_=>none)
 | _,_=>none
def inB (i:Int) (n:Nat):Bool:=decide (0 <= i) && decide (i < (n:Int))
def zpz (t:TypeId) (x i:S) (K:S->Option β):Option β :=
 match x,i with
 | .lst c l,.int _ i=>(match zfE P t c with
  | some _=>(idx l i).bind fun x=>K (.elt (qP (refl c x)) 0)
  | none=>none)
 | .loc j a,.int _ i=>(match zfQ P t with
  | some (len,e)=>(match sizeT P e with
   | some n=>(match zxS code t with
    | some (_,k)=>bif Nat.beq n 1 && Nat.beq k len then br (inB i len) (K (.loco j a len i)) none else none
    | none=>br (inB i len) (K (.loc j (a + i.toNat * n))) none)
   | none=>none)
  | none=>none)
 | .elt cs a,.int _ i=>(match zfQ P t with
  | some (len,e)=>(match sizeT P e with | some n=>br (inB i len) (K (.elt cs (a + i.toNat * n))) none | none=>none)
  | none=>none)
 | .gel g a,.int _ i=>(match zfQ P t with
  | some (len,e)=>(match sizeT P e,GL g with | some n,some _=>br (inB i len) (K (.gel g (a + i.toNat * n))) none | _,_=>none)
  | none=>none)
 | _,_=>none
def zpA (t:TypeId) (x i:S) (K:S->Option β):Option β :=
 match x,i with
 | .str s,.int _ i=>(match qK P t with
  | .str=>(za7 s i).bind fun b=>K (.int .u8 b)
  | _=>none)
 | .agg cs,.int _ i=>(match zfQ P t with
  | some (len,e)=>(match aggT P e,sizeT P e with
   | some false,some n=>(match zxS code t with
    | some (c,_)=>bif Nat.beq n 1 then br (inB i len) (match Qi c cs with | some l=>(idx l i).bind fun y=>K (refl c y) | none=>none) none else none
    | none=>br (inB i len) (match cs[i.toNat * n]? with | some c=>K c | none=>none) none)
   | _,_=>none)
  | none=>none)
 | _,_=>none
def znv (place:Nat->Option (Nat × Nat)) (cells:List S):List (Nat × S)->Option (List S)
 | []=>some cells
 | (i,v) :: rest =>
  match place i,zc6 v with
  | some (off,size),some n=>bif Nat.beq n size && Nat.ble (off + n) cells.length then znv place (cells.take off++qP v++cells.drop (off + n)) rest else none
  | _,_=>none
def zfF (t:TypeId):Option S:=((P.info? t).bind (·.zero)).map za6
def zpB (t:TypeId) (parts:List (Nat × Operand)) (K:S->Option β):Option β :=
 match zfF P t,zgf P t with
 | some zv,some place=>(match zc6 zv with
  | some _=>(match znv place (qP zv) (parts.map fun x=>(x.1,evalX ro m x.2)) with
   | some out=>K (.agg out)
   | none=>none)
  | none=>none)
 | _,_=>none
def zls (n:Nat):List S->Bool
 | []=>true
 | s :: ss=>(match zc6 s with | some k=>Nat.beq k n | none=>false) && zls n ss
def zlt (t:TypeId) (len:Nat) (parts:List (Nat × Operand)) (dst:Option Nat) (K:S->Tk->Option β):Option β :=
 match qB P t with
 | some e=>(match sizeT P e,zfF P e with
  | some sz,some zv=>(match zc6 zv with
   | some zn=>bif !Nat.beq sz 0 && Nat.beq zn sz && Nat.beq parts.length len && Nat.ble (len * sz) 16777216 && zlU parts 0 then
     (match code e with
     | some c=>(match Qi c (parts.map fun x=>evalX ro m x.2) with
      | some l=>bif Nat.beq (csz c) sz then K (.lst c l) (some (dst.getD 0,e)) else none
      | none=>none)
     | none=>bif zls sz (parts.map fun x=>evalX ro m x.2) then K (.rows (parts.map fun x=>evalX ro m x.2)) (some (dst.getD 0,e)) else none)
    else none
   | none=>none)
  | _,_=>none)
 | none=>none
def zxa (x:S) (K:S->Option β):Option β :=
 match x with
 | .loc i off=>K (.loc i off)
 | .elt cs off=>K (.elt cs off)
 | .gel g off=>(match GL g with | some _=>K (.gel g off) | none=>none)
 | _=>none
def zxb (t:TypeId) (x:S) (K:S->Option β):Option β :=
 match x with
 | .lst c l=>(match qB P t with | some _=>K (.int .i64 l.length) | none=>none)
 | .rows vs=>(match qB P t with | some _=>K (.int .i64 vs.length) | none=>none)
 | .str s=>(match qK P t with | .str=>K (.int .i64 s.length) | _=>none)
 | _=>none
def zhV (b:Builtin) (args:List S) (tys:List TypeId) (K:S->Option β):Option β :=
 match b,args,tys with
 | .len,[x],[t]=>zxb P t x K
 | .max,[.int k a,.int k' b],[_,_]=>if k = k' then K (.int k (max a b)) else none
 | .min,[.int k a,.int k' b],[_,_]=>if k = k' then K (.int k (min a b)) else none
 | _,_,_=>none
def zlu (o:Oper) (x:Operand) (K:S->Tk->Option β):Option β :=
 match x with
 | .const (.slice none 0 0)=>(match qB P o.type with
  | some e=>(match code e with
   | some c=>K (.lst c []) (some (o.dst.getD 0,e))
   | none=>K (.rows []) (some (o.dst.getD 0,e)))
  | none=>K (.rows []) none)
 | x=>K (evalX ro m x) (zvA ro m x)
def zuj (c a b:S) (K:S->Option β):Option β :=
 match c with
 | .bool t=>(match a,b with
  | .bool x,.bool y=>K (.bool (bif t then x else y))
  | .int k x,.int k' y=>if k = k' then K (.int k (bif t then x else y)) else none
  | .str x,.str y=>K (.str (bif t then x else y))
  | a,b=>br t (K a) (K b))
 | _=>none
def zuk (o:Oper) (K:S->Tk->Option β):Option β :=
 match o.op with
 | .move x=>K (evalX ro m x) (zvA ro m x)
 | .assign x=>zlu P code ro m o x K
 | .pick c x y=>zuj (evalX ro m c) (evalX ro m x) (evalX ro m y) (K · none)
 | .load t x=>zuh P code ro m t (evalX ro m x) (K · none)
 | .binOp op xT x y _=>zw9 P op xT (evalX ro m x) (evalX ro m y) (K · none)
 | .unOp op _ x=>unX op (evalX ro m x) (K · none)
 | .convert s d x=>zui P s d (evalX ro m x) (K · none)
 | .makeInterface t x=>bif zjY P t then K (.iface t (evalX ro m x)) none else none
 | .makeFunc f first cap=>K (.fn f (first.toList.map (evalX ro m)) (cap.toList.map (evalX ro m))) none
 | .slice t x lo hi mx=>zlr P code ro m t (evalX ro m x) lo hi mx o.dst K
 | .fieldAddr s x i=>zpx P s i (evalX ro m x) (K · none)
 | .field s x i=>zpy P s i (evalX ro m x) (K · none)
 | .indexAddr t x i=>zpz P code t (evalX ro m x) (evalX ro m i) (K · none)
 | .index t x i=>zpA P code t (evalX ro m x) (evalX ro m i) (K · none)
 | .extract x i=>(match evalX ro m x with | .tup vs=>(match vs[i]? with | some v=>K v none | none=>none) | _=>none)
 | .build t parts=>zpB P ro m t parts.toList (K · none)
 | .buildSlice t len parts=>zlt P code ro m t len parts.toList o.dst K
 | .nilCheck x=>zxa (evalX ro m x) (K · none)
 | .call { callee:=.builtin b,args,argTypes }=>zhV P b (args.toList.map (evalX ro m)) argTypes.toList (K · none)
 | _=>none
end
end Go.X
namespace Go.X
open Go.Eng
open Go.RowKit
mutual
def Y9 (f:Nat->Nat):S->S
 | .loc i off=>.loc (f i) off
 | .loco i off n ix=>.loco (f i) off n ix
 | .mref i=>.mref (f i)
 | .agg cs=>.agg (zaD f cs)
 | .tup cs=>.tup (zaD f cs)
 | .elt cs off=>.elt (zaD f cs) off
 | .rows vs=>.rows (zaD f vs)
 | .fn g first cap=>.fn g (zaD f first) (zaD f cap)
 | .iface t v=>.iface t (Y9 f v)
 | v=>v
def zaD (f:Nat->Nat):List S->List S
 | []=>[]
 | c :: cs=>Y9 f c :: zaD f cs
end
mutual
def ZA:S->List Nat
 | .loc i _=>[i]
 | .loco i _ _ _=>[i]
 | .mref i=>[i]
 | .agg cs=>yW cs
 | .tup cs=>yW cs
 | .elt cs _=>yW cs
 | .rows vs=>yW vs
 | .fn _ first cap=>yW first++yW cap
 | .iface _ v=>ZA v
 | _=>[]
def yW:List S->List Nat
 | []=>[]
 | c :: cs=>ZA c++yW cs
end
def YT:List Nat->List Nat->List Nat
 | [],acc=>acc
 | i :: is,acc=>bif acc.any (Nat.beq i) then YT is acc else YT is (acc++[i])
def ze0:List Nat->Nat->Nat
 | [],_=>0
 | x :: xs,i=>bif Nat.beq x i then 0 else ze0 xs i + 1
def zbY:qg->Bool
 | .cells cs _=>qD cs
 | .map _ _ _ _=>true
structure XSpec (P:Program) where
 f:FuncId
 run:{β:Type}->List S->List qg->(S->List qg->Option β)->Option (Option β)
 sound:∀ {β:Type} (args:List S) (ins:List qg) (K:S->List qg->Option β) (r:β),run args ins K = some (some r) ->
  ∃ res outs,K res outs = some r/\zbH P f = true/\Go.Eng.Fn P f (zi args) (ins.map zE) (toV res) (outs.map zE)/\yk res = true/\(∀ B ∈ outs,zbY B = true)/\outs.length = ins.length
def zv4 (v:Value):Option FuncId->Array Value
 | none=>#[v]
 | some g=>#[v,.func (.func g) #[] #[]]
structure zxT (P:Program) (f:FuncId) (g:Option FuncId) {α:Type} (enc:α->V) (sz:Nat) (srt:List α->List α):Prop where
 nil:∀ (w:World) (pr:Nat->Nat->Prop) (base:Option Addr) (cap:Nat),HL w pr->Calls P f (zv4 (.slice base 0 cap) g) w fun en w'=>en = .returned (.tuple #[])/\Below w.heap.size w w'/\DLE w w'
 row:∀ (w:World) (pr:Nat->Nat->Prop) (lam:Nat->Option Nat) (blk cap:Nat) (d:List α) (cur:Array Value) (e:TypeId),HL w pr->((∀ k vs,GL k = some vs->blk ≠ k)/\TN ≠ some blk)->d ≠ []->d.length <= cap->cap <= maxLen->d.length < 4611686018427387904 ->
  w.heap[blk]? = some (.cells cur e (0,0))->cur.size = cap * sz->RR ⟨w,pr,lam⟩ blk sz 0 (d.map enc) ->
  Calls P f (zv4 (.slice (some ⟨blk,0,none⟩) d.length cap) g) w fun en w'=>en = .returned (.tuple #[]) /\
   ∃ w1 cur',zmb w w1 blk/\w1.heap[blk]? = some (.cells cur' e (0,0))/\cur'.size = cur.size/\RR ⟨w1,pr,lam⟩ blk sz 0 ((srt d).map enc)/\Below w1.heap.size w1 w'/\DLE w1 w'
 len:∀ d,(srt d).length = d.length
structure zxU (P:Program) where
 f:FuncId
 g:Option FuncId
 c:C
 srt:List (den c)->List (den c)
 sound:zxT P f g (enc c) (csz c) srt
 go:zbH P f = true
structure zlv (P:Program) where
 f:FuncId
 c:C
 e:TypeId
 run:List S->Option (Option (List (den c)))
 sound:∀ (args:List S) (l:List (den c)),run args = some (some l)->zbH P f = true/\FnO P f (zi args) (.list (l.map (enc c))) e
structure ziR (P:Program) where
 f:FuncId
 p:Nat
 c:C
 e:TypeId
 run:{β:Type}->List S->List qg->(List (den c)->List qg->Option β)->Option (Option β)
 sound:∀ {β:Type} (args:List S) (ins:List qg) (K:List (den c)->List qg->Option β) (r:β),run args ins K = some (some r) ->
  ∃ l outs,K l outs = some r/\zbH P f = true/\FnM P f (zi args) (ins.map zE) p e (.list (l.map (enc c))) (outs.map zE)/\(∀ B ∈ outs,zbY B = true)/\outs.length = ins.length
def zgp {P:Program}:List (ziR P)->FuncId->Option (ziR P)
 | [],_=>none
 | s :: ss,f=>bif Nat.beq s.f f then some s else zgp ss f
def zgq {P:Program}:List (zlv P)->FuncId->Option (zlv P)
 | [],_=>none
 | s :: ss,f=>bif Nat.beq s.f f then some s else zgq ss f
def zyo:Option Nat->Option Nat->Bool
 | none,none=>true
 | some a,some b=>Nat.beq a b
 | _,_=>false
def zyh {α:Type} (srt:List α->List α) (l:List α):Option (List α):=if l.length < 4611686018427387904 then some (srt l) else none
structure ze1 (P:Program) where
 code:TypeId->Option C
 wr:Nat
 key:TypeId->Bool
 keyed:∀ t,key t = true->KeyT P t
 known:List (XSpec P)
 owned:List (zlv P):=[]
 muts:List (ziR P):=[]
def zaE {P:Program} {β:Type}:List (XSpec P)->FuncId->List S->List qg->(S->List qg->Option β)->Option (Option β)
 | [],_,_,_,_=>none
 | s :: ss,f,args,ins,K=>bif Nat.beq s.f f then (match s.run args ins K with | some r=>some r | none=>zaE ss f args ins K) else zaE ss f args ins K
section
variable {P:Program} (X:ze1 P) (ro:RO)
variable {β:Type}
def ze2 (m:Mm):List Nat->Option (List qg)
 | []=>some []
 | i :: is=>match zz ro m i with
  | some B=>bif zbY B && ro.ownB i then (match ze2 m is with | some bs=>some (B :: bs) | none=>none) else none
  | none=>none
def zhW (bx:List (Option qg)):List Nat->List qg->List (Option qg)
 | i :: is,B :: bs=>zhW (bx.set i (some B)) is bs
 | _,_=>bx
def zul (dr:Bool) (m:Mm) (f:FuncId) (args:List S) (dst:Option Nat) (k:Mm->Option β):Option β :=
 match YT (yW args) [] with
 | []=>(match zaE X.known f args [] (fun res _=>ZT ro m dst res none k) with
  | some r=>r
  | none=>none)
 | π=>bif dr || !Nat.ble ro.nb m.bx.length then none else (match ze2 ro m π with
  | some ins=>(match zaE X.known f (zaD (ze0 π) args) ins (fun res outs=>ZT ro ⟨m.sl,zhW m.bx π outs⟩ dst res none k) with
   | some r=>r
   | none=>none)
  | none=>none)
def zgr (m:Mm) (B:qg) (dst:Option Nat) (v:S) (k:Mm->Option β):Option β :=
 bif Nat.ble ro.nb m.bx.length then ZT ro ⟨m.sl,m.bx++[some B]⟩ dst v none k else none
def zvC (m:Mm) (e:TypeId) (v:S) (dst:Option Nat) (k:Mm->Option β):Option β :=
 match zc6 v with
 | some _=>bif Nat.blt e 1000000000 then zgr ro m (.cells (qP v) e) dst (.loc m.bx.length 0) k else none
 | none=>none
def putA {α:Type} (l:List α) (i:Int) (x:α):Option (List α):=if 0 <= i/\i < l.length then some (l.set i.toNat x) else none
def zd0 (c:C):Nat->List (den c)->Nat->List S
 | 0,_,_=>[]
 | n + 1,l,k=>refl c (l.getD k (dfl c)) :: zd0 c n l (k + 1)
def zv5:S->Bool
 | .agg _=>false
 | _=>true
def zpC (m:Mm) (t:TypeId) (x y:S) (dst:Option Nat) (k:Mm->Option β):Option β :=
 match x,dst with
 | .loc i off,none=>(match zz ro m i,sizeT P t,zc6 y with
  | some (.cells cs ty),some n,some n'=>bif Nat.blt ty 1000000000 && Nat.beq n' n && Nat.ble (off + n) cs.length && ro.ownB i then
    k ⟨m.sl,m.bx.set i (some (.cells (cs.take off++qP y++cs.drop (off + n)) ty))⟩ else none
  | _,_,_=>none)
 | .loco i a n ix,none=>(match zz ro m i,X.code t,sizeT P t with
  | some (.cells cs ty),some c,some z=>(match Qi c ((cs.drop a).take n),Ze c y with
   | some l,some v=>bif Nat.blt ty 1000000000 && Nat.beq z 1 && Nat.beq (csz c) 1 && zv5 y && Nat.ble (a + n) cs.length && ro.ownB i then
     (putA l ix v).bind fun l'=>k ⟨m.sl,m.bx.set i (some (.cells (cs.take a++zd0 c n l' 0++cs.drop (a + n)) ty))⟩ else none
   | _,_=>none)
  | _,_,_=>none)
 | _,_=>none
def zlw (m:Mm) (ss:Nat) (x:S) (t u:TypeId) (dst:Option Nat) (k:Mm->Option β):Option β :=
 match zN ro m ss,qB P t with
 | (.lst c l,some (tk,e)),some e'=>(match sizeT P e,bytesT P e,zfF P e with
  | some sz,some by',some zv=>(match zc6 zv with
   | some zn=>bif Nat.beq e e' && Nat.blt (tcl tk) 2 && srcT P u && Nat.beq zn sz && Nat.beq (csz c) sz && !Nat.beq by' 0 then
     (match x with
     | .lst c' l2=>if h:c' = c then (app by' l (h ▸ l2:List (den c))).bind fun r=>ZT ro ⟨m.sl.mapV (zby tk),m.bx⟩ dst (.lst c r) (some (tk,e)) k else none
     | .rows []=>(app by' l []).bind fun r=>ZT ro ⟨m.sl.mapV (zby tk),m.bx⟩ dst (.lst c r) (some (tk,e)) k
     | .str s=>if h:C.u8 = c then (app by' l (h ▸ zY s:List (den c))).bind fun r=>ZT ro ⟨m.sl.mapV (zby tk),m.bx⟩ dst (.lst c r) (some (tk,e)) k else none
     | _=>none)
    else none
   | none=>none)
  | _,_,_=>none)
 | _,_=>none
mutual
def qk:S->Bool
 | .lst _ _=>false
 | .gel _ _=>false
 | .rows vs=>vs.isEmpty
 | .elt cs _=>cs.isEmpty
 | .agg cs=>QO cs
 | .tup cs=>QO cs
 | .fn _ a b=>QO a && QO b
 | .iface _ v=>qk v
 | _=>true
def QO:List S->Bool
 | []=>true
 | c :: cs=>qk c && QO cs
end
def zbZ:qg->Bool
 | .cells cs _=>QO cs
 | .map _ kc vc _=>Yq kc && Yq vc
def zhX (tk:Nat) (new:S) (x:S × Tk):S × Tk :=
 match x.2 with
 | some (t,e)=>bif Nat.beq t tk then (new,x.2) else bif Nat.beq (tcl t) 2 then x else bif qk x.1 then x else bif Nat.beq (tcl t) 0 then
   (match x.1 with | .lst c _=>bif Yq c then x else (.any,none) | _=>(.any,none)) else (.any,none)
 | none=>bif qk x.1 then x else (.any,none)
def T.findK {α:Type} (p:α->Bool) (t:T α):Option Nat :=
 T.rec (motive:=fun _=>Option Nat) none (fun _ v _ fl fr=>bif (match v with | some x=>p x | none=>false) then some 0 else
  match fl with
  | some q=>some (2 * q + 1)
  | none=>(match fr with | some q=>some (2 * q + 2) | none=>none)) t
def zyi {α:Type} (l:List α) (i:Int) (x:α):List α:=l.set i.toNat x
def zum (m:Mm) (tk:Nat):Option Nat:=m.sl.findK fun x=>match x.2 with | some (t,_)=>Nat.beq t tk | none=>false
def zxY (m:Mm) (t:TypeId) (ss:Nat) (i:S) (dst:Option Nat) (k:Mm->Option β):Option β :=
 match zN ro m ss,i with
 | (.lst c l,some (tk,e)),.int _ i=>(match zfE P t c with
  | some (e',sz)=>bif Nat.beq (tcl tk) 0 && Nat.beq e e' then br (inB i l.length) (ZT ro m dst (.ptr i sz 0) (some (tk + 3000000,e)) k) none else none
  | none=>none)
 | _,_=>none
def zyj (m:Mm) (t:TypeId) (d0:Nat) (dst:Option Nat) (k:Mm->Option β):Option β :=
 match zN ro m d0 with
 | (.ptr i sz f,some (u,_))=>(match zum m (u - 3000000) with
  | some ss=>(match zN ro m ss,sizeT P t,aggT P t with
   | (.lst c l,some (tk,e)),some n,some ag=>bif Nat.beq (tk + 3000000) u && Nat.beq (tcl tk) 0 && Nat.beq (csz c) sz && (match sizeT P e with | some z=>Nat.beq z sz | none=>false) then
     (idx l i).bind fun x=>(match ag with
      | true=>bif Nat.ble (f + n) (qP (refl c x)).length then ZT ro m dst (.agg (((qP (refl c x)).drop f).take n)) none k else none
      | false=>(match (qP (refl c x))[f]? with | some y=>ZT ro m dst y none k | none=>none)) else none
   | _,_,_=>none)
  | none=>none)
 | _=>none
def zvD (c:C) (x:den c) (f n:Nat) (y:S):Option (den c) :=
 match refl c x with
 | .agg cs=>Ze c (.agg (cs.take f++qP y++cs.drop (f + n)))
 | _=>bif Nat.beq f 0 && Nat.beq n 1 then (match y with | .agg _=>none | y=>Ze c y) else none
def zxZ (m:Mm) (t:TypeId) (d0:Nat) (y:S) (dst:Option Nat) (k:Mm->Option β):Option β :=
 match zN ro m d0,dst with
 | (.ptr i sz f,some (u,_)),none=>(match zum m (u - 3000000) with
  | some ss=>(match zN ro m ss,sizeT P t,zc6 y with
   | (.lst c l,some (tk,e)),some n,some n'=>bif Nat.beq (tk + 3000000) u && Nat.beq (tcl tk) 0 && Nat.beq (csz c) sz && (match sizeT P e with | some z=>Nat.beq z sz | none=>false) && Nat.beq n' n && Nat.ble (f + n) sz && qk y && Yq c && ro.fl &&
      m.bx.all (fun B=>match B with | some B=>zbZ B | none=>true) then
     (idx l i).bind fun x=>(match zvD c x f n y with
      | some x'=>k ⟨m.sl.mapV (zhX tk (.lst c (zyi l i x'))),m.bx⟩
      | none=>none) else none
   | _,_,_=>none)
  | none=>none)
 | _,_=>none
def zyl (m:Mm):Operand->Option Nat
 | .tmp t=>(match (zN ro m t).1 with | .ptr _ _ _=>some t | _=>none)
 | _=>none
def zym (m:Mm) (Q:zxU P) (ss:Nat) (dst:Option Nat) (k:Mm->Option β):Option β :=
 match zN ro m ss with
 | (.lst c l,some (tk,e))=>if h:c = Q.c then
   (bif Nat.beq (tcl tk) 0 && (match sizeT P e with | some z=>Nat.beq z (csz Q.c) | none=>false) && ro.fl && m.bx.all (fun B=>match B with | some B=>zbZ B | none=>true) then
    (zyh Q.srt (h ▸ l)).bind fun r=>ZT ro ⟨m.sl.mapV (zhX tk (.lst Q.c r)),m.bx⟩ dst (.tup []) none k else none) else none
 | _=>none
def zxc (m:Mm) (Q:zlv P) (args:List S) (dst:Option Nat) (k:Mm->Option β):Option β :=
 bif (yW args).isEmpty && Nat.beq (tcl (dst.getD 0)) 0 then
  (match Q.run args with
  | some r=>r.bind fun l=>ZT ro ⟨m.sl.mapV (zby (dst.getD 0)),m.bx⟩ dst (.lst Q.c l) (some (dst.getD 0,Q.e)) k
  | none=>none)
 else none
def Yz (tk:Nat) (x:S × Tk):S × Tk :=
 match x.2 with
 | some (t,_)=>bif Nat.beq t tk then (.any,none) else zhX tk (.lst .i64 []) x
 | none=>zhX tk (.lst .i64 []) x
def zcl (m:Mm) (tk:Nat) (ops:List Operand) (p:Nat) (v:S) (cap:List S):List S:=(ops.map (evalX ro ⟨m.sl.mapV (Yz tk),m.bx⟩)).set p v++cap
def zxd (m:Mm) (Q:ziR P) (ops:List Operand) (cap:List S) (dst:Option Nat) (k:Mm->Option β):Option β :=
 match ops[Q.p]? with
 | some (.tmp ss)=>(match zN ro m ss with
  | (.lst c l,some (tk,e)) =>
   bif Nat.beq (tcl tk) 0 && Nat.beq e Q.e && Nat.beq (tcl (dst.getD 0)) 0 && ro.fl && m.bx.all (fun B=>match B with | some B=>zbZ B | none=>true) && QO cap && Nat.ble ro.nb m.bx.length then
    (match ze2 ro m (YT (yW (zcl ro m tk ops Q.p (.lst c l) cap)) []) with
    | some ins=>(match Q.run (zaD (ze0 (YT (yW (zcl ro m tk ops Q.p (.lst c l) cap)) [])) (zcl ro m tk ops Q.p (.lst c l) cap)) ins (fun r outs =>
      ZT ro ⟨(m.sl.mapV (Yz tk)).mapV (zby (dst.getD 0)),zhW m.bx (YT (yW (zcl ro m tk ops Q.p (.lst c l) cap)) []) outs⟩ dst (.lst Q.c r) (some (dst.getD 0,Q.e)) k) with
     | some r=>r
     | none=>none)
    | none=>none)
   else none
  | _=>none)
 | _=>none
def zun (m:Mm) (s t:TypeId) (ss:Nat) (dst:Option Nat) (k:Mm->Option β):Option (Option β) :=
 match zN ro m ss with
 | (.lst .u8 l0,some (tk,e))=>bif Nat.beq (tcl tk) 0 && Nat.beq s t then (match l0 with
   | x :: l=>some (match zfE P t .u8,qK P e with
    | some (e',sz),.int .u8=>bif Nat.beq e e' && ro.fl && m.bx.all (fun B=>match B with | some B=>zbZ B | none=>true) then
      ZT ro ⟨m.sl.mapV (Yz tk),m.bx⟩ dst (.lst .u8 (x :: l)) none k
     else none
    | _,_=>none)
   | []=>none)
  else none
 | _=>none
def zlx (m:Mm) (ss:Nat) (x:S) (t u:TypeId) (dst:Option Nat) (k:Mm->Option β):Option β :=
 match zN ro m ss,qB P t,x with
 | (.lst c l,some (tk,e)),some e',.lst c' (y :: l2)=>(match sizeT P e,bytesT P e,zfF P e with
  | some sz,some by',some zv=>(match zc6 zv with
   | some zn=>bif Nat.beq e e' && Nat.blt (tcl tk) 2 && srcT P u && Nat.beq zn sz && Nat.beq (csz c) sz && !Nat.beq by' 0 && Nat.beq (tcl (dst.getD 0)) 0 then
     if h:c' = c then (app by' l (h ▸ (y :: l2):List (den c))).bind fun r=>ZT ro ⟨(m.sl.mapV (zby tk)).mapV (zby (dst.getD 0)),m.bx⟩ dst (.lst c r) (some (dst.getD 0,e)) k else none
    else none
   | none=>none)
  | _,_,_=>none)
 | _,_,_=>none
def zhY {γ:Type} (A B:Option γ):Option γ:=open Classical in if A = B then B else none
def znw {α γ:Type} (l:List α) (A B:Option γ):Option γ:=match l with
 | []=>zhY A B
 | _ :: _=>B
def zpD (m:Mm) (op:BinOp) (t:TypeId) (x:S) (dst:Option Nat) (k:Mm->Option β):Option (Option β) :=
 match x,op,qB P t with
 | .lst _ l,.eql,some _=>some (znw l (ZT ro m dst (.bool true) none k) (ZT ro m dst (.bool false) none k))
 | .lst _ l,.neq,some _=>some (znw l (ZT ro m dst (.bool false) none k) (ZT ro m dst (.bool true) none k))
 | _,_,_=>none
def zuo (m:Mm) (v:S) (dst:Option Nat) (k:Mm->Option β):Option β :=
 match zc6 v with
 | some _=>ZT ro m dst (.elt (qP v) 0) none k
 | none=>none
def zxe (o:Oper) (m:Mm) (k:Mm->Option β):Option (Option β) :=
 match o.op with
 | .box e x=>bif (match o.dst with | some d=>Nat.testBit X.wr d | none=>false) then some (zuo ro m (evalX ro m x) o.dst k) else none
 | .call { callee:=.value fo,args,.. }=>(match evalX ro m fo with
  | .fn (.func f) first cap=>(match zgq X.owned f with
   | some Q=>some (zxc ro m Q (first++args.toList.map (evalX ro m)++cap) o.dst k)
   | none=>(match first,zgp X.muts f with
   | [],some Q=>some (zxd ro m Q args.toList cap o.dst k)
   | _,_=>none))
  | _=>none)
 | .call { callee:=.builtin .append,args,argTypes }=>bif (match o.dst with | some d=>Nat.testBit X.wr d | none=>false) then (match args.toList,argTypes.toList with
  | [.tmp ss,x],[t,u]=>some (zlx (P:=P) ro m ss (evalX ro m x) t u o.dst k)
  | _,_=>none) else none
 | .convert s t (.tmp ss)=>zun (P:=P) ro m s t ss o.dst k
 | .binOp op t x (.const (.slice none 0 0)) _=>zpD (P:=P) ro m op t (evalX ro m x) o.dst k
 | _=>none
def zpE (m:Mm) (t:TypeId) (dst:Option Nat) (k:Mm->Option β):Option β :=
 match mapT P t with
 | some (kt,et)=>(match X.code kt,X.code et with
  | some kc,some vc=>zgr ro m (.map t kc vc []) dst (.mref m.bx.length) k
  | _,_=>none)
 | none=>none
def zly (m:Mm) (t:TypeId) (mx x:S) (ok:Bool) (K:S->Option β):Option β :=
 match mx,mapT P t with
 | .mref i,some (kt,et)=>(match zz ro m i with
  | some (.map _ kc vc l)=>(match ckC kc,dq kc,keyT P kt,zfF P et with
   | some (ag,ks),some d,some (ag',ks'),some zv=>(match Ze kc x,Ze vc zv with
    | some k,some z=>bif X.key kt && (ag == ag') && znq ks ks' then
      (@znr _ _ d (zaC kc) l k).bind fun o=>K (bif ok then .tup [refl vc (o.getD z),.bool o.isSome] else refl vc (o.getD z)) else none
    | _,_=>none)
   | _,_,_,_=>none)
  | _=>none)
 | _,_=>none
def zlz (m:Mm) (t:TypeId) (mx x y:S) (dst:Option Nat) (k:Mm->Option β):Option β :=
 match mx,mapT P t,dst with
 | .mref i,some (kt,_),none=>(match zz ro m i with
  | some (.map mt kc vc l)=>(match ckC kc,dq kc,keyT P kt with
   | some (ag,ks),some d,some (ag',ks')=>(match Ze kc x,Ze vc y with
    | some kk,some v=>bif X.key kt && (ag == ag') && znq ks ks' && ro.ownB i then
      (@zns _ _ d (zaC kc) l kk v).bind fun l'=>k ⟨m.sl,m.bx.set i (some (.map mt kc vc l'))⟩ else none
    | _,_=>none)
   | _,_,_=>none)
  | _=>none)
 | _,_,_=>none
def opX (dr:Bool) (o:Oper) (m:Mm) (k:Mm->Option β):Option β :=
 match (bif dr then none else zxe X ro o m k) with
 | some r=>r
 | none =>
 match o.op with
 | .box e x=>zvC ro m e (evalX ro m x) o.dst k
 | .alloc e=>(match zfF P e with | some v=>zvC ro m e v o.dst k | none=>none)
 | .store t x y=>zpC X ro m t (evalX ro m x) (evalX ro m y) o.dst k
 | .call { callee:=.builtin .append,args,argTypes }=>(match args.toList,argTypes.toList with
  | [.tmp ss,x],[t,u]=>zlw (P:=P) ro m ss (evalX ro m x) t u o.dst k
  | _,_=>none)
 | .call { callee:=.value f,args,.. }=>(match evalX ro m f with
  | .fn (.func g) first cap=>zul X ro dr m g (first++args.toList.map (evalX ro m)++cap) o.dst k
  | _=>none)
 | .makeMap t none=>zpE X ro m t o.dst k
 | .mapUpdate t mx x y=>zlz X ro m t (evalX ro m mx) (evalX ro m x) (evalX ro m y) o.dst k
 | .lookup t mx x ok=>zly X ro m t (evalX ro m mx) (evalX ro m x) ok fun v=>zqF ro m dr o v none k
 | _=>zuk P X.code ro m o fun v tk=>zqF ro m dr o v tk k
def Yr (m:Mm) (x:Operand) (b:Bool):Mm :=
 match x with
 | .tmp t=>bif ro.own t then ⟨m.sl.set t (.bool b,(zN ro m t).2),m.bx⟩ else m
 | _=>m
def gdX (ds:List (Option Nat)) (m:Mm) (g:Option (Nat × Bool)) (A B:Mm->Option β):Option β :=
 match g with
 | none=>A m
 | some (j,want)=>(match ds[j]? with
  | some (some d)=>(match (zN ro m d).1 with
   | .bool b=>br b (bif want then A (Yr ro m (.tmp d) true) else B (Yr ro m (.tmp d) true)) (bif want then B (Yr ro m (.tmp d) false) else A (Yr ro m (.tmp d) false))
   | .un=>B m
   | _=>none)
  | _=>B m)
structure zyp where
 t:TypeId
 op:BinOp
 s:Nat
 r:Nat
 c:Int
 d2:Nat
 d3:Nat
 d4:Nat
 d5:Nat
def arX (op:BinOp) (a b:Int):Option Int:=match op with
 | .add=>yj .i64 a b
 | .sub=>zf5 .i64 a b
 | _=>none
def zpF (dr:Bool) (ds:List (Option Nat)):List Oper->Mm->(Mm->Option β)->Option β
 | [],m,k=>k m
 | o :: os,m,k=>gdX ro ds m o.guard (fun m=>opX X ro dr o m fun m'=>zpF dr ds os m' k) (fun m=>ZT ro m o.dst .un none fun m'=>zpF dr ds os m' k)
def zup (o:Oper) (m:Mm) (k:Mm->Option β):Option β :=
 match o.op with
 | .move x=>ZT ro m o.dst (evalX ro m x) (zvA ro m x) k
 | .binOp .add _ x y _=>(match evalX ro m x,evalX ro m y with
  | .int k1 a,.int k2 b=>if k1 = k2 then (yj k1 a b).bind fun n=>ZT ro m o.dst (.int k1 n) none k else none
  | _,_=>none)
 | .binOp .sub _ x y _=>(match evalX ro m x,evalX ro m y with
  | .int k1 a,.int k2 b=>if k1 = k2 then (zf5 k1 a b).bind fun n=>ZT ro m o.dst (.int k1 n) none k else none
  | _,_=>none)
 | .indexAddr t x i=>(match evalX ro m x,evalX ro m i with
  | .lst c l,.int _ i=>(match zfE P t c with
   | some _=>(idx l i).bind fun x=>ZT ro m o.dst (.elt (qP (refl c x)) 0) none k
   | none=>none)
  | _,_=>none)
 | .slice t x lo hi none=>(match evalX ro m x with
  | .lst c l=>zlq P ro m t (.lst c l) lo hi none o.dst fun v tk=>ZT ro m o.dst v tk k
  | _=>none)
 | _=>none
def zvE {γ:Type} (f:Nat->Option γ):List Nat->Option γ
 | []=>none
 | j :: l=>match l with
  | []=>f j
  | _=>zhY (f j) (zvE f l)
def zd1 (ops:Array Oper) (ds:List (Option Nat)):Nat->Array Bool->Mm->(Mm->Option β)->Option β
 | 0,listed,m,k=>(match Region.ready .any ops listed with | []=>k m | _=>none)
 | fuel + 1,listed,m,k=>(match Region.ready .any ops listed with
  | []=>k m
  | i :: is=>(match (i :: is).find? (zge ops listed) with
   | some j=>(match ops[j]? with
    | some o=>zup (P:=P) ro o m fun m'=>zd1 ops ds fuel (listed.setIfInBounds j true) m' k
    | none=>none)
   | none=>zvE (fun j=>match ops[j]? with
    | some o=>gdX ro ds m o.guard (fun m=>opX X ro false o m fun m'=>zd1 ops ds fuel (listed.setIfInBounds j true) m' k) (fun m=>ZT ro m o.dst .un none fun m'=>zd1 ops ds fuel (listed.setIfInBounds j true) m' k)
    | none=>none) (i :: is)))
end
inductive zcy (σ ρ:Type) where
 | next (s:σ)
 | done (r:ρ)
def zbv {σ ρ:Type} (F:σ->Option (zcy σ ρ)):Nat->σ->Option ρ
 | 0,_=>none
 | n + 1,s=>match F s with
  | some (.next s')=>zbv F n s'
  | some (.done r)=>some r
  | none=>none
open Classical in
def qQ {σ ρ:Type} (F:σ->Option (zcy σ ρ)) (s:σ):Option ρ :=
 if h:∃ r n,zbv F n s = some r then some h.choose else none
inductive LV where
 | slot (s:Nat) (c:C) (tk:Tk)
 | box (i:Nat) (c:C)
 | mapb (i:Nat) (kc vc:C)
@[reducible] def LV.ty:LV->Type
 | .slot _ c _=>den c
 | .box _ c=>den c
 | .mapb _ kc vc=>List (den kc × den vc)
@[reducible] def zf7:List LV->Type
 | []=>Unit
 | [v]=>v.ty
 | v :: w :: vs=>v.ty × zf7 (w :: vs)
def zxf:Tk->Tk->Bool
 | none,_=>true
 | some (t,e),some (t',e')=>Nat.beq t t' && Nat.beq e e'
 | some _,none=>false
def zqG (B:Option qg):TypeId:=match B with
 | some (.cells _ ty)=>ty
 | some (.map mt _ _ _)=>mt
 | none=>0
def ze3 (old:Nat->Option qg) (ro:RO) (m:Mm):(v:LV)->Option v.ty
 | .slot s c tk=>bif zxf tk (zN ro m s).2 then Ze c (zN ro m s).1 else none
 | .box i c=>(match zz ro m i with
  | some (.cells cs ty)=>bif Nat.beq ty (zqG (old i)) then (match Ze c (.agg cs) with
   | some y=>some y
   | none=>(match cs with
    | [.agg _]=>none
    | [x]=>Ze c x
    | _=>none)) else none
  | _=>none)
 | .mapb i kc vc=>(match zz ro m i with | some (.map mt kc' vc' l)=>bif Nat.beq mt (zqG (old i)) then (if h:kc' = kc/\vc' = vc then some (h.1 ▸ h.2 ▸ l) else none) else none | _=>none)
def Q4 (old:Nat->Option qg) (ro:RO) (m:Mm):(L:List LV)->Option (zf7 L)
 | []=>some ()
 | [v]=>ze3 old ro m v
 | v :: w :: vs=>match ze3 old ro m v,Q4 old ro m (w :: vs) with
  | some x,some y=>some (x,y)
  | _,_=>none
def Zo (old:Nat->Option qg) (m:Mm):(v:LV)->v.ty->Mm
 | .slot s c tk,x=>⟨m.sl.set s (refl c x,tk),m.bx⟩
 | .box i c,x=>⟨m.sl,m.bx.set i (some (.cells (qP (refl c x)) (zqG (old i))))⟩
 | .mapb i kc vc,x=>⟨m.sl,m.bx.set i (some (.map (zqG (old i)) kc vc x))⟩
def Zf (old:Nat->Option qg) (m:Mm):(L:List LV)->zf7 L->Mm
 | [],_=>m
 | [v],x=>Zo old m v x
 | v :: w :: vs,x=>Zf old (Zo old m v x.1) (w :: vs) x.2
inductive EX where
 | exit (id:Nat) | ret | norm
 deriving DecidableEq
def EX.of:Exit->Option EX
 | .exit id=>some (.exit id)
 | .ret=>some .ret
 | _=>none
def EX.ofJ:Exit->Option EX
 | .normal=>some .norm
 | .exit id=>some (.exit id)
 | .ret=>some .ret
 | _=>none
def EX.to:EX->Exit
 | .exit id=>.exit id
 | .ret=>.ret
 | .norm=>.normal
def EX.beq:EX->EX->Bool
 | .exit i,.exit j=>Nat.beq i j
 | .ret,.ret=>true
 | .norm,.norm=>true
 | _,_=>false
@[reducible] def zry:List (EX × List LV)->Type
 | []=>Empty
 | [e]=>zf7 e.2
 | e :: f :: es=>zf7 e.2 ⊕ zry (f :: es)
def Q5 (old:Nat->Option qg) (ro:RO) (m:Mm) (ex:EX):(es:List (EX × List LV))->Option (zry es)
 | []=>none
 | [e]=>bif e.1.beq ex then Q4 old ro m e.2 else none
 | e :: f :: es=>bif e.1.beq ex then (match Q4 old ro m e.2 with | some x=>some (.inl x) | none=>none) else (match Q5 old ro m ex (f :: es) with | some x=>some (.inr x) | none=>none)
def QP {β:Type} (old:Nat->Option qg) (m:Mm) (k:Exit->Mm->Option β):(es:List (EX × List LV))->zry es->Option β
 | [],x=>none
 | [e],x=>k e.1.to (Zf old m e.2 x)
 | e :: f :: es,x=>Sum.elim (fun y=>k e.1.to (Zf old m e.2 y)) (fun y=>QP old m k (f :: es) y) x
inductive Ann where
 | no
 | sch
 | full
 | two (a b:Ann)
 | loop (ds bs:List Nat) (L:List LV) (es:List (EX × List LV)) (a:Ann)
 | old (a:Ann)
 | join (ds bs:List Nat) (L:List LV) (es:List (EX × List LV)) (a:Ann)
def Ann.isOld:Ann->Bool
 | .old _=>true
 | _=>false
def Ann.un:Ann->Ann
 | .old a=>a
 | a=>a
def Ann.inn:Ann->Ann
 | .join _ _ _ _ a=>a
 | a=>a
def Ann.l:Ann->Ann
 | .two a _=>a
 | a=>.no
def Ann.r:Ann->Ann
 | .two _ b=>b
 | a=>.no
def Ann.isFull:Ann->Bool
 | .full=>true
 | _=>false
def zlA (l:List Nat):Nat:=l.foldl (fun a s=>a ||| (1 <<< s)) 0
def yH:List LV->Nat->Bool
 | [],_=>false
 | .slot _ _ _ :: L,i=>yH L i
 | .box j _ :: L,i=>Nat.beq j i || yH L i
 | .mapb j _ _ :: L,i=>Nat.beq j i || yH L i
def Z5:List LV->List Nat
 | []=>[]
 | .slot _ _ _ :: L=>Z5 L
 | .box j _ :: L=>j :: Z5 L
 | .mapb j _ _ :: L=>j :: Z5 L
def zhZ (sl:T (S × Tk)):List Nat->T (S × Tk)
 | []=>sl
 | s :: ss=>zhZ (sl.set s (.any,none)) ss
def qo (mu:Bool) (x:S × Tk):S × Tk :=
 match x.2 with
 | some (t,e)=>bif Nat.beq (tcl t) 2 then x else bif !mu || qk x.1 then (x.1,none) else (.any,none)
 | none=>bif !mu || qk x.1 then x else (.any,none)
def yR (mu:Bool) (ro:RO) (m:Mm) (ds bs:List Nat):RO :=
 { all:=false,mask:=zlA ds,sl:=fun s=>qo mu (zN ro m s),nb:=m.bx.length,bmask:=zlA bs,bx:=fun i=>zz ro m i,
   fl:=mu && (List.range m.bx.length).all (fun i=>match zz ro m i with | some B=>zbZ B | none=>true) }
def inD (ds:List (Option Nat)) (t:Nat):Bool:=ds.any (fun d=>match d with | some d=>Nat.beq d (t % 1000000) | none=>false)
def ziS (ds:List (Option Nat)) (x:S × Tk):S × Tk:=match x.2 with
 | some (t,_)=>bif Nat.blt (tcl t) 2 && inD ds t then (x.1,none) else x
 | none=>x
def zpG (ro:RO) (m:Mm) (ds bs:List Nat) (L:List LV) (es:List (EX × List LV)):Bool :=
 ds.all ro.own && bs.all ro.ownB && bs.all (fun i=>Nat.blt i m.bx.length) && bs.all (yH L) && es.all (fun e=>bs.all (yH e.2)) && Nat.ble ro.nb m.bx.length && (Z5 L).all (fun i=>bs.any (Nat.beq i)) && es.all (fun e=>(Z5 e.2).all (fun i=>bs.any (Nat.beq i)))
def YU {P:Program} (X:ze1 P):Code->Ann->RO->Mm->{β:Type}->(Exit->Mm->Option β)->Option β
 | .skip,_,_,m,_,k=>k .normal m
 | .label _,_,_,m,_,k=>k .normal m
 | .region _ ops dr,a,ro,m,_,k=>bif dr && a.isFull then zd1 X ro ops (ops.toList.map (·.dst)) ops.size (Array.replicate ops.size false) m (k .normal) else zpF X ro dr (ops.toList.map (·.dst)) ops.toList (bif dr then ⟨m.sl.mapV (ziS ((ops.toList.filter Qw).map (·.dst))),m.bx⟩ else m) (k .normal)
 | .seq x y,a,ro,m,_,k=>match a.l with
  | .join ds bs L es a1 =>
   bif zpG ro m ds bs L es then
    (match Q4 (zz ro m) ro m L with
    | some v=>(YU X x a1 (yR (!Nat.beq X.wr 0) ro m ds bs) (Zf (zz ro m) ⟨.nil,List.replicate m.bx.length none⟩ L v) fun ex m'=>match EX.ofJ ex with
      | some e=>Q5 (zz ro m) (yR (!Nat.beq X.wr 0) ro m ds bs) m' e es
      | none=>none).bind fun w =>
      QP (zz ro m) ⟨zhZ (m.sl.mapV (qo (!Nat.beq X.wr 0))) ds,m.bx⟩ (fun ex m'=>match ex with
       | .normal=>YU X y a.r.un ro m' k
       | e=>k e m') es w
    | none=>none)
   else none
  | al=>YU X x al ro m fun ex m'=>match ex with
   | .normal=>YU X y a.r.un ro m' k
   | e=>k e m'
 | .cond c x y,a,ro,m,_,k=>(match evalX ro m c with
  | .bool b=>br b (YU X x a.l ro (Yr ro m c true) k) (YU X y a.r ro (Yr ro m c false) k)
  | _=>none)
 | .block id x,a,ro,m,_,k=>YU X x a ro m fun ex m'=>match ex with
  | .exit id'=>bif Nat.beq id' id then k .normal m' else k (.exit id') m'
  | e=>k e m'
 | .exit id,_,_,m,_,k=>k (.exit id) m
 | .ret,_,_,m,_,k=>k .ret m
 | .loop x,.loop ds bs L es a,ro,m,_,k =>
  bif ds.all ro.own && bs.all ro.ownB && bs.all (fun i=>Nat.blt i m.bx.length) && bs.all (yH L) && es.all (fun e=>bs.all (yH e.2)) && Nat.ble ro.nb m.bx.length && (Z5 L).all (fun i=>bs.any (Nat.beq i)) && es.all (fun e=>(Z5 e.2).all (fun i=>bs.any (Nat.beq i))) then
   (match Q4 (zz ro m) ro m L with
   | some v=>(qQ (σ:=zf7 L) (ρ:=zry es) (fun v=>YU X x a (yR (!Nat.beq X.wr 0) ro m ds bs) (Zf (zz ro m) ⟨.nil,List.replicate m.bx.length none⟩ L v) fun ex m'=>match ex with
     | .normal=>(match Q4 (zz ro m) (yR (!Nat.beq X.wr 0) ro m ds bs) m' L with | some w=>some (.next w) | none=>none)
     | ex=>(match EX.of ex with
      | some ex=>(match Q5 (zz ro m) (yR (!Nat.beq X.wr 0) ro m ds bs) m' ex es with | some w=>some (.done w) | none=>none)
      | none=>none)) v).bind fun w =>
      QP (zz ro m) ⟨zhZ (m.sl.mapV (qo (!Nat.beq X.wr 0))) ds,m.bx⟩ k es w
   | none=>none)
  else none
 | _,_,_,_,_,_=>none
def Zu:RO:={ all:=true,mask:=0,sl:=fun _=>(.any,none),nb:=0,bmask:=0,bx:=fun _=>none,fl:=true }
def Qa:Nat->List S->T (S × Tk)
 | _,[]=>.nil
 | n,s :: ss=>(Qa (n + 1) ss).set n (s,some (2000000,0))
def zpH {P:Program} (m:Mm):List ResultVar->Option (List S)
 | []=>some []
 | r :: rs=>match (match r with
   | .tmp t=>some (zN Zu m t).1
   | .cell a t=>(match (zN Zu m a).1 with
    | .loc i off=>(match zz Zu m i,aggT P t with
     | some (.cells cs ty),some true=>(match sizeT P t with | some n=>bif Nat.blt ty 1000000000 && Nat.ble (off + n) cs.length then some (.agg ((cs.drop off).take n)) else none | none=>none)
     | some (.cells cs ty),some false=>bif Nat.blt ty 1000000000 then cs[off]? else none
     | _,_=>none)
    | _=>none)),zpH (P:=P) m rs with
  | some v,some vs=>some (v :: vs)
  | _,_=>none
def zh0 (m:Mm):Nat->Nat->Option (List qg)
 | _,0=>some []
 | i,n + 1=>match zz Zu m i,zh0 m (i + 1) n with
  | some B,some bs=>bif zbY B then some (B :: bs) else none
  | _,_=>none
def zqH {P:Program} (X:ze1 P) (rs:List ResultVar) (c:Code) (a:Ann) (args:List S) (ins:List qg) {β:Type} (K:S->List qg->Option β):Option β :=
 YU X c a Zu ⟨Qa 0 args,ins.map some⟩ fun ex m=>match (match ex with | .ret | .normal=>true | _=>false),zpH (P:=P) m rs,zh0 m 0 ins.length with
  | true,some [v],some outs=>bif yk v then K v outs else none
  | true,some vs,some outs=>bif qD vs then K (.tup vs) outs else none
  | _,_,_=>none
end Go.X
namespace Go.X
open Go.Eng
open Go.RowKit
theorem ym {α:Type} {c:Bool} {a:Option α} {r:α} (h:(bif c then a else none) = some r):c = true/\a = some r:=by
 cases c
 ·cases h
 ·exact ⟨rfl,h⟩
theorem brS {α:Type} {b:Bool} {x y:Option α} {r:α} (h:br b x y = some r):(b = true/\x = some r) ∨ (b = false/\y = some r):=by
 cases b
 ·exact .inr ⟨rfl,h⟩
 ·exact .inl ⟨rfl,h⟩
theorem zb0 {α:Type} {c:Prop} [Decidable c] {a:Option α} {r:α} (h:(if c then a else none) = some r):c/\a = some r:=by
 split at h
 ·exact ⟨‹_›,h⟩
 ·cases h
theorem qf (cs:List S):(zi cs).length = cs.length:=by rw [ZM]; simp
theorem zcm (cs:List S) (n:Nat):zi (cs.drop n) = (zi cs).drop n:=by simp [ZM,List.map_drop]
theorem zcn (cs:List S) (n:Nat):zi (cs.take n) = (zi cs).take n:=by simp [ZM,List.map_take]
theorem qV (cs ds:List S):zi (cs++ds) = zi cs++zi ds:=by simp [ZM]
theorem YV (cs:List S) (n:Nat):(zi cs)[n]? = (cs[n]?).map toV:=by simp [ZM]
theorem YW (cs:List S) (o n:Nat):zi ((cs.drop o).take n) = ((zi cs).drop o).take n:=by rw [zcn,zcm]
theorem zh1 (v:Value):toV (zhU v) = YC v:=by
 unfold zhU
 split
 case h_3 =>
  simp only [YC]
  rename_i s
  by_cases hc:s.size <= maxLen
  ·rw [if_pos hc,Nat.ble_eq_true_of_le hc]; simp [toV]
  ·have:Nat.ble s.size maxLen = false:=by
    cases hb:Nat.ble s.size maxLen
    ·rfl
    ·exact absurd (zyN hb) hc
   rw [if_neg hc,this]; simp [toV]
 all_goals first
  | (simp [YC,toV,zi]; done)
  | (unfold YC; split <;> simp_all [toV,zi])
theorem ze4 (v:Value):toV (za6 v) = Zd v:=by
 unfold za6
 split
 ·rename_i cs
  simp only [Zd]
  by_cases h:cs.toList.all (fun x=>x.oneCell') = true
  ·rw [if_pos h,h]; simp only [cond_true,toV,ZM,List.map_map]
   congr 1
   exact List.map_congr_left fun x _=>zh1 x
  ·rw [if_neg h]
   rw [Bool.not_eq_true] at h
   rw [h]; simp [toV]
 ·simp only [Zd,toV,ZM,List.map_map]
  congr 1
  exact List.map_congr_left fun x _=>zh1 x
 ·rename_i h1 h2
  rw [zh1]
  cases v <;> first | rfl | (exact absurd rfl (h1 _)) | (exact absurd rfl (h2 _))
theorem zfG (vs:List Value):zi (vs.map za6) = vs.map Zd:=by
 rw [ZM,List.map_map]
 exact List.map_congr_left fun x _=>ze4 x
theorem zw (ro:RO) (m:Mm) (x:Operand):toV (evalX ro m x) = (zh ro m).eval x:=by
 cases x with
 | tmp t=>rfl
 | const v=>exact ze4 v
 | global g =>
  simp only [evalX,toV,St.eval]
  cases GL g <;> rfl
 | func f=>simp [evalX,toV,zi,St.eval]
theorem zb1 (ro:RO) (m:Mm) (xs:List Operand):zi (xs.map (evalX ro m)) = xs.map (zh ro m).eval:=by
 rw [ZM,List.map_map]
 exact List.map_congr_left fun x _=>zw ro m x
theorem zpI (ro:RO) (m:Mm) (x:Operand):zvA ro m x = (zh ro m).tokOf x:=by
 cases x <;> rfl
theorem zuq (x:IV):(zaj x).csize = some 1:=by cases x <;> rfl
theorem zco (x:IV):(zaj x).cellsL = [zaj x]:=by cases x <;> rfl
theorem za8 {s:S} {n:Nat} (h:zc6 s = some n):(toV s).csize = some n:=by
 cases s <;> simp only [zc6,zyO,reduceCtorEq] at h <;> subst h <;> first | (simp only [toV]; exact zuq _) | simp [toV,V.csize,qf]
theorem zaF {s:S} {n:Nat} (h:zc6 s = some n):zi (qP s) = (toV s).cellsL:=by
 cases s <;> simp only [zc6,zyO,reduceCtorEq] at h <;> first | (simp only [toV,zi,qP]; exact (zco _).symm) | simp [toV,zi,V.cellsL,qP]
theorem zur (c:C) (x:den c):zc6 (refl c x) = some (csz c):=by
 cases c <;> rfl
theorem QQ (c:C) (x:den c):zi (qP (refl c x)) = (enc c x).cellsL:=by
 rw [zaF (zur c x),qz]
theorem Q6 (c:C) (x:den c):yk (refl c x) = true:=by
 cases c <;> rfl
theorem za9 (v:Value):(YC v).noLoc = true:=by
 unfold YC
 split <;> try (simp [V.noLoc,V.noLocL]; done)
 split <;> simp [V.noLoc]
theorem zcp {l:List V} (h:∀ v ∈ l,v.noLoc = true):V.noLocL l = true:=by
 induction l with
 | nil=>rfl
 | cons x l ih=>simp [V.noLocL,h x (by simp),ih fun v hv=>h v (by simp [hv])]
theorem zlB (v:Value):(Zd v).noLoc = true:=by
 unfold Zd
 split
 ·split
  ·simp only [V.noLoc]
   refine zcp fun v hv=>?_
   obtain ⟨x,_,rfl⟩:=List.mem_map.1 hv
   exact za9 x
  ·rfl
 ·simp only [V.noLoc]
  refine zcp fun v hv=>?_
  obtain ⟨x,_,rfl⟩:=List.mem_map.1 hv
  exact za9 x
 ·exact za9 _
theorem zjM (g off:Nat):(toV (.gel g off)).noLoc = true:=by
 simp only [toV]
 split
 ·simp only [V.noLoc]
  refine zcp fun v hv=>?_
  obtain ⟨x,_,rfl⟩:=List.mem_map.1 hv
  exact zlB x
 ·rfl
mutual
theorem zd2:∀ s:S,yk s = true->(toV s).noLoc = true
 | .any,_=>by simp [toV,V.noLoc]
 | .un,_=>by simp [toV,V.noLoc]
 | .int _ _,_=>by simp [toV,V.noLoc]
 | .bool _,_=>by simp [toV,V.noLoc]
 | .str _,_=>by simp [toV,V.noLoc]
 | .agg cs,h=>by simp only [yk] at h; simp only [toV,V.noLoc]; exact Zw cs h
 | .tup cs,h=>by simp only [yk] at h; simp only [toV,V.noLoc]; exact Zw cs h
 | .loc _ _,h=>by simp [yk] at h
 | .loco _ _ _ _,h=>by simp [yk] at h
 | .elt cs _,h=>by simp only [yk] at h; simp only [toV,V.noLoc]; exact Zw cs h
 | .gel g off,_=>zjM g off
 | .nilp,_=>by simp [toV,V.noLoc]
 | .lst c l,_=>by simp only [toV,V.noLoc]; exact zL (Qp c) l
 | .rows vs,h=>by simp only [yk] at h; simp only [toV,V.noLoc]; exact Zw vs h
 | .fn _ a b,h=>by
  simp only [yk,zyL] at h; simp only [toV,V.noLoc,zyL]
  exact ⟨Zw a h.1,Zw b h.2⟩
 | .nilfn,_=>by simp [toV,V.noLoc]
 | .iface _ v,h=>by simp only [yk] at h; simp only [toV,V.noLoc]; exact zd2 v h
 | .nilif,_=>by simp [toV,V.noLoc]
 | .mref _,h=>by simp [yk] at h
 | .nilm,_=>by simp [toV,V.noLoc]
 | .ptr _ _ _,_=>by simp [toV,V.noLoc]
 | .ivd x,_=>by simp only [toV]; exact zhI x
theorem Zw:∀ cs:List S,qD cs = true->V.noLocL (zi cs) = true
 | [],_=>by simp [zi,V.noLocL]
 | c :: cs,h=>by
  simp only [qD,zyL] at h
  simp only [zi,V.noLocL,zyL]
  exact ⟨zd2 c h.1,Zw cs h.2⟩
end
theorem zh2 {kc vc:C} (l:List (den kc × den vc)):V.noLocL (zgF (enc kc) (enc vc) l) = true:=by
 refine zcp fun v hv=>?_
 obtain ⟨x,_,rfl⟩:=List.mem_map.1 hv
 simp [V.noLoc,V.noLocL,Qp]
theorem zd3 {B:qg} (h:zbY B = true):V.noLocL (zE B).cells = true:=by
 cases B with
 | cells cs ty=>exact Zw cs h
 | map mt kc vc l=>exact zh2 l
theorem znx {ro:RO} {m:Mm} {d:Nat} {v:S} {tk:Tk} (ho:ro.own d = true):zh ro ⟨m.sl.set d (v,tk),m.bx⟩ = (zh ro m).put (some d) (toV v) tk:=by
 have hb:∀ i,zz ro ⟨m.sl.set d (v,tk),m.bx⟩ i = zz ro m i:=fun i=>rfl
 have hs:∀ s,zN ro ⟨m.sl.set d (v,tk),m.bx⟩ s = if s = d then (v,tk) else zN ro m s:=by
  intro s
  unfold zN
  by_cases h:s = d
  ·subst h; rw [ho,if_pos rfl]; simp [T.get_set]
  ·rw [if_neg h]; simp [T.get_set,h]
 unfold zh St.put
 simp only [hb,hs]
 congr 1
 funext s
 unfold upd
 split <;> rfl
variable {β:Type}
theorem zR {ro:RO} {m:Mm} {dst:Option Nat} {v:S} {tk:Tk} {k:Mm->Option β} {r:β} (h:ZT ro m dst v tk k = some r) :
  ∃ m',(zh ro m).put dst (toV v) tk = zh ro m'/\k m' = some r:=by
 unfold ZT at h
 split at h
 ·exact ⟨m,rfl,h⟩
 ·rename_i d
  obtain ⟨h1,h2⟩:=ym h
  exact ⟨_,(znx h1).symm,h2⟩
section
variable {P:Program} {code:TypeId->Option C} {ro:RO} {m:Mm} {r:β} {K:S->Option β} {Kp:V->Prop} {K2:S->Tk->Option β} {K2p:V->Tk->Prop}
theorem zrz {k:IntKind} {a b n:Int} (h:yj k a b = some n):InR k (a + b)/\n = a + b:=by
 obtain ⟨h1,h2⟩:=zb0 h; cases h2; exact ⟨h1,rfl⟩
theorem zjN {k:IntKind} {a b n:Int} (h:zf5 k a b = some n):InR k (a - b)/\n = a - b:=by
 obtain ⟨h1,h2⟩:=zb0 h; cases h2; exact ⟨h1,rfl⟩
theorem zrA {k:IntKind} {a b n:Int} (h:zxR k a b = some n):InR k (a * b)/\n = a * b:=by
 obtain ⟨h1,h2⟩:=zb0 h; cases h2; exact ⟨h1,rfl⟩
theorem zrB {k:IntKind} {a b n:Int} (h:zbz k a b = some n):(b ≠ 0/\InR k (a.tdiv b))/\n = a.tdiv b:=by
 obtain ⟨h1,h2⟩:=zb0 h; cases h2; exact ⟨h1,rfl⟩
theorem zrC {a b n:Int} (h:zf6 a b = some n):b ≠ 0/\n = a.tmod b:=by
 obtain ⟨h1,h2⟩:=zb0 h; cases h2; exact ⟨h1,rfl⟩
theorem zrD {s t n:List UInt8} (h:zO s t = some n):s.length + t.length <= maxLen/\n = s++t:=by
 obtain ⟨h1,h2⟩:=zb0 h; cases h2; exact ⟨h1,rfl⟩
theorem YX {α:Type} {l q:List α} {lo hi:Int} (h:slc l lo hi = some q):(0 <= lo/\lo <= hi/\hi <= l.length)/\q = (l.take hi.toNat).drop lo.toNat:=by
 obtain ⟨h1,h2⟩:=zb0 h; cases h2; exact ⟨h1,rfl⟩
theorem zb2 {α:Type} {l:List α} {i:Int} {x:α} (h:idx l i = some x):0 <= i/\i < l.length/\l[i.toNat]? = some x:=by
 obtain ⟨h1,h2⟩:=zb0 h
 have:=(List.getElem?_eq_some_iff.1 h2).1
 exact ⟨h1,by omega,h2⟩
theorem Qq {c:C}:∀ {ss:List S} {l:List (den c)},Qi c ss = some l->zi ss = l.map (enc c)
 | [],l,h=>by simp only [Qi,zyO] at h; subst h; simp [zi]
 | s :: ss,l,h=>by
  simp only [Qi] at h
  split at h
  ·rename_i x hx
   split at h
   ·rename_i xs hxs
    cases h
    simp only [zi,List.map_cons,yV hx,Qq hxs]
   ·cases h
  ·cases h
theorem zjO {c:C} {g off n:Nat} {x:den c} (h:znu c g off n = some x):∃ vs,GL g = some vs/\off + n <= vs.length/\V.agg (((vs.map Zd).drop off).take n) = enc c x:=by
 unfold znu at h
 split at h
 ·rename_i vs hg
  obtain ⟨h1,h2⟩:=zb0 h
  refine ⟨vs,hg,h1,?_⟩
  rw [<- yV h2]
  simp only [toV,YW,zfG]
 ·cases h
theorem zrE {c:C} {g off:Nat} {x:den c} (h:zw5 c g off = some x):∃ vs,GL g = some vs/\(vs.map Zd)[off]? = some (enc c x):=by
 unfold zw5 at h
 split at h
 ·rename_i vs hg
  split at h
  ·rename_i s hs
   refine ⟨vs,hg,?_⟩
   rw [<- zfG,YV,hs,Option.map_some,yV h]
  ·cases h
 ·cases h
theorem zny {t:TypeId} {x:S} (hK:∀ s,K s = some r->Kp (toV s)) (h:zuh P code ro m t x K = some r):Qv P t (zh ro m).box (toV x) Kp:=by
 unfold zuh at h
 split at h
 ·rename_i cs off ha
  split at h
  ·rename_i n hs
   obtain ⟨h1,h2⟩:=ym h
   simp only [toV,Qv,ha,hs]
   refine ⟨by rw [qf]; exact zyN h1,?_⟩
   have:=hK _ h2
   simpa only [toV,YW] using this
  ·cases h
 ·rename_i cs off ha
  split at h
  ·rename_i c hc
   simp only [toV,Qv,ha,YV,hc,Option.map_some]
   exact hK _ h
  ·cases h
 ·rename_i i off ha
  split at h
  ·rename_i cs ty n hB hs
   obtain ⟨h1,h2⟩:=ym h
   simp only [zyL] at h1
   have hb:(zh ro m).box i = some ⟨zi cs,ty⟩:=by show (zz ro m i).map zE = _; rw [hB]; rfl
   simp only [toV,Qv,ha,hb,hs]
   refine ⟨zyN h1.1,by rw [qf]; exact zyN h1.2,?_⟩
   have:=hK _ h2
   simpa only [toV,YW] using this
  ·cases h
 ·rename_i i off ha
  split at h
  ·rename_i cs ty hB
   obtain ⟨h1,h2⟩:=ym h
   have hb:(zh ro m).box i = some ⟨zi cs,ty⟩:=by show (zz ro m i).map zE = _; rw [hB]; rfl
   split at h2
   ·rename_i c hc
    simp only [toV,Qv,ha,hb,YV,hc,Option.map_some]
    exact ⟨zyN h1,hK _ h2⟩
   ·cases h2
  ·cases h
 ·rename_i i a n ix ha
  split at h
  ·rename_i cs ty c hB hc
   obtain ⟨h1,h2⟩:=ym h
   simp only [zyL] at h1
   have hb:(zh ro m).box i = some ⟨zi cs,ty⟩:=by show (zz ro m i).map zE = _; rw [hB]; rfl
   split at h2
   ·rename_i l hl
    obtain ⟨y,h3,h4⟩:=bind_some h2
    obtain ⟨q1,q2,q3⟩:=zb2 h3
    have hle:=zyN h1.2
    have hseg:=Qq hl
    have hlen:l.length = n:=by
     have:=congrArg List.length hseg
     rw [qf,List.length_map,List.length_take,List.length_drop] at this
     omega
    have hget:(zi cs)[a + ix.toNat]? = some (enc c y):=by
     have:((zi ((cs.drop a).take n)))[ix.toNat]? = some (enc c y):=by rw [hseg,List.getElem?_map,q3]; rfl
     rw [YW,List.getElem?_take,if_pos (by omega),List.getElem?_drop] at this
     exact this
    simp only [toV,Qv,ha,hb,hget]
    refine ⟨zyN h1.1,?_⟩
    rw [<- qz]
    exact hK _ h4
   ·cases h2
  ·cases h
 ·rename_i g off ha
  split at h
  ·rename_i n c hs hc
   obtain ⟨y,h1,h2⟩:=bind_some h
   obtain ⟨vs,q1,q2,q3⟩:=zjO h1
   simp only [toV,q1,Qv,ha,hs]
   refine ⟨by simpa using q2,?_⟩
   rw [q3,<- qz]
   exact hK _ h2
  ·cases h
 ·rename_i g off ha
  split at h
  ·rename_i c hc
   obtain ⟨y,h1,h2⟩:=bind_some h
   obtain ⟨vs,q1,q2⟩:=zrE h1
   simp only [toV,q1,Qv,ha,q2]
   rw [<- qz]
   exact hK _ h2
  ·cases h
 ·cases h
theorem zpJ {op:BinOp} {k:IntKind} {a b:Int} (hK:∀ s,K s = some r->Kp (toV s)) (h:zw7 op k a b K = some r):zrX op k a b Kp:=by
 have hK':∀ s v,K s = some r->toV s = v->Kp v:=fun s v h e=>e ▸ hK s h
 cases op <;> simp only [zw7,reduceCtorEq] at h
 case add=>obtain ⟨n,h1,h2⟩:=bind_some h; obtain ⟨q1,rfl⟩:=zrz h1; exact ⟨q1,hK' _ _ h2 (by simp [toV])⟩
 case sub=>obtain ⟨n,h1,h2⟩:=bind_some h; obtain ⟨q1,rfl⟩:=zjN h1; exact ⟨q1,hK' _ _ h2 (by simp [toV])⟩
 case mul=>obtain ⟨n,h1,h2⟩:=bind_some h; obtain ⟨q1,rfl⟩:=zrA h1; exact ⟨q1,hK' _ _ h2 (by simp [toV])⟩
 case quo=>obtain ⟨n,h1,h2⟩:=bind_some h; obtain ⟨q1,rfl⟩:=zrB h1; exact ⟨q1.1,q1.2,hK' _ _ h2 (by simp [toV])⟩
 case rem=>obtain ⟨n,h1,h2⟩:=bind_some h; obtain ⟨q1,rfl⟩:=zrC h1; exact ⟨q1,hK' _ _ h2 (by simp [toV])⟩
 all_goals exact hK' _ _ h (by simp [toV])
theorem zpK {op:BinOp} {a b:List UInt8} (hK:∀ s,K s = some r->Kp (toV s)) (h:zw8 op a b K = some r):zrY op a b Kp:=by
 have hK':∀ s v,K s = some r->toV s = v->Kp v:=fun s v h e=>e ▸ hK s h
 cases op <;> simp only [zw8,reduceCtorEq] at h
 case add=>obtain ⟨n,h1,h2⟩:=bind_some h; obtain ⟨q1,rfl⟩:=zrD h1; exact ⟨q1,hK' _ _ h2 (by simp [toV])⟩
 all_goals exact hK' _ _ h (by simp [toV])
theorem zh3 {a b:S} {k k':CK} (ha:zfD a = some k) (hb:zfD b = some k'):Y1 (toV a) (toV b) = zgn a b:=by
 cases a <;> simp only [zfD,reduceCtorEq] at ha <;> cases b <;> simp only [zfD,reduceCtorEq] at hb <;> simp [toV,Y1,zgn]
theorem zrF {a b:CK} (h:zrx a b = true):a = b:=by
 cases a <;> cases b <;> simp_all [zrx]
theorem zvF {a:S} {k:CK} (h:zfD a = some k):Qb (toV a) = some k:=by
 cases a <;> simp only [zfD,reduceCtorEq] at h <;> simpa [toV,Qb] using h
theorem zb3 {k:CK} {ks:List CK} {c:S} {cs:List S} (h:Zn (k :: ks) (c :: cs) = true):zfD c = some k/\Zn ks cs = true:=by
 simp only [Zn,zyL] at h
 refine ⟨?_,h.2⟩
 have h1:=h.1
 split at h1
 ·rename_i k' hk; rw [hk,zrF h1]
 ·cases h1
theorem zb4:∀ {ks:List CK} {cs:List S},Zn ks cs = true->Z2 ks (zi cs)
 | [],[],_=>by simp [zi,Z2]
 | [],_ :: _,h=>by simp [Zn] at h
 | _ :: _,[],h=>by simp [Zn] at h
 | k :: ks,c :: cs,h=>by
  obtain ⟨h1,h2⟩:=zb3 h
  simp only [zi,Z2]
  exact ⟨zvF h1,zb4 h2⟩
theorem zus:∀ {ks:List CK} {cs ds:List S},Zn ks cs = true->Zn ks ds = true->eqV (zi cs) (zi ds) = eqS cs ds
 | [],[],[],_,_=>by simp [zi,eqV,eqS]
 | [],_ :: _,_,h,_=>by simp [Zn] at h
 | [],[],_ :: _,_,h=>by simp [Zn] at h
 | _ :: _,[],_,h,_=>by simp [Zn] at h
 | _ :: _,_ :: _,[],_,h=>by simp [Zn] at h
 | k :: ks,c :: cs,d :: ds,h1,h2=>by
  obtain ⟨a1,a2⟩:=zb3 h1
  obtain ⟨b1,b2⟩:=zb3 h2
  have ih:=zus a2 b2
  cases cs with
  | nil =>
   cases ds with
   | nil=>simp only [zi,eqV,eqS]; exact zh3 a1 b1
   | cons d' ds=>cases ks <;> simp [Zn] at a2 b2
  | cons c' cs =>
   cases ds with
   | nil=>cases ks <;> simp [Zn] at a2 b2
   | cons d' ds =>
    simp only [zi] at ih ⊢
    rw [eqV,eqS,ih,zh3 a1 b1]
    ·simp
    ·simp
theorem zpL {op:BinOp} {xT:TypeId} {a b:S} (hK:∀ s,K s = some r->Kp (toV s)) (h:zw9 P op xT a b K = some r):zfb P op xT (toV a) (toV b) Kp:=by
 have hK':∀ s v,K s = some r->toV s = v->Kp v:=fun s v h e=>e ▸ hK s h
 unfold zw9 at h
 split at h
 ·rename_i k x k' y
  simp only [toV,zfb]
  cases hs:zw6 op with
  | true =>
   rw [hs] at h
   simp only [cond_true] at h
   right
   unfold shX at h
   unfold zwb
   cases op <;> simp only [zw6,Bool.false_eq_true] at hs
   ·obtain ⟨n,h1,h2⟩:=bind_some h
    obtain ⟨h3,h4⟩:=zb0 h1
    cases h4
    exact ⟨h3,hK' _ _ h2 (by simp [toV])⟩
   ·obtain ⟨n,h1,h2⟩:=bind_some h
    obtain ⟨h3,h4⟩:=zb0 h1
    cases h4
    exact ⟨h3,hK' _ _ h2 (by simp [toV])⟩
  | false =>
   rw [hs] at h
   simp only [cond_false] at h
   obtain ⟨h1,h2⟩:=zb0 h
   exact .inl ⟨h1,zpJ hK h2⟩
 ·simp only [toV,zfb]
  exact zpK hK h
 ·simp only [toV,zfb]
  split at h
  ·rename_i hb; simp only [hb]; exact hK' _ _ h (by simp [toV])
  ·rename_i hb; simp only [hb]; exact hK' _ _ h (by simp [toV])
  ·cases h
 ·rename_i cs ds
  simp only [toV,zfb]
  split at h
  ·rename_i ks hk
   obtain ⟨h1,h2⟩:=ym h
   simp only [zyL] at h1
   simp only [hk]
   exact ⟨zb4 h1.1,zb4 h1.2,hK' _ _ h2 (by simp [toV,zus h1.1 h1.2])⟩
  ·rename_i ks hk
   obtain ⟨h1,h2⟩:=ym h
   simp only [zyL] at h1
   simp only [hk]
   exact ⟨zb4 h1.1,zb4 h1.2,hK' _ _ h2 (by simp [toV,zus h1.1 h1.2])⟩
  ·cases h
 ·cases h
theorem zrG {op:UnOp} {x:S} (hK:∀ s,K s = some r->Kp (toV s)) (h:unX op x K = some r):zrZ op (toV x) Kp:=by
 have hK':∀ s v,K s = some r->toV s = v->Kp v:=fun s v h e=>e ▸ hK s h
 unfold unX at h
 split at h
 ·simp only [toV,zrZ]; exact hK' _ _ h (by simp [toV])
 ·obtain ⟨n,h1,h2⟩:=bind_some h
  obtain ⟨q1,rfl⟩:=zjN h1
  simp only [toV,zrZ]; exact ⟨q1,hK' _ _ h2 (by simp [toV])⟩
 ·cases h
theorem znz (s:List UInt8):(zY s).map (enc .u8) = bytesV s:=by
 simp [zY,bytesV,enc,zhC]
theorem zrH {l:List Int} {s:List UInt8} (h:Zz l = some s):l.map (enc .u8) = bytesV s:=by
 obtain ⟨h1,h2⟩:=zb0 h
 cases h2
 simp only [bytesV,List.map_map]
 refine List.map_congr_left fun n hn=>?_
 have:=List.all_eq_true.1 h1 n hn
 simp only [zyL,decide_eq_true_eq] at this
 simp only [enc,zhC,Function.comp]
 congr 1
 have h3:n.toNat < 256:=by omega
 rw [UInt8.toNat_ofNat',Nat.mod_eq_of_lt h3]
 omega
theorem znA {s d:TypeId} {x:S} (hK:∀ s,K s = some r->Kp (toV s)) (h:zui P s d x K = some r):zbA P s d (toV x) Kp:=by
 have hK':∀ s v,K s = some r->toV s = v->Kp v:=fun s v h e=>e ▸ hK s h
 unfold zui at h
 split at h
 ·rename_i h1 h2
  simp only [toV,zbA,h1,h2]; exact hK' _ _ h (by simp [toV])
 ·rename_i h1 h2
  simp only [toV,zbA,h1,h2]; exact hK' _ _ h (by simp [toV])
 ·rename_i h1 h2
  split at h
  ·rename_i e he
   split at h
   ·rename_i hb
    simp only [toV,zbA,h1,h2,he,hb]
    refine hK' _ _ h ?_
    simp only [toV]
    rw [znz]
   ·cases h
  ·cases h
 ·rename_i h1 h2
  split at h
  ·rename_i e he
   split at h
   ·rename_i hb
    obtain ⟨y,h3,h4⟩:=bind_some h
    simp only [toV,zbA,h1,h2,he,hb]
    exact ⟨y,zrH h3,hK' _ _ h4 (by simp [toV])⟩
   ·cases h
  ·cases h
 ·cases h
theorem YE {x:Option Operand} {d:Nat} {Ki:Int->Option β} {Kn:Nat->Prop} (hK:∀ i,Ki i = some r->0 <= i/\Kn i.toNat) (h:zc7 ro m x d Ki = some r):QT (zh ro m) x d Kn:=by
 unfold zc7 at h
 unfold QT
 cases x with
 | none=>have:=(hK _ h).2; simpa using this
 | some x =>
  simp only at h ⊢
  rw [<- zw]
  split at h
  ·rename_i k i hi; simp only [hi,toV]; exact hK _ h
  ·cases h
theorem QR {t:TypeId} {c:C} {e:TypeId} {n:Nat} (h:zfE P t c = some (e,n)):qB P t = some e/\sizeT P e = some n/\n = csz c:=by
 unfold zfE at h
 split at h
 ·rename_i e' he
  split at h
  ·rename_i n' hn
   obtain ⟨h1,h2⟩:=ym h
   cases h2
   exact ⟨he,hn,Nat.eq_of_beq_eq_true h1⟩
  ·cases h
 ·cases h
theorem Zb (c:C) (l:List (den c)):qL (csz c) (l.map (enc c)):=by
 intro v hv
 obtain ⟨x,_,rfl⟩:=List.mem_map.1 hv
 exact zjx c x
theorem zd4 {t:TypeId} {x:S} {lo hi mx:Option Operand} {dst:Option Nat} (hK:∀ s tk,K2 s tk = some r->K2p (toV s) tk) (h:zlq P ro m t x lo hi mx dst K2 = some r) :
  Z3 P t (zh ro m) (toV x) lo hi mx dst K2p:=by
 have hK':∀ s tk v,K2 s tk = some r->toV s = v->K2p v tk:=fun s tk v h e=>e ▸ hK s tk h
 unfold zlq at h
 split at h
 ·rename_i s
  split at h
  ·rename_i hb
   simp only [toV,Z3,hb]
   refine YE (fun a ha=>?_) h
   have hb2:QT (zh ro m) hi _ _:=YE (Kn:=fun h=>a.toNat <= h/\h <= s.length/\K2p (.str ((List.take h s).drop a.toNat)) none) (fun b hb=>?_) ha
   ·refine ⟨?_,hb2⟩
    rcases hi with _ | hi
    ·simp only [zc7] at ha
     obtain ⟨y,h1,_⟩:=bind_some ha
     exact (YX h1).1.1
    ·simp only [zc7] at ha
     split at ha
     ·obtain ⟨y,h1,_⟩:=bind_some ha
      exact (YX h1).1.1
     ·cases ha
   ·obtain ⟨y,h1,h2⟩:=bind_some hb
    obtain ⟨⟨q1,q2,q3⟩,rfl⟩:=YX h1
    exact ⟨by omega,by omega,by omega,hK' _ _ _ h2 (by simp [toV])⟩
  ·cases h
 ·rename_i c l
  split at h
  ·rename_i en he
   obtain ⟨e,n⟩:=en
   obtain ⟨e1,e2,rfl⟩:=QR he
   simp only [toV,Z3,e1,e2]
   refine ⟨Zb c l,?_⟩
   refine YE (fun a ha=>?_) h
   rw [List.length_map]
   have hb2:QT (zh ro m) hi _ _:=YE (Kn:=fun h=>a.toNat <= h/\h <= l.length/\K2p (.list ((List.take h (l.map (enc c))).drop a.toNat)) none) (fun b hb=>?_) ha
   ·refine ⟨?_,hb2⟩
    rcases hi with _ | hi
    ·simp only [zc7] at ha
     obtain ⟨y,h1,_⟩:=bind_some ha
     exact (YX h1).1.1
    ·simp only [zc7] at ha
     split at ha
     ·obtain ⟨y,h1,_⟩:=bind_some ha
      exact (YX h1).1.1
     ·cases ha
   ·obtain ⟨y,h1,h2⟩:=bind_some hb
    obtain ⟨⟨q1,q2,q3⟩,rfl⟩:=YX h1
    exact ⟨by omega,by omega,by omega,hK' _ _ _ h2 (by simp [toV,List.map_drop,List.map_take])⟩
  ·cases h
 ·rename_i c l mx
  split at h
  ·rename_i e n hi he
   obtain ⟨e1,e2,rfl⟩:=QR he
   simp only [toV,Z3,e1,e2]
   refine ⟨Zb c l,?_⟩
   refine YE (fun a ha=>?_) h
   rw [List.length_map]
   have h0:0 <= a:=by
    simp only [zc7] at ha
    split at ha
    ·split at ha
     ·rcases brS ha with ⟨_,ha⟩ | ⟨_,ha⟩
      ·obtain ⟨y,h1,_⟩:=bind_some ha
       exact (YX h1).1.1
      ·cases ha
     ·cases ha
    ·cases ha
   refine ⟨h0,YE (fun b hb=>?_) ha⟩
   have hb':=hb
   simp only [zc7] at hb
   split at hb
   ·rename_i kk i hi'
    rcases brS hb with ⟨q0,hb⟩ | ⟨_,hb⟩
    ·obtain ⟨y,h1,h2⟩:=bind_some hb
     obtain ⟨⟨q1,q2,q3⟩,rfl⟩:=YX h1
     simp only [decide_eq_true_eq] at q0
     subst q0
     refine ⟨by omega,?_⟩
     unfold QT
     simp only
     rw [<- zw,hi']
     simp only [toV]
     exact ⟨by omega,trivial,by omega,by omega,hK' _ _ _ h2 (by simp [toV,List.map_drop,List.map_take])⟩
    ·cases hb
   ·cases hb
  ·cases h
 ·cases h
theorem zjP {c:C} {g n:Nat}:∀ {k off:Nat} {l:List (den c)},zug c g n k off = some l->0 < k->∃ vs,GL g = some vs/\off + k * n <= vs.length/\YZ n k ((vs.map Zd).drop off) = l.map (enc c)
 | 0,_,_,_,h0=>absurd h0 (by omega)
 | k + 1,off,l,h,_=>by
  simp only [zug] at h
  split at h
  ·rename_i x l' h1 h2
   cases h
   obtain ⟨vs,q1,q2,q3⟩:=zjO h1
   by_cases hk:0 < k
   ·obtain ⟨vs',r1,r2,r3⟩:=zjP h2 hk
    rw [q1] at r1; cases r1
    refine ⟨vs,q1,by rw [Nat.add_mul]; omega,?_⟩
    simp only [YZ,List.map_cons,q3,List.drop_drop,r3]
   ·obtain rfl:k = 0:=by omega
    simp only [zug,zyO] at h2
    subst h2
    refine ⟨vs,q1,by omega,?_⟩
    simp only [YZ,List.map_cons,q3,List.map_nil]
  ·cases h
theorem ziT {t:TypeId} {x:S} {lo hi mx:Option Operand} {dst:Option Nat} (hK:∀ s tk,K2 s tk = some r->K2p (toV s) tk) (h:zlr P code ro m t x lo hi mx dst K2 = some r) :
  Z3 P t (zh ro m) (toV x) lo hi mx dst K2p:=by
 unfold zlr at h
 split at h
 ·rename_i g a
  split at h
  ·rename_i len e hT
   split at h
   ·rename_i n c hs hc
    obtain ⟨h1,h2⟩:=ym h
    simp only [zyL] at h1
    obtain ⟨y,h3,h4⟩:=bind_some h2
    have hl0:0 < len:=zyN h1.2
    obtain ⟨vs,q1,q2,q3⟩:=zjP h3 hl0
    simp only [toV,q1,Z3,hT,hs]
    refine ⟨by simpa using q2,zyN h1.1.2,hl0,.inl ?_⟩
    rw [q3]
    have:=hK _ _ h4
    simpa only [toV] using this
   ·cases h
  ·cases h
 ·rename_i cs a
  split at h
  ·rename_i len e hT
   split at h
   ·rename_i n c hs hc
    obtain ⟨h1,h2⟩:=ym h
    simp only [zyL] at h1
    obtain ⟨⟨⟨h3,h4⟩,h5⟩,h6⟩:=h1
    obtain rfl:=Nat.eq_of_beq_eq_true h3
    split at h2
    ·rename_i l hl
     have h7:=Qq hl
     have h8:=zyN h4
     have h9:(zi cs).length = cs.length:=qf cs
     simp only [toV,Z3,hT,hs]
     refine ⟨by rw [h9]; omega,zyN h5,zyN h6,.inr ⟨trivial,?_⟩⟩
     have:=hK _ _ h2
     simp only [toV] at this
     rw [<- h7,YW] at this
     exact this
    ·cases h2
   ·cases h
  ·cases h
 ·exact zd4 hK h
theorem zlC {s:TypeId} {i:Nat} {x:S} (hK:∀ s,K s = some r->Kp (toV s)) (h:zpx P s i x K = some r):zf9 P s i (toV x) Kp:=by
 have hK':∀ s v,K s = some r->toV s = v->Kp v:=fun s v h e=>e ▸ hK s h
 unfold zpx at h
 unfold zf9
 split at h
 ·rename_i off t hf
  simp only [hf]
  split at h
  ·rename_i n hs
   simp only [hs]
   cases hn:Nat.beq n 0 with
   | true=>rw [hn] at h; cases h
   | false =>
    rw [hn] at h
    have hn':n ≠ 0:=fun e=>by subst e; cases hn
    simp only [cond_false] at h
    refine ⟨hn',?_⟩
    split at h
    ·simp only [toV]; exact hK' _ _ h (by simp [toV])
    ·simp only [toV]; exact hK' _ _ h (by simp [toV])
    ·rename_i g a
     split at h
     ·rename_i vs hv
      simp only [toV,hv]
      exact hK' _ _ h (by simp [toV,hv])
     ·cases h
    ·cases h
  ·cases h
 ·cases h
end
end Go.X
