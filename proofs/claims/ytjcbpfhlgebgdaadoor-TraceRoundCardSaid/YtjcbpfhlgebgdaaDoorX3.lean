import Derived.Test.YtjcbpfhlgebgdaaDoorE16
import Derived.KernelRfl
set_option linter.unusedSimpArgs false
set_option linter.unusedVariables false
namespace Go.X
open Go.Eng
open Go.RowKit
structure ID where
 Node:Int
 Seq:Int
 Off:Int
 deriving DecidableEq,Inhabited,Repr
structure Outc where
 Tick:Int
 Node:Int
 Kind:Int
 ID:ID
 Other:Int
 deriving DecidableEq,Inhabited,Repr
structure Word where
 At:Int
 Key:List UInt8
 Text:List UInt8
 deriving DecidableEq,Inhabited,Repr
structure Row where
 At:Int
 Words:List (Word)
 deriving DecidableEq,Inhabited,Repr
structure Fault where
 Err:Int
 At:Int
 deriving DecidableEq,Inhabited,Repr
structure W3 where
 a:Int
 b:Int
 c:Int
 deriving DecidableEq,Inhabited,Repr
structure Pair where
 a:Int
 b:Int
 deriving DecidableEq,Inhabited,Repr
structure Face where
 word:List UInt8
 uses:Int
 deriving DecidableEq,Inhabited,Repr
structure Scanner where
 s:List UInt8
 pos:Int
 deriving DecidableEq,Inhabited,Repr
inductive IV where
 | int (t:Nat) (n:Int)
 | id (t:Nat) (x:ID)
 deriving DecidableEq,Inhabited,Repr
inductive C where
 | i64 | u64 | i32 | u32 | u8 | i16 | u16 | i8 | bool | str | iv | ID | Outc | Word | Row | Fault | W3 | Pair | Face | Scanner | l_W3 | l_Outc | l_Word | l_Row | l_Face | l_u8 | l_i64 | l_str | l_iv
 deriving DecidableEq
@[reducible] def den:C→Type
 | .i64=>Int
 | .u64=>Int
 | .i32=>Int
 | .u32=>Int
 | .u8=>Int
 | .i16=>Int
 | .u16=>Int
 | .i8=>Int
 | .bool=>Bool
 | .str=>List UInt8
 | .iv=>IV
 | .ID=>ID
 | .Outc=>Outc
 | .Word=>Word
 | .Row=>Row
 | .Fault=>Fault
 | .W3=>W3
 | .Pair=>Pair
 | .Face=>Face
 | .Scanner=>Scanner
 | .l_W3=>List (W3)
 | .l_Outc=>List (Outc)
 | .l_Word=>List (Word)
 | .l_Row=>List (Row)
 | .l_Face=>List (Face)
 | .l_u8=>List (Int)
 | .l_i64=>List (Int)
 | .l_str=>List (List UInt8)
 | .l_iv=>List (IV)
def enc_i64:Int→V:=fun x=>.int .i64 x
def enc_u64:Int→V:=fun x=>.int .u64 x
def enc_i32:Int→V:=fun x=>.int .i32 x
def enc_u32:Int→V:=fun x=>.int .u32 x
def enc_u8:Int→V:=fun x=>.int .u8 x
def enc_i16:Int→V:=fun x=>.int .i16 x
def enc_u16:Int→V:=fun x=>.int .u16 x
def enc_i8:Int→V:=fun x=>.int .i8 x
def enc_bool:Bool→V:=fun x=>.bool x
def enc_str:List UInt8→V:=fun x=>.str x
def enc_iv:IV→V
 | .int t n=>.iface t (.int .i64 n)
 | .id t x=>.iface t (.agg [.int .i64 x.Node,.int .u64 x.Seq,.int .i64 x.Off])
def enc_ID:ID→V:=fun x=>.agg [.int .i64 x.Node,.int .u64 x.Seq,.int .i64 x.Off]
def enc_Outc:Outc→V:=fun x=>.agg [.int .i64 x.Tick,.int .i64 x.Node,.int .i64 x.Kind,.int .i64 x.ID.Node,.int .u64 x.ID.Seq,.int .i64 x.ID.Off,.int .i64 x.Other]
def enc_Word:Word→V:=fun x=>.agg [.int .i64 x.At,.str x.Key,.str x.Text]
def enc_Fault:Fault→V:=fun x=>.agg [.int .i64 x.Err,.int .i64 x.At]
def enc_W3:W3→V:=fun x=>.agg [.int .i64 x.a,.int .i64 x.b,.int .i64 x.c]
def enc_Pair:Pair→V:=fun x=>.agg [.int .i64 x.a,.int .i64 x.b]
def enc_Face:Face→V:=fun x=>.agg [.str x.word,.int .i64 x.uses]
def enc_Scanner:Scanner→V:=fun x=>.agg [.str x.s,.int .i64 x.pos]
def enc_l_W3:List (W3)→V:=fun x=>.list (x.map enc_W3)
def enc_l_Outc:List (Outc)→V:=fun x=>.list (x.map enc_Outc)
def enc_l_Word:List (Word)→V:=fun x=>.list (x.map enc_Word)
def enc_l_Face:List (Face)→V:=fun x=>.list (x.map enc_Face)
def enc_l_u8:List (Int)→V:=fun x=>.list (x.map enc_u8)
def enc_l_i64:List (Int)→V:=fun x=>.list (x.map enc_i64)
def enc_l_str:List (List UInt8)→V:=fun x=>.list (x.map enc_str)
def enc_l_iv:List (IV)→V:=fun x=>.list (x.map enc_iv)
def enc_Row:Row→V:=fun x=>.agg [.int .i64 x.At,.list (x.Words.map enc_Word)]
def enc_l_Row:List (Row)→V:=fun x=>.list (x.map enc_Row)
def arrC:C→Option (C × Nat)
 | _=>none
def dfl:∀ c:C,den c
 | .i64=>(0:Int)
 | .u64=>(0:Int)
 | .i32=>(0:Int)
 | .u32=>(0:Int)
 | .u8=>(0:Int)
 | .i16=>(0:Int)
 | .u16=>(0:Int)
 | .i8=>(0:Int)
 | .bool=>(false:Bool)
 | .str=>([]:List UInt8)
 | .iv=>(.int 0 0:IV)
 | .ID=>(⟨0,0,0⟩:ID)
 | .Outc=>(⟨0,0,0,⟨0,0,0⟩,0⟩:Outc)
 | .Word=>(⟨0,[],[]⟩:Word)
 | .Row=>(⟨0,[]⟩:Row)
 | .Fault=>(⟨0,0⟩:Fault)
 | .W3=>(⟨0,0,0⟩:W3)
 | .Pair=>(⟨0,0⟩:Pair)
 | .Face=>(⟨[],0⟩:Face)
 | .Scanner=>(⟨[],0⟩:Scanner)
 | .l_W3=>([]:List (W3))
 | .l_Outc=>([]:List (Outc))
 | .l_Word=>([]:List (Word))
 | .l_Row=>([]:List (Row))
 | .l_Face=>([]:List (Face))
 | .l_u8=>([]:List (Int))
 | .l_i64=>([]:List (Int))
 | .l_str=>([]:List (List UInt8))
 | .l_iv=>([]:List (IV))
def enc:∀ c:C,den c→V
 | .i64=>enc_i64
 | .u64=>enc_u64
 | .i32=>enc_i32
 | .u32=>enc_u32
 | .u8=>enc_u8
 | .i16=>enc_i16
 | .u16=>enc_u16
 | .i8=>enc_i8
 | .bool=>enc_bool
 | .str=>enc_str
 | .iv=>enc_iv
 | .ID=>enc_ID
 | .Outc=>enc_Outc
 | .Word=>enc_Word
 | .Row=>enc_Row
 | .Fault=>enc_Fault
 | .W3=>enc_W3
 | .Pair=>enc_Pair
 | .Face=>enc_Face
 | .Scanner=>enc_Scanner
 | .l_W3=>enc_l_W3
 | .l_Outc=>enc_l_Outc
 | .l_Word=>enc_l_Word
 | .l_Row=>enc_l_Row
 | .l_Face=>enc_l_Face
 | .l_u8=>enc_l_u8
 | .l_i64=>enc_l_i64
 | .l_str=>enc_l_str
 | .l_iv=>enc_l_iv
def csz:C→Nat
 | .i64=>1
 | .u64=>1
 | .i32=>1
 | .u32=>1
 | .u8=>1
 | .i16=>1
 | .u16=>1
 | .i8=>1
 | .bool=>1
 | .str=>1
 | .iv=>1
 | .ID=>3
 | .Outc=>7
 | .Word=>3
 | .Row=>2
 | .Fault=>2
 | .W3=>3
 | .Pair=>2
 | .Face=>2
 | .Scanner=>2
 | .l_W3=>1
 | .l_Outc=>1
 | .l_Word=>1
 | .l_Row=>1
 | .l_Face=>1
 | .l_u8=>1
 | .l_i64=>1
 | .l_str=>1
 | .l_iv=>1
theorem noLocL_map' {α:Type} {f:α→V} (h:∀ x,(f x).noLoc = true):∀ l:List α,V.noLocL (l.map f) = true
 | []=>rfl
 | x :: l=>by simp [V.noLocL,h x,noLocL_map' h l]
theorem enc_csize:∀ (c:C) (x:den c),(enc c x).csize = some (csz c):=by
 intro c x; cases c <;> first | rfl | (cases x <;> rfl)
theorem noLoc_iv (x:IV):(enc_iv x).noLoc = true:=by cases x <;> rfl
theorem noLoc_i64 (x:Int):(enc_i64 x).noLoc = true:=rfl
theorem noLoc_u64 (x:Int):(enc_u64 x).noLoc = true:=rfl
theorem noLoc_i32 (x:Int):(enc_i32 x).noLoc = true:=rfl
theorem noLoc_u32 (x:Int):(enc_u32 x).noLoc = true:=rfl
theorem noLoc_u8 (x:Int):(enc_u8 x).noLoc = true:=rfl
theorem noLoc_i16 (x:Int):(enc_i16 x).noLoc = true:=rfl
theorem noLoc_u16 (x:Int):(enc_u16 x).noLoc = true:=rfl
theorem noLoc_i8 (x:Int):(enc_i8 x).noLoc = true:=rfl
theorem noLoc_bool (x:Bool):(enc_bool x).noLoc = true:=rfl
theorem noLoc_str (x:List UInt8):(enc_str x).noLoc = true:=rfl
theorem noLoc_ID (x:ID):(enc_ID x).noLoc = true:=rfl
theorem noLoc_Outc (x:Outc):(enc_Outc x).noLoc = true:=rfl
theorem noLoc_Word (x:Word):(enc_Word x).noLoc = true:=rfl
theorem noLoc_Fault (x:Fault):(enc_Fault x).noLoc = true:=rfl
theorem noLoc_W3 (x:W3):(enc_W3 x).noLoc = true:=rfl
theorem noLoc_Pair (x:Pair):(enc_Pair x).noLoc = true:=rfl
theorem noLoc_Face (x:Face):(enc_Face x).noLoc = true:=rfl
theorem noLoc_Scanner (x:Scanner):(enc_Scanner x).noLoc = true:=rfl
theorem noLoc_l_W3 (x:List (W3)):(enc_l_W3 x).noLoc = true:=by simp only [enc_l_W3,V.noLoc]; exact noLocL_map' noLoc_W3 x
theorem noLoc_l_Outc (x:List (Outc)):(enc_l_Outc x).noLoc = true:=by simp only [enc_l_Outc,V.noLoc]; exact noLocL_map' noLoc_Outc x
theorem noLoc_l_Word (x:List (Word)):(enc_l_Word x).noLoc = true:=by simp only [enc_l_Word,V.noLoc]; exact noLocL_map' noLoc_Word x
theorem noLoc_l_Face (x:List (Face)):(enc_l_Face x).noLoc = true:=by simp only [enc_l_Face,V.noLoc]; exact noLocL_map' noLoc_Face x
theorem noLoc_l_u8 (x:List (Int)):(enc_l_u8 x).noLoc = true:=by simp only [enc_l_u8,V.noLoc]; exact noLocL_map' noLoc_u8 x
theorem noLoc_l_i64 (x:List (Int)):(enc_l_i64 x).noLoc = true:=by simp only [enc_l_i64,V.noLoc]; exact noLocL_map' noLoc_i64 x
theorem noLoc_l_str (x:List (List UInt8)):(enc_l_str x).noLoc = true:=by simp only [enc_l_str,V.noLoc]; exact noLocL_map' noLoc_str x
theorem noLoc_l_iv (x:List (IV)):(enc_l_iv x).noLoc = true:=by simp only [enc_l_iv,V.noLoc]; exact noLocL_map' noLoc_iv x
theorem noLoc_Row (x:Row):(enc_Row x).noLoc = true:=by simp [enc_Row,V.noLoc,V.noLocL,noLocL_map' noLoc_Word]
theorem noLoc_l_Row (x:List (Row)):(enc_l_Row x).noLoc = true:=by simp only [enc_l_Row,V.noLoc]; exact noLocL_map' noLoc_Row x
theorem enc_noLoc:∀ (c:C) (x:den c),(enc c x).noLoc = true
 | .i64,x=>noLoc_i64 x
 | .u64,x=>noLoc_u64 x
 | .i32,x=>noLoc_i32 x
 | .u32,x=>noLoc_u32 x
 | .u8,x=>noLoc_u8 x
 | .i16,x=>noLoc_i16 x
 | .u16,x=>noLoc_u16 x
 | .i8,x=>noLoc_i8 x
 | .bool,x=>noLoc_bool x
 | .str,x=>noLoc_str x
 | .iv,x=>noLoc_iv x
 | .ID,x=>noLoc_ID x
 | .Outc,x=>noLoc_Outc x
 | .Word,x=>noLoc_Word x
 | .Row,x=>noLoc_Row x
 | .Fault,x=>noLoc_Fault x
 | .W3,x=>noLoc_W3 x
 | .Pair,x=>noLoc_Pair x
 | .Face,x=>noLoc_Face x
 | .Scanner,x=>noLoc_Scanner x
 | .l_W3,x=>noLoc_l_W3 x
 | .l_Outc,x=>noLoc_l_Outc x
 | .l_Word,x=>noLoc_l_Word x
 | .l_Row,x=>noLoc_l_Row x
 | .l_Face,x=>noLoc_l_Face x
 | .l_u8,x=>noLoc_l_u8 x
 | .l_i64,x=>noLoc_l_i64 x
 | .l_str,x=>noLoc_l_str x
 | .l_iv,x=>noLoc_l_iv x
inductive S:Type where
 | any | un
 | int (k:IntKind) (n:Int)
 | bool (b:Bool)
 | str (s:List UInt8)
 | agg (cs:List S)
 | tup (vs:List S)
 | loc (i off:Nat)
 | loco (i off n:Nat) (ix:Int)
 | elt (cs:List S) (off:Nat)
 | gel (g off:Nat)
 | nilp
 | lst (c:C) (l:List (den c))
 | rows (vs:List S)
 | fn (f:Go.Fn) (first cap:List S)
 | nilfn
 | iface (t:TypeId) (v:S)
 | nilif
 | mref (i:Nat)
 | nilm
 | ptr (i:Int) (sz f:Nat)
 | ivd (x:IV)
 deriving Inhabited
def asInt (k:IntKind):S→Option Int
 | .int k' n=>if k' = k then some n else none
 | _=>none
def asBool:S→Option Bool
 | .bool b=>some b
 | _=>none
def asStr:S→Option (List UInt8)
 | .str b=>some b
 | _=>none
def asIv:S→Option IV
 | .ivd x=>some x
 | .iface t (.int .i64 n)=>some (.int t n)
 | .iface t (.agg [.int .i64 a,.int .u64 b,.int .i64 c])=>some (.id t ⟨a,b,c⟩)
 | _=>none
def asLst (c:C):S→Option (List (den c))
 | .lst c' l=>if h:c' = c then some (h ▸ l) else none
 | .rows []=>some []
 | _=>none
def refl_i64:Int→S:=fun x=>.int .i64 x
def refl_u64:Int→S:=fun x=>.int .u64 x
def refl_i32:Int→S:=fun x=>.int .i32 x
def refl_u32:Int→S:=fun x=>.int .u32 x
def refl_u8:Int→S:=fun x=>.int .u8 x
def refl_i16:Int→S:=fun x=>.int .i16 x
def refl_u16:Int→S:=fun x=>.int .u16 x
def refl_i8:Int→S:=fun x=>.int .i8 x
def refl_bool:Bool→S:=fun x=>.bool x
def refl_str:List UInt8→S:=fun x=>.str x
def refl_iv:IV→S:=fun x=>.ivd x
def refl_ID:ID→S:=fun x=>.agg [.int .i64 x.Node,.int .u64 x.Seq,.int .i64 x.Off]
def refl_Outc:Outc→S:=fun x=>.agg [.int .i64 x.Tick,.int .i64 x.Node,.int .i64 x.Kind,.int .i64 x.ID.Node,.int .u64 x.ID.Seq,.int .i64 x.ID.Off,.int .i64 x.Other]
def refl_Word:Word→S:=fun x=>.agg [.int .i64 x.At,.str x.Key,.str x.Text]
def refl_Row:Row→S:=fun x=>.agg [.int .i64 x.At,.lst .Word x.Words]
def refl_Fault:Fault→S:=fun x=>.agg [.int .i64 x.Err,.int .i64 x.At]
def refl_W3:W3→S:=fun x=>.agg [.int .i64 x.a,.int .i64 x.b,.int .i64 x.c]
def refl_Pair:Pair→S:=fun x=>.agg [.int .i64 x.a,.int .i64 x.b]
def refl_Face:Face→S:=fun x=>.agg [.str x.word,.int .i64 x.uses]
def refl_Scanner:Scanner→S:=fun x=>.agg [.str x.s,.int .i64 x.pos]
def refl_l_W3:List (W3)→S:=fun x=>.lst .W3 x
def refl_l_Outc:List (Outc)→S:=fun x=>.lst .Outc x
def refl_l_Word:List (Word)→S:=fun x=>.lst .Word x
def refl_l_Row:List (Row)→S:=fun x=>.lst .Row x
def refl_l_Face:List (Face)→S:=fun x=>.lst .Face x
def refl_l_u8:List (Int)→S:=fun x=>.lst .u8 x
def refl_l_i64:List (Int)→S:=fun x=>.lst .i64 x
def refl_l_str:List (List UInt8)→S:=fun x=>.lst .str x
def refl_l_iv:List (IV)→S:=fun x=>.lst .iv x
def refl:∀ c:C,den c→S
 | .i64=>refl_i64
 | .u64=>refl_u64
 | .i32=>refl_i32
 | .u32=>refl_u32
 | .u8=>refl_u8
 | .i16=>refl_i16
 | .u16=>refl_u16
 | .i8=>refl_i8
 | .bool=>refl_bool
 | .str=>refl_str
 | .iv=>refl_iv
 | .ID=>refl_ID
 | .Outc=>refl_Outc
 | .Word=>refl_Word
 | .Row=>refl_Row
 | .Fault=>refl_Fault
 | .W3=>refl_W3
 | .Pair=>refl_Pair
 | .Face=>refl_Face
 | .Scanner=>refl_Scanner
 | .l_W3=>refl_l_W3
 | .l_Outc=>refl_l_Outc
 | .l_Word=>refl_l_Word
 | .l_Row=>refl_l_Row
 | .l_Face=>refl_l_Face
 | .l_u8=>refl_l_u8
 | .l_i64=>refl_l_i64
 | .l_str=>refl_l_str
 | .l_iv=>refl_l_iv
def un_ID:S→Option (ID)
 | .agg [p0,p1,p2]=>(asInt .i64 p0).bind fun q0=>(asInt .u64 p1).bind fun q1=>(asInt .i64 p2).bind fun q2=>(some ⟨q0,q1,q2⟩)
 | _=>none
def un_Outc:S→Option (Outc)
 | .agg [p0,p1,p2,p3,p4,p5,p6]=>(asInt .i64 p0).bind fun q0=>(asInt .i64 p1).bind fun q1=>(asInt .i64 p2).bind fun q2=>(asInt .i64 p3).bind fun q3=>(asInt .u64 p4).bind fun q4=>(asInt .i64 p5).bind fun q5=>(asInt .i64 p6).bind fun q6=>(some ⟨q0,q1,q2,⟨q3,q4,q5⟩,q6⟩)
 | _=>none
def un_Word:S→Option (Word)
 | .agg [p0,p1,p2]=>(asInt .i64 p0).bind fun q0=>(asStr p1).bind fun q1=>(asStr p2).bind fun q2=>(some ⟨q0,q1,q2⟩)
 | _=>none
def un_Row:S→Option (Row)
 | .agg [p0,p1]=>(asInt .i64 p0).bind fun q0=>(asLst .Word p1).bind fun q1=>(some ⟨q0,q1⟩)
 | _=>none
def un_Fault:S→Option (Fault)
 | .agg [p0,p1]=>(asInt .i64 p0).bind fun q0=>(asInt .i64 p1).bind fun q1=>(some ⟨q0,q1⟩)
 | _=>none
def un_W3:S→Option (W3)
 | .agg [p0,p1,p2]=>(asInt .i64 p0).bind fun q0=>(asInt .i64 p1).bind fun q1=>(asInt .i64 p2).bind fun q2=>(some ⟨q0,q1,q2⟩)
 | _=>none
def un_Pair:S→Option (Pair)
 | .agg [p0,p1]=>(asInt .i64 p0).bind fun q0=>(asInt .i64 p1).bind fun q1=>(some ⟨q0,q1⟩)
 | _=>none
def un_Face:S→Option (Face)
 | .agg [p0,p1]=>(asStr p0).bind fun q0=>(asInt .i64 p1).bind fun q1=>(some ⟨q0,q1⟩)
 | _=>none
def un_Scanner:S→Option (Scanner)
 | .agg [p0,p1]=>(asStr p0).bind fun q0=>(asInt .i64 p1).bind fun q1=>(some ⟨q0,q1⟩)
 | _=>none
def unrefl:∀ c:C,S→Option (den c)
 | .i64=>fun s=>asInt .i64 s
 | .u64=>fun s=>asInt .u64 s
 | .i32=>fun s=>asInt .i32 s
 | .u32=>fun s=>asInt .u32 s
 | .u8=>fun s=>asInt .u8 s
 | .i16=>fun s=>asInt .i16 s
 | .u16=>fun s=>asInt .u16 s
 | .i8=>fun s=>asInt .i8 s
 | .bool=>fun s=>asBool s
 | .str=>fun s=>asStr s
 | .iv=>fun s=>asIv s
 | .ID=>un_ID
 | .Outc=>un_Outc
 | .Word=>un_Word
 | .Row=>un_Row
 | .Fault=>un_Fault
 | .W3=>un_W3
 | .Pair=>un_Pair
 | .Face=>un_Face
 | .Scanner=>un_Scanner
 | .l_W3=>fun s=>asLst .W3 s
 | .l_Outc=>fun s=>asLst .Outc s
 | .l_Word=>fun s=>asLst .Word s
 | .l_Row=>fun s=>asLst .Row s
 | .l_Face=>fun s=>asLst .Face s
 | .l_u8=>fun s=>asLst .u8 s
 | .l_i64=>fun s=>asLst .i64 s
 | .l_str=>fun s=>asLst .str s
 | .l_iv=>fun s=>asLst .iv s
def codeFlat:C→Bool
 | .i64=>true
 | .u64=>true
 | .i32=>true
 | .u32=>true
 | .u8=>true
 | .i16=>true
 | .u16=>true
 | .i8=>true
 | .bool=>true
 | .str=>true
 | .iv=>false
 | .ID=>true
 | .Outc=>true
 | .Word=>true
 | .Row=>false
 | .Fault=>true
 | .W3=>true
 | .Pair=>true
 | .Face=>true
 | .Scanner=>true
 | .l_W3=>false
 | .l_Outc=>false
 | .l_Word=>false
 | .l_Row=>false
 | .l_Face=>false
 | .l_u8=>false
 | .l_i64=>false
 | .l_str=>false
 | .l_iv=>false
def dq:∀ c:C,Option (DecidableEq (den c))
 | .i64=>some (inferInstanceAs (DecidableEq (Int)))
 | .u64=>some (inferInstanceAs (DecidableEq (Int)))
 | .str=>some (inferInstanceAs (DecidableEq (List UInt8)))
 | .Pair=>some (inferInstanceAs (DecidableEq (Pair)))
 | .ID=>some (inferInstanceAs (DecidableEq (ID)))
 | .Outc=>some (inferInstanceAs (DecidableEq (Outc)))
 | _=>none
mutual
def toV:S→V
 | .any=>.any
 | .un=>.un
 | .int k n=>.int k n
 | .bool b=>.bool b
 | .str s=>.str s
 | .agg cs=>.agg (toVL cs)
 | .tup cs=>.tup (toVL cs)
 | .loc i off=>.loc i off
 | .loco i off _ ix=>.loc i (off + ix.toNat)
 | .elt cs off=>.elt (toVL cs) off
 | .gel g off=>(match GL g with | some vs=>.elt (vs.map constV) off | none=>.any)
 | .nilp=>.nilp
 | .lst c l=>.list (l.map (enc c))
 | .rows vs=>.list (toVL vs)
 | .fn f first cap=>.fn f (toVL first) (toVL cap)
 | .nilfn=>.nilfn
 | .iface t v=>.iface t (toV v)
 | .nilif=>.nilif
 | .mref i=>.mref i
 | .nilm=>.nilm
 | .ptr i sz f=>.ptr (i.toNat * sz + f)
 | .ivd x=>enc_iv x
def toVL:List S→List V
 | []=>[]
 | c :: cs=>toV c :: toVL cs
end
theorem toVL_map:∀ cs:List S,toVL cs = cs.map toV
 | []=>by simp [toVL]
 | c :: cs=>by simp [toVL,toVL_map cs]
theorem asInt_spec {k:IntKind} {s:S} {n:Int} (h:asInt k s = some n):s = .int k n:=by
 cases s <;> simp only [asInt,reduceCtorEq] at h
 split at h
 ·rename_i e; subst e; cases h; rfl
 ·cases h
theorem asBool_spec {s:S} {n:Bool} (h:asBool s = some n):s = .bool n:=by
 cases s <;> simp only [asBool,reduceCtorEq] at h
 cases h; rfl
theorem asStr_spec {s:S} {n:List UInt8} (h:asStr s = some n):s = .str n:=by
 cases s <;> simp only [asStr,reduceCtorEq] at h
 cases h; rfl
theorem asLst_spec {c:C} {s:S} {l:List (den c)} (h:asLst c s = some l):toV s = .list (l.map (enc c)):=by
 unfold asLst at h
 split at h
 ·split at h
  ·rename_i e; subst e; cases h; simp [toV]
  ·cases h
 ·cases h; simp [toV,toVL]
 ·cases h
theorem bind_some {α β:Type} {o:Option α} {f:α→Option β} {r:β} (h:o.bind f = some r):∃ x,o = some x∧f x = some r:=by
 cases o with
 | none=>cases h
 | some x=>exact ⟨x,rfl,h⟩
theorem toV_int {k:IntKind} {s:S} {n:Int} (h:asInt k s = some n):toV s = .int k n:=by rw [asInt_spec h]; simp [toV]
theorem toV_bool {s:S} {n:Bool} (h:asBool s = some n):toV s = .bool n:=by rw [asBool_spec h]; simp [toV]
theorem toV_iv {s:S} {n:IV} (h:asIv s = some n):toV s = enc_iv n:=by
 unfold asIv at h
 split at h
 ·cases h; simp [toV]
 ·cases h; simp [toV,enc_iv]
 ·cases h; simp [toV,toVL,enc_iv]
 ·cases h
theorem toV_str {s:S} {n:List UInt8} (h:asStr s = some n):toV s = .str n:=by rw [asStr_spec h]; simp [toV]
theorem unrefl_ID {s:S} {x:ID} (h:un_ID s = some x):toV s = enc_ID x:=by
 unfold un_ID at h
 split at h
 ·obtain ⟨q0,h0,h⟩:=bind_some h
  obtain ⟨q1,h1,h⟩:=bind_some h
  obtain ⟨q2,h2,h⟩:=bind_some h
  cases h
  simp only [toV,toVL,toV_int h0,toV_int h1,toV_int h2]
  rfl
 ·cases h
theorem unrefl_Outc {s:S} {x:Outc} (h:un_Outc s = some x):toV s = enc_Outc x:=by
 unfold un_Outc at h
 split at h
 ·obtain ⟨q0,h0,h⟩:=bind_some h
  obtain ⟨q1,h1,h⟩:=bind_some h
  obtain ⟨q2,h2,h⟩:=bind_some h
  obtain ⟨q3,h3,h⟩:=bind_some h
  obtain ⟨q4,h4,h⟩:=bind_some h
  obtain ⟨q5,h5,h⟩:=bind_some h
  obtain ⟨q6,h6,h⟩:=bind_some h
  cases h
  simp only [toV,toVL,toV_int h0,toV_int h1,toV_int h2,toV_int h3,toV_int h4,toV_int h5,toV_int h6]
  rfl
 ·cases h
theorem unrefl_Word {s:S} {x:Word} (h:un_Word s = some x):toV s = enc_Word x:=by
 unfold un_Word at h
 split at h
 ·obtain ⟨q0,h0,h⟩:=bind_some h
  obtain ⟨q1,h1,h⟩:=bind_some h
  obtain ⟨q2,h2,h⟩:=bind_some h
  cases h
  simp only [toV,toVL,toV_int h0,toV_str h1,toV_str h2]
  rfl
 ·cases h
theorem unrefl_Row {s:S} {x:Row} (h:un_Row s = some x):toV s = enc_Row x:=by
 unfold un_Row at h
 split at h
 ·obtain ⟨q0,h0,h⟩:=bind_some h
  obtain ⟨q1,h1,h⟩:=bind_some h
  cases h
  simp only [toV,toVL,toV_int h0,asLst_spec h1]
  rfl
 ·cases h
theorem unrefl_Fault {s:S} {x:Fault} (h:un_Fault s = some x):toV s = enc_Fault x:=by
 unfold un_Fault at h
 split at h
 ·obtain ⟨q0,h0,h⟩:=bind_some h
  obtain ⟨q1,h1,h⟩:=bind_some h
  cases h
  simp only [toV,toVL,toV_int h0,toV_int h1]
  rfl
 ·cases h
theorem unrefl_W3 {s:S} {x:W3} (h:un_W3 s = some x):toV s = enc_W3 x:=by
 unfold un_W3 at h
 split at h
 ·obtain ⟨q0,h0,h⟩:=bind_some h
  obtain ⟨q1,h1,h⟩:=bind_some h
  obtain ⟨q2,h2,h⟩:=bind_some h
  cases h
  simp only [toV,toVL,toV_int h0,toV_int h1,toV_int h2]
  rfl
 ·cases h
theorem unrefl_Pair {s:S} {x:Pair} (h:un_Pair s = some x):toV s = enc_Pair x:=by
 unfold un_Pair at h
 split at h
 ·obtain ⟨q0,h0,h⟩:=bind_some h
  obtain ⟨q1,h1,h⟩:=bind_some h
  cases h
  simp only [toV,toVL,toV_int h0,toV_int h1]
  rfl
 ·cases h
theorem unrefl_Face {s:S} {x:Face} (h:un_Face s = some x):toV s = enc_Face x:=by
 unfold un_Face at h
 split at h
 ·obtain ⟨q0,h0,h⟩:=bind_some h
  obtain ⟨q1,h1,h⟩:=bind_some h
  cases h
  simp only [toV,toVL,toV_str h0,toV_int h1]
  rfl
 ·cases h
theorem unrefl_Scanner {s:S} {x:Scanner} (h:un_Scanner s = some x):toV s = enc_Scanner x:=by
 unfold un_Scanner at h
 split at h
 ·obtain ⟨q0,h0,h⟩:=bind_some h
  obtain ⟨q1,h1,h⟩:=bind_some h
  cases h
  simp only [toV,toVL,toV_str h0,toV_int h1]
  rfl
 ·cases h
theorem unrefl_enc:∀ {c:C} {s:S} {x:den c},unrefl c s = some x→toV s = enc c x
 | .i64,s,x,h=>toV_int h
 | .u64,s,x,h=>toV_int h
 | .i32,s,x,h=>toV_int h
 | .u32,s,x,h=>toV_int h
 | .u8,s,x,h=>toV_int h
 | .i16,s,x,h=>toV_int h
 | .u16,s,x,h=>toV_int h
 | .i8,s,x,h=>toV_int h
 | .bool,s,x,h=>toV_bool h
 | .str,s,x,h=>toV_str h
 | .iv,s,x,h=>toV_iv h
 | .ID,s,x,h=>unrefl_ID h
 | .Outc,s,x,h=>unrefl_Outc h
 | .Word,s,x,h=>unrefl_Word h
 | .Row,s,x,h=>unrefl_Row h
 | .Fault,s,x,h=>unrefl_Fault h
 | .W3,s,x,h=>unrefl_W3 h
 | .Pair,s,x,h=>unrefl_Pair h
 | .Face,s,x,h=>unrefl_Face h
 | .Scanner,s,x,h=>unrefl_Scanner h
 | .l_W3,s,x,h=>asLst_spec h
 | .l_Outc,s,x,h=>asLst_spec h
 | .l_Word,s,x,h=>asLst_spec h
 | .l_Row,s,x,h=>asLst_spec h
 | .l_Face,s,x,h=>asLst_spec h
 | .l_u8,s,x,h=>asLst_spec h
 | .l_i64,s,x,h=>asLst_spec h
 | .l_str,s,x,h=>asLst_spec h
 | .l_iv,s,x,h=>asLst_spec h
theorem refl_enc:∀ (c:C) (x:den c),toV (refl c x) = enc c x:=by
 intro c x; cases c <;> simp only [refl,enc,refl_i64,refl_u64,refl_i32,refl_u32,refl_u8,refl_i16,refl_u16,refl_i8,refl_bool,refl_str,refl_iv,refl_ID,refl_Outc,refl_Word,refl_Row,refl_Fault,refl_W3,refl_Pair,refl_Face,refl_Scanner,refl_l_W3,refl_l_Outc,refl_l_Word,refl_l_Row,refl_l_Face,refl_l_u8,refl_l_i64,refl_l_str,refl_l_iv,toV,toVL] <;> rfl
end Go.X
namespace Go.X
open Go.Eng
open Go.RowKit
inductive T (α:Type) where
 | nil
 | node (l:T α) (v:Option α) (r:T α)
noncomputable def T.get {α:Type} (t:T α):Nat→Option α :=
 T.rec (motive:=fun _=>Nat→Option α) (fun _=>none) (fun _ v _ gl gr n=>cond (Nat.beq n 0) v (cond (Nat.beq (n % 2) 1) (gl (n / 2)) (gr (n / 2 - 1)))) t
noncomputable def T.setF {α:Type} (f:Nat):T α→Nat→α→T α :=
 Nat.rec (motive:=fun _=>T α→Nat→α→T α) (fun t _ _=>t) (fun _ ih t n x=>T.casesOn (motive:=fun _=>T α) t
  (cond (Nat.beq n 0) (.node .nil (some x) .nil) (cond (Nat.beq (n % 2) 1) (.node (ih .nil (n / 2) x) none .nil) (.node .nil none (ih .nil (n / 2 - 1) x))))
  (fun l v r=>cond (Nat.beq n 0) (.node l (some x) r) (cond (Nat.beq (n % 2) 1) (.node (ih l (n / 2) x) v r) (.node l v (ih r (n / 2 - 1) x))))) f
theorem T.get_node0 {α:Type} (l:T α) (v:Option α) (r:T α) (n:Nat):(T.node l v r).get n = cond (Nat.beq n 0) v (cond (Nat.beq (n % 2) 1) (l.get (n / 2)) (r.get (n / 2 - 1))):=rfl
theorem T.setF_nil {α:Type} (f n:Nat) (x:α):T.setF (f + 1) .nil n x = cond (Nat.beq n 0) (.node .nil (some x) .nil) (cond (Nat.beq (n % 2) 1) (.node (T.setF f .nil (n / 2) x) none .nil) (.node .nil none (T.setF f .nil (n / 2 - 1) x))):=rfl
theorem T.setF_node {α:Type} (f:Nat) (l:T α) (v:Option α) (r:T α) (n:Nat) (x:α):T.setF (f + 1) (.node l v r) n x = cond (Nat.beq n 0) (.node l (some x) r) (cond (Nat.beq (n % 2) 1) (.node (T.setF f l (n / 2) x) v r) (.node l v (T.setF f r (n / 2 - 1) x))):=rfl
noncomputable def T.set {α:Type} (t:T α) (n:Nat) (x:α):T α:=T.setF (n + 1) t n x
theorem beqF {n m:Nat} (h:¬ n = m):Nat.beq n m = false:=by
 cases hb:Nat.beq n m
 ·rfl
 ·exact absurd (Nat.eq_of_beq_eq_true hb) h
theorem T.get_nil {α:Type} (n:Nat):(T.nil:T α).get n = none:=rfl
theorem T.get_node {α:Type} (l:T α) (v:Option α) (r:T α) (n:Nat) :
  (T.node l v r).get n = if n = 0 then v else if n % 2 = 1 then l.get (n / 2) else r.get (n / 2 - 1):=by
 rw [T.get_node0]
 by_cases h:n = 0
 ·subst h; rfl
 ·have:Nat.beq n 0 = false:=beqF h
  rw [this,if_neg h]
  by_cases h1:n % 2 = 1
  ·rw [if_pos h1,h1]; rfl
  ·have:Nat.beq (n % 2) 1 = false:=beqF h1
   rw [this,if_neg h1]; rfl
theorem T.setF_succ {α:Type} (f:Nat) (t:T α) (n:Nat) (x:α):∃ l v r,(∀ m,t.get m = (T.node l v r).get m) ∧
  T.setF (f + 1) t n x = if n = 0 then .node l (some x) r else if n % 2 = 1 then .node (T.setF f l (n / 2) x) v r else .node l v (T.setF f r (n / 2 - 1) x):=by
 cases t with
 | nil =>
  refine ⟨.nil,none,.nil,fun m=>by rw [T.get_node]; simp [T.get_nil],?_⟩
  rw [T.setF_nil]
  by_cases h:n = 0
  ·subst h; rfl
  ·have:Nat.beq n 0 = false:=beqF h
   rw [this,if_neg h]
   by_cases h1:n % 2 = 1
   ·rw [if_pos h1,h1]; rfl
   ·have:Nat.beq (n % 2) 1 = false:=beqF h1
    rw [this,if_neg h1]; rfl
 | node l v r =>
  refine ⟨l,v,r,fun m=>rfl,?_⟩
  rw [T.setF_node]
  by_cases h:n = 0
  ·subst h; rfl
  ·have:Nat.beq n 0 = false:=beqF h
   rw [this,if_neg h]
   by_cases h1:n % 2 = 1
   ·rw [if_pos h1,h1]; rfl
   ·have:Nat.beq (n % 2) 1 = false:=beqF h1
    rw [this,if_neg h1]; rfl
theorem T.get_setF {α:Type} (x:α):∀ (f:Nat) (t:T α) (n:Nat),n + 1 < 2 ^ f→∀ m,(T.setF f t n x).get m = if m = n then some x else t.get m
 | 0,_,n,h,_=>by simp at h
 | f + 1,t,n,h,m=>by
  obtain ⟨l,v,r,h1,h2⟩:=T.setF_succ f t n x
  rw [h2,h1 m]
  rw [Nat.pow_succ] at h
  by_cases h0:n = 0
  ·subst h0
   rw [if_pos rfl,T.get_node,T.get_node]
   by_cases hm:m = 0
   ·rw [if_pos hm,if_pos hm]
   ·rw [if_neg hm,if_neg hm,if_neg hm]
  ·rw [if_neg h0]
   by_cases h3:n % 2 = 1
   ·rw [if_pos h3,T.get_node,T.get_node]
    by_cases hm:m = 0
    ·rw [if_pos hm,if_pos hm,if_neg (by omega)]
    ·rw [if_neg hm,if_neg hm]
     by_cases hm1:m % 2 = 1
     ·rw [if_pos hm1,if_pos hm1,T.get_setF x f l (n / 2) (by omega) (m / 2)]
      by_cases he:m / 2 = n / 2
      ·rw [if_pos he,if_pos (by omega)]
      ·rw [if_neg he,if_neg (by omega)]
     ·rw [if_neg hm1,if_neg hm1,if_neg (by omega)]
   ·rw [if_neg h3,T.get_node,T.get_node]
    by_cases hm:m = 0
    ·rw [if_pos hm,if_pos hm,if_neg (by omega)]
    ·rw [if_neg hm,if_neg hm]
     by_cases hm1:m % 2 = 1
     ·rw [if_pos hm1,if_pos hm1,if_neg (by omega)]
     ·rw [if_neg hm1,if_neg hm1,T.get_setF x f r (n / 2 - 1) (by omega) (m / 2 - 1)]
      by_cases he:m / 2 - 1 = n / 2 - 1
      ·rw [if_pos he,if_pos (by omega)]
      ·rw [if_neg he,if_neg (by omega)]
theorem T.get_set {α:Type} {t:T α} {n:Nat} {x:α} (m:Nat):(t.set n x).get m = if m = n then some x else t.get m :=
 T.get_setF x (n + 1) t n Nat.lt_two_pow_self m
noncomputable def T.mapV {α:Type} (f:α→α) (t:T α):T α :=
 T.rec (motive:=fun _=>T α) .nil (fun _ v _ ml mr=>.node ml (v.map f) mr) t
theorem T.get_mapV {α:Type} (f:α→α):∀ (t:T α) (n:Nat),(t.mapV f).get n = (t.get n).map f
 | .nil,n=>rfl
 | .node l v r,n=>by
  show (T.node (l.mapV f) (v.map f) (r.mapV f)).get n = _
  rw [T.get_node,T.get_node]
  split
  ·rfl
  split
  ·exact T.get_mapV f l _
  ·exact T.get_mapV f r _
abbrev Tk:=Option (Nat × TypeId)
inductive SBox where
 | cells (cs:List S) (ty:TypeId)
 | map (mt:TypeId) (kc vc:C) (l:List (den kc × den vc))
def toBox:SBox→Box
 | .cells cs ty=>⟨toVL cs,ty⟩
 | .map mt kc vc l=>⟨encM (enc kc) (enc vc) l,1000000000 + mt⟩
structure RO where
 all:Bool
 mask:Nat
 sl:Nat→S × Tk
 nb:Nat
 bmask:Nat
 bx:Nat→Option SBox
 fl:Bool
structure Mm where
 sl:T (S × Tk)
 bx:List (Option SBox)
def RO.own (ro:RO) (s:Nat):Bool:=bif ro.all then true else Nat.testBit ro.mask s
def RO.ownB (ro:RO) (i:Nat):Bool:=bif Nat.ble ro.nb i then true else Nat.testBit ro.bmask i
noncomputable def getS (ro:RO) (m:Mm) (s:Nat):S × Tk:=bif ro.own s then (m.sl.get s).getD (.any,none) else ro.sl s
noncomputable def getB (ro:RO) (m:Mm) (i:Nat):Option SBox:=bif ro.ownB i then (m.bx[i]?).getD none else ro.bx i
noncomputable def toSt (ro:RO) (m:Mm):St :=
 ⟨m.bx.length,fun s=>(toV (getS ro m s).1,(getS ro m s).2),fun i=>(getB ro m i).map toBox⟩
variable {β:Type}
noncomputable def putX (ro:RO) (m:Mm) (dst:Option Nat) (v:S) (tk:Tk) (k:Mm→Option β):Option β :=
 match dst with
 | none=>k m
 | some d=>bif ro.own d then k ⟨m.sl.set d (v,tk),m.bx⟩ else none
def clrX (t:Nat) (x:S × Tk):S × Tk:=match x.2 with
 | some (t',e)=>bif Nat.beq t' t || Nat.beq t' (t + 3000000) then (x.1,none) else x
 | none=>x
noncomputable def putV' (ro:RO) (m:Mm) (dr:Bool) (o:Oper) (v:S) (tk:Tk) (k:Mm→Option β):Option β :=
 bif isCopy o then putX ro m o.dst v tk k else
  match tk with
  | none=>putX ro m o.dst v none k
  | some (t,e)=>bif Nat.blt (tcl t) 2 && (!dr || newOp o && (match o.dst with | some d=>Nat.beq d (t % 1000000) | none=>false)) then putX ro ⟨m.sl.mapV (clrX t),m.bx⟩ o.dst v (some (t,e)) k else none
def constX:Value→S
 | .int k n=>.int k n
 | .bool b=>.bool b
 | .string s=>bif Nat.ble s.size maxLen then .str s.data.toList else .any
 | .pointer none=>.nilp
 | .slice none 0 0=>.rows []
 | .nilFunc=>.nilfn
 | .nilIface=>.nilif
 | _=>.any
def constXV:Value→S
 | .agg cs=>bif cs.toList.all (fun x=>x.oneCell') then .agg (cs.toList.map constX) else .any
 | .tuple cs=>.tup (cs.toList.map constX)
 | v=>constX v
noncomputable def evalX (ro:RO) (m:Mm):Operand→S
 | .tmp t=>(getS ro m t).1
 | .const v=>constXV v
 | .global g=>.gel g 0
 | .func f=>.fn (.func f) [] []
noncomputable def tokX (ro:RO) (m:Mm):Operand→Tk
 | .tmp t=>(getS ro m t).2
 | _=>none
instance (k:IntKind) (n:Int):Decidable (InR k n):=inferInstanceAs (Decidable (k.wrap n = n))
def addI (k:IntKind) (a b:Int):Option Int:=if InR k (a + b) then some (a + b) else none
def subI (k:IntKind) (a b:Int):Option Int:=if InR k (a - b) then some (a - b) else none
def mulI (k:IntKind) (a b:Int):Option Int:=if InR k (a * b) then some (a * b) else none
def quoI (k:IntKind) (a b:Int):Option Int:=if b ≠ 0∧InR k (a.tdiv b) then some (a.tdiv b) else none
def remI (a b:Int):Option Int:=if b ≠ 0 then some (a.tmod b) else none
def catS (s t:List UInt8):Option (List UInt8):=if s.length + t.length ≤ maxLen then some (s++t) else none
def slc {α:Type} (l:List α) (lo hi:Int):Option (List α):=if 0 ≤ lo∧lo ≤ hi∧hi ≤ l.length then some ((l.take hi.toNat).drop lo.toNat) else none
def idx {α:Type} (l:List α) (i:Int):Option α:=if 0 ≤ i then l[i.toNat]? else none
def idxS (s:List UInt8) (i:Int):Option Int:=(idx s i).map fun b=>(b.toNat:Int)
def app {α:Type} (by':Nat) (l m:List α):Option (List α):=if (l.length + m.length) * by' ≤ 140737488355328 then some (l++m) else none
def bytesI (s:List UInt8):List Int:=s.map fun b=>(b.toNat:Int)
def toBytes (l:List Int):Option (List UInt8):=if l.all (fun n=>decide (0 ≤ n) && decide (n < 256)) then some (l.map fun n=>UInt8.ofNat n.toNat) else none
def br {α:Type} (b:Bool) (x y:α):α:=cond b x y
def cszS:S→Option Nat
 | .agg cs=>some cs.length
 | .any | .un | .tup _=>none
 | .gel _ _=>none
 | _=>some 1
def cellsS:S→List S
 | .agg cs=>cs
 | v=>[v]
def kindS:S→Option CK
 | .int k _=>some (.int k)
 | .bool _=>some .bool
 | .str _=>some .str
 | _=>none
def cellEqS:S→S→Bool
 | .int _ a,.int _ b=>a == b
 | .bool a,.bool b=>a == b
 | .str a,.str b=>a == b
 | _,_=>false
def eqS:List S→List S→Bool
 | [x],[y]=>cellEqS x y
 | x :: xs,y :: ys=>cellEqS x y && eqS xs ys
 | _,_=>true
def ckEq:CK→CK→Bool
 | .int k,.int k'=>decide (k = k')
 | .bool,.bool=>true
 | .str,.str=>true
 | _,_=>false
def kindsS:List CK→List S→Bool
 | [],[]=>true
 | k :: ks,c :: cs=>(match kindS c with | some k'=>ckEq k' k | none=>false) && kindsS ks cs
 | _,_=>false
mutual
def noLocS:S→Bool
 | .loc _ _=>false
 | .loco _ _ _ _=>false
 | .mref _=>false
 | .agg cs=>noLocSL cs
 | .tup cs=>noLocSL cs
 | .elt cs _=>noLocSL cs
 | .rows vs=>noLocSL vs
 | .fn _ first cap=>noLocSL first && noLocSL cap
 | .iface _ v=>noLocS v
 | _=>true
def noLocSL:List S→Bool
 | []=>true
 | c :: cs=>noLocS c && noLocSL cs
end
def kinC:(c:C)→den c→Bool
 | .i64,n=>decide (InR .i64 n)
 | .u64,n=>decide (InR .u64 n)
 | .str,_=>true
 | .Pair,p=>decide (InR .i64 p.a) && decide (InR .i64 p.b)
 | .ID,p=>decide (InR .i64 p.Node) && decide (InR .u64 p.Seq) && decide (InR .i64 p.Off)
 | .Outc,p=>decide (InR .i64 p.Tick) && decide (InR .i64 p.Node) && decide (InR .i64 p.Kind) && decide (InR .i64 p.ID.Node) && decide (InR .u64 p.ID.Seq) && decide (InR .i64 p.ID.Off) && decide (InR .i64 p.Other)
 | _,_=>false
def ckC:C→Option (Bool × List CK)
 | .i64=>some (false,[.int .i64])
 | .u64=>some (false,[.int .u64])
 | .str=>some (false,[.str])
 | .Pair=>some (true,[.int .i64,.int .i64])
 | .ID=>some (true,[.int .i64,.int .u64,.int .i64])
 | .Outc=>some (true,[.int .i64,.int .i64,.int .i64,.int .i64,.int .u64,.int .i64,.int .i64])
 | _=>none
def ksEq:List CK→List CK→Bool
 | [],[]=>true
 | a :: l,b :: m=>ckEq a b && ksEq l m
 | _,_=>false
def mget {α β:Type} [DecidableEq α] (kin:α→Bool) (l:List (α × β)) (k:α):Option (Option β):=bif kin k && l.all (fun e=>kin e.1) then some (aget l k) else none
def mput {α β:Type} [DecidableEq α] (kin:α→Bool) (l:List (α × β)) (k:α) (v:β):Option (List (α × β)):=bif kin k && l.all (fun e=>kin e.1) then some (aput l k v) else none
def mdel {α β:Type} [DecidableEq α] (kin:α→Bool) (l:List (α × β)) (k:α):Option (List (α × β)):=bif kin k && l.all (fun e=>kin e.1) then some (adel l k) else none
theorem ckEq_eq {a b:CK} (h:ckEq a b = true):a = b:=by
 cases a <;> cases b <;> simp [ckEq] at h <;> simp [*]
theorem ksEq_eq:∀ {a b:List CK},ksEq a b = true→a = b
 | [],[],_=>rfl
 | [],_ :: _,h=>by simp [ksEq] at h
 | _ :: _,[],h=>by simp [ksEq] at h
 | a :: l,b :: m,h=>by
  simp only [ksEq,Bool.and_eq_true] at h
  rw [ckEq_eq h.1,ksEq_eq h.2]
theorem kinC_ok {c:C} {ag:Bool} {ks:List CK} (h:ckC c = some (ag,ks)) {x:den c} (hx:kinC c x = true):keyOK ag ks (enc c x):=by
 cases c <;> simp only [ckC,Option.some.injEq,Prod.mk.injEq,reduceCtorEq] at h <;> obtain ⟨rfl,rfl⟩:=h <;>
  simp only [kinC,Bool.and_eq_true,decide_eq_true_eq] at hx
 ·exact ⟨rfl,rfl,⟨⟨rfl,hx⟩,trivial⟩⟩
 ·exact ⟨rfl,rfl,⟨⟨rfl,hx⟩,trivial⟩⟩
 ·exact ⟨rfl,rfl,trivial⟩
 ·exact ⟨rfl,rfl,⟨⟨rfl,hx.1.1⟩,⟨rfl,hx.1.2⟩,⟨rfl,hx.2⟩,trivial⟩⟩
 ·obtain ⟨⟨⟨⟨⟨⟨h1,h2⟩,h3⟩,h4⟩,h5⟩,h6⟩,h7⟩:=hx
  exact ⟨rfl,rfl,⟨⟨rfl,h1⟩,⟨rfl,h2⟩,⟨rfl,h3⟩,⟨rfl,h4⟩,⟨rfl,h5⟩,⟨rfl,h6⟩,⟨rfl,h7⟩,trivial⟩⟩
 ·exact ⟨rfl,rfl,⟨⟨rfl,hx.1⟩,⟨rfl,hx.2⟩,trivial⟩⟩
theorem keyEq_dq {c:C} {d:DecidableEq (den c)} (h:dq c = some d) (a b:den c):keyEq (enc c a) (enc c b) = decide (a = b):=by
 have key:(keyEq (enc c a) (enc c b) = true ↔ a = b):=by
  cases c <;> simp only [dq,reduceCtorEq] at h
  ·show keyEq (.int .i64 a) (.int .i64 b) = true ↔ a = b
   simp [keyEq,V.cellsL,eqV,cellEq]
  ·show keyEq (.int .u64 a) (.int .u64 b) = true ↔ a = b
   simp [keyEq,V.cellsL,eqV,cellEq]
  ·show keyEq (.str a) (.str b) = true ↔ a = b
   simp [keyEq,V.cellsL,eqV,cellEq]
  ·obtain ⟨a1,a2,a3⟩:=a; obtain ⟨b1,b2,b3⟩:=b
   show keyEq (enc_ID ⟨a1,a2,a3⟩) (enc_ID ⟨b1,b2,b3⟩) = true ↔ _
   simp [keyEq,enc_ID,V.cellsL,eqV,cellEq]
  ·obtain ⟨a1,a2,a3,⟨a4,a5,a6⟩,a7⟩:=a; obtain ⟨b1,b2,b3,⟨b4,b5,b6⟩,b7⟩:=b
   show keyEq (enc_Outc ⟨a1,a2,a3,⟨a4,a5,a6⟩,a7⟩) (enc_Outc ⟨b1,b2,b3,⟨b4,b5,b6⟩,b7⟩) = true ↔ _
   simp [keyEq,enc_Outc,V.cellsL,eqV,cellEq,and_assoc]
  ·obtain ⟨a1,a2⟩:=a; obtain ⟨b1,b2⟩:=b
   show keyEq (enc_Pair ⟨a1,a2⟩) (enc_Pair ⟨b1,b2⟩) = true ↔ _
   simp [keyEq,enc_Pair,V.cellsL,eqV,cellEq]
 rw [Bool.eq_iff_iff,key]; simp
section
variable (P:Program) (code:TypeId→Option C) (ro:RO) (m:Mm)
def unreflL (c:C):List S→Option (List (den c))
 | []=>some []
 | s :: ss=>match unrefl c s with
  | some x=>(match unreflL c ss with | some xs=>some (x :: xs) | none=>none)
  | none=>none
def tblA (c:C) (g off n:Nat):Option (den c):=match GL g with
 | some vs=>if off + n ≤ vs.length then unrefl c (.agg (((vs.map constXV).drop off).take n)) else none
 | none=>none
def tbl1 (c:C) (g off:Nat):Option (den c):=match GL g with
 | some vs=>(match (vs.map constXV)[off]? with | some s=>unrefl c s | none=>none)
 | none=>none
def tblL (c:C) (g n:Nat):Nat→Nat→Option (List (den c))
 | 0,_=>some []
 | k + 1,off=>match tblA c g off n,tblL c g n k (off + n) with
  | some x,some l=>some (x :: l)
  | _,_=>none
def arrO (t:TypeId):Option (C × Nat):=match code t with | some c=>arrC c | none=>none
noncomputable def loadX (t:TypeId) (x:S) (K:S→Option β):Option β :=
 match x,aggT P t with
 | .elt cs off,some true=>(match sizeT P t with | some n=>bif Nat.ble (off + n) cs.length then K (.agg ((cs.drop off).take n)) else none | none=>none)
 | .elt cs off,some false=>(match cs[off]? with | some c=>K c | none=>none)
 | .loc i off,some true=>(match getB ro m i,sizeT P t with | some (.cells cs ty),some n=>bif Nat.blt ty 1000000000 && Nat.ble (off + n) cs.length then K (.agg ((cs.drop off).take n)) else none | _,_=>none)
 | .loc i off,some false=>(match getB ro m i with | some (.cells cs ty)=>bif Nat.blt ty 1000000000 then (match cs[off]? with | some c=>K c | none=>none) else none | _=>none)
 | .loco i a n ix,some false=>(match getB ro m i,code t with
  | some (.cells cs ty),some c=>bif Nat.blt ty 1000000000 && Nat.ble (a + n) cs.length then (match unreflL c ((cs.drop a).take n) with | some l=>(idx l ix).bind fun y=>K (refl c y) | none=>none) else none
  | _,_=>none)
 | .gel g off,some true=>(match sizeT P t,code t with | some n,some c=>(tblA c g off n).bind fun y=>K (refl c y) | _,_=>none)
 | .gel g off,some false=>(match code t with | some c=>(tbl1 c g off).bind fun y=>K (refl c y) | none=>none)
 | _,_=>none
def shlI (k:IntKind) (a b:Int):Option Int:=if 0 ≤ b then some (k.wrap (a * 2 ^ (min b.toNat k.bits))) else none
def shrI (k:IntKind) (a b:Int):Option Int:=if 0 ≤ b then some (a.fdiv (2 ^ (min b.toNat k.bits))) else none
def shX (op:BinOp) (k:IntKind) (a b:Int) (K:S→Option β):Option β :=
 match op with
 | .shl=>(shlI k a b).bind fun n=>K (.int k n)
 | .shr=>(shrI k a b).bind fun n=>K (.int k n)
 | _=>none
def isSh:BinOp→Bool
 | .shl=>true
 | .shr=>true
 | _=>false
def intX (op:BinOp) (k:IntKind) (a b:Int) (K:S→Option β):Option β :=
 match op with
 | .add=>(addI k a b).bind fun n=>K (.int k n)
 | .sub=>(subI k a b).bind fun n=>K (.int k n)
 | .mul=>(mulI k a b).bind fun n=>K (.int k n)
 | .quo=>(quoI k a b).bind fun n=>K (.int k n)
 | .rem=>(remI a b).bind fun n=>K (.int k n)
 | .eql=>K (.bool (a == b))
 | .neq=>K (.bool (a != b))
 | .lss=>K (.bool (decide (a < b)))
 | .leq=>K (.bool (decide (a ≤ b)))
 | .gtr=>K (.bool (decide (b < a)))
 | .geq=>K (.bool (decide (b ≤ a)))
 | .and=>K (.int k (bitI .and k a b))
 | .or=>K (.int k (bitI .or k a b))
 | .xor=>K (.int k (bitI .xor k a b))
 | .andNot=>K (.int k (bitI .andNot k a b))
 | _=>none
def strX (op:BinOp) (s t:List UInt8) (K:S→Option β):Option β :=
 match op with
 | .add=>(catS s t).bind fun r=>K (.str r)
 | .eql=>K (.bool (s == t))
 | .neq=>K (.bool (!(s == t)))
 | .lss=>K (.bool (Op.bytesLess s t))
 | .leq=>K (.bool (Op.bytesLess s t || s == t))
 | .gtr=>K (.bool (!(Op.bytesLess s t || s == t)))
 | .geq=>K (.bool (!Op.bytesLess s t))
 | _=>none
def binX (op:BinOp) (xT:TypeId) (a b:S) (K:S→Option β):Option β :=
 match a,b with
 | .int k x,.int k' y=>bif isSh op then shX op k x y K else if k = k' then intX op k x y K else none
 | .str s,.str t=>strX op s t K
 | .bool x,.bool y=>(match op,basicT P xT with
  | .eql,.bool=>K (.bool (x == y))
  | .neq,.bool=>K (.bool (!(x == y)))
  | _,_=>none)
 | .agg cs,.agg ds=>(match op,eqT P xT with
  | .eql,some ks=>bif kindsS ks cs && kindsS ks ds then K (.bool (eqS cs ds)) else none
  | .neq,some ks=>bif kindsS ks cs && kindsS ks ds then K (.bool (!eqS cs ds)) else none
  | _,_=>none)
 | _,_=>none
def unX (op:UnOp) (x:S) (K:S→Option β):Option β :=
 match op,x with
 | .not,.bool b=>K (.bool (!b))
 | .neg,.int k n=>(subI k 0 n).bind fun r=>K (.int k r)
 | _,_=>none
def convX (s d:TypeId) (x:S) (K:S→Option β):Option β :=
 match x,basicT P s,basicT P d with
 | .int _ n,.int _,.int k=>K (.int k (k.wrap n))
 | .str l,.str,.str=>K (.str l)
 | .str l,.str,.other=>(match sliceT P d with
  | some e=>(match basicT P e with | .int .u8=>K (.lst .u8 (bytesI l)) | _=>none)
  | none=>none)
 | .lst .u8 rows,.other,.str=>(match sliceT P s with
  | some e=>(match basicT P e with | .int .u8=>(toBytes rows).bind fun r=>K (.str r) | _=>none)
  | none=>none)
 | _,_,_=>none
noncomputable def bndX (x:Option Operand) (d:Int) (K:Int→Option β):Option β :=
 match x with
 | none=>K d
 | some x=>(match evalX ro m x with
  | .int _ i=>K i
  | _=>none)
def elemC (t:TypeId) (c:C):Option (TypeId × Nat):=match sliceT P t with
 | some e=>(match sizeT P e with | some n=>bif Nat.beq n (csz c) then some (e,n) else none | none=>none)
 | none=>none
noncomputable def sliceX (t:TypeId) (x:S) (lo hi mx:Option Operand) (dst:Option Nat) (K:S→Tk→Option β):Option β :=
 match x,mx with
 | .str s,none=>(match basicT P t with
  | .str=>bndX ro m lo 0 fun l=>bndX ro m hi s.length fun h=>(slc s l h).bind fun r=>K (.str r) none
  | _=>none)
 | .lst c l,none=>(match elemC P t c with
  | some _=>bndX ro m lo 0 fun a=>bndX ro m hi l.length fun h=>(slc l a h).bind fun r=>K (.lst c r) none
  | none=>none)
 | .lst c l,some mx=>(match elemC P t c,hi with
  | some (e,_),some hi=>bndX ro m lo 0 fun a=>bndX ro m (some hi) l.length fun h=>bndX ro m (some mx) l.length fun h'=>br (decide (h' = h)) ((slc l a h).bind fun r=>K (.lst c r) (some (cutTok hi (dst.getD 0),e))) none
  | _,_=>none)
 | _,_=>none
noncomputable def gsliceX (t:TypeId) (x:S) (lo hi mx:Option Operand) (dst:Option Nat) (K:S→Tk→Option β):Option β :=
 match x with
 | .gel g a=>(match lo,hi,mx,arrT P t with
  | none,none,none,some (len,e)=>(match sizeT P e,code e with
   | some n,some c=>bif Nat.beq n (csz c) && Nat.ble len maxLen && Nat.blt 0 len then (tblL c g n len a).bind fun r=>K (.lst c r) none else none
   | _,_=>none)
  | _,_,_,_=>none)
 | x=>sliceX P ro m t x lo hi mx dst K
def faddrX (s:TypeId) (i:Nat) (x:S) (K:S→Option β):Option β :=
 match fieldT P s i with
 | some (off,t)=>(match sizeT P t with
  | some n=>bif Nat.beq n 0 then none else (match x with
   | .loc j a=>K (.loc j (a + off))
   | .elt cs a=>K (.elt cs (a + off))
   | .gel g a=>(match GL g with | some _=>K (.gel g (a + off)) | none=>none)
   | _=>none)
  | none=>none)
 | none=>none
def fieldX (s:TypeId) (i:Nat) (x:S) (K:S→Option β):Option β :=
 match fieldT P s i,x with
 | some (off,t),.agg cs=>(match aggT P t,sizeT P t with
  | some true,some n=>K (.agg ((cs.drop off).take n))
  | some false,_=>(match cs[off]? with | some c=>K c | none=>none)
  | _,_=>none)
 | _,_=>none
def inB (i:Int) (n:Nat):Bool:=decide (0 ≤ i) && decide (i < (n:Int))
def iaddrX (t:TypeId) (x i:S) (K:S→Option β):Option β :=
 match x,i with
 | .lst c l,.int _ i=>(match elemC P t c with
  | some _=>(idx l i).bind fun x=>K (.elt (cellsS (refl c x)) 0)
  | none=>none)
 | .loc j a,.int _ i=>(match arrT P t with
  | some (len,e)=>(match sizeT P e with
   | some n=>(match arrO code t with
    | some (_,k)=>bif Nat.beq n 1 && Nat.beq k len then br (inB i len) (K (.loco j a len i)) none else none
    | none=>br (inB i len) (K (.loc j (a + i.toNat * n))) none)
   | none=>none)
  | none=>none)
 | .elt cs a,.int _ i=>(match arrT P t with
  | some (len,e)=>(match sizeT P e with | some n=>br (inB i len) (K (.elt cs (a + i.toNat * n))) none | none=>none)
  | none=>none)
 | .gel g a,.int _ i=>(match arrT P t with
  | some (len,e)=>(match sizeT P e,GL g with | some n,some _=>br (inB i len) (K (.gel g (a + i.toNat * n))) none | _,_=>none)
  | none=>none)
 | _,_=>none
def indexX (t:TypeId) (x i:S) (K:S→Option β):Option β :=
 match x,i with
 | .str s,.int _ i=>(match basicT P t with
  | .str=>(idxS s i).bind fun b=>K (.int .u8 b)
  | _=>none)
 | .agg cs,.int _ i=>(match arrT P t with
  | some (len,e)=>(match aggT P e,sizeT P e with
   | some false,some n=>(match arrO code t with
    | some (c,_)=>bif Nat.beq n 1 then br (inB i len) (match unreflL c cs with | some l=>(idx l i).bind fun y=>K (refl c y) | none=>none) none else none
    | none=>br (inB i len) (match cs[i.toNat * n]? with | some c=>K c | none=>none) none)
   | _,_=>none)
  | none=>none)
 | _,_=>none
def fillX (place:Nat→Option (Nat × Nat)) (cells:List S):List (Nat × S)→Option (List S)
 | []=>some cells
 | (i,v) :: rest =>
  match place i,cszS v with
  | some (off,size),some n=>bif Nat.beq n size && Nat.ble (off + n) cells.length then fillX place (cells.take off++cellsS v++cells.drop (off + n)) rest else none
  | _,_=>none
def zeroX (t:TypeId):Option S:=((P.info? t).bind (·.zero)).map constXV
noncomputable def buildX (t:TypeId) (parts:List (Nat × Operand)) (K:S→Option β):Option β :=
 match zeroX P t,placesT P t with
 | some zv,some place=>(match cszS zv with
  | some _=>(match fillX place (cellsS zv) (parts.map fun x=>(x.1,evalX ro m x.2)) with
   | some out=>K (.agg out)
   | none=>none)
  | none=>none)
 | _,_=>none
def rowsSz (n:Nat):List S→Bool
 | []=>true
 | s :: ss=>(match cszS s with | some k=>Nat.beq k n | none=>false) && rowsSz n ss
noncomputable def bsliceX (t:TypeId) (len:Nat) (parts:List (Nat × Operand)) (dst:Option Nat) (K:S→Tk→Option β):Option β :=
 match sliceT P t with
 | some e=>(match sizeT P e,zeroX P e with
  | some sz,some zv=>(match cszS zv with
   | some zn=>bif !Nat.beq sz 0 && Nat.beq zn sz && Nat.beq parts.length len && Nat.ble (len * sz) 16777216 && idxOK parts 0 then
     (match code e with
     | some c=>(match unreflL c (parts.map fun x=>evalX ro m x.2) with
      | some l=>bif Nat.beq (csz c) sz then K (.lst c l) (some (dst.getD 0,e)) else none
      | none=>none)
     | none=>bif rowsSz sz (parts.map fun x=>evalX ro m x.2) then K (.rows (parts.map fun x=>evalX ro m x.2)) (some (dst.getD 0,e)) else none)
    else none
   | none=>none)
  | _,_=>none)
 | none=>none
def nilX (x:S) (K:S→Option β):Option β :=
 match x with
 | .loc i off=>K (.loc i off)
 | .elt cs off=>K (.elt cs off)
 | .gel g off=>(match GL g with | some _=>K (.gel g off) | none=>none)
 | _=>none
def lenX (t:TypeId) (x:S) (K:S→Option β):Option β :=
 match x with
 | .lst c l=>(match sliceT P t with | some _=>K (.int .i64 l.length) | none=>none)
 | .rows vs=>(match sliceT P t with | some _=>K (.int .i64 vs.length) | none=>none)
 | .str s=>(match basicT P t with | .str=>K (.int .i64 s.length) | _=>none)
 | _=>none
def builtinX (b:Builtin) (args:List S) (tys:List TypeId) (K:S→Option β):Option β :=
 match b,args,tys with
 | .len,[x],[t]=>lenX P t x K
 | .max,[.int k a,.int k' b],[_,_]=>if k = k' then K (.int k (max a b)) else none
 | .min,[.int k a,.int k' b],[_,_]=>if k = k' then K (.int k (min a b)) else none
 | _,_,_=>none
noncomputable def assignX (o:Oper) (x:Operand) (K:S→Tk→Option β):Option β :=
 match x with
 | .const (.slice none 0 0)=>(match sliceT P o.type with
  | some e=>(match code e with
   | some c=>K (.lst c []) (some (o.dst.getD 0,e))
   | none=>K (.rows []) (some (o.dst.getD 0,e)))
  | none=>K (.rows []) none)
 | x=>K (evalX ro m x) (tokX ro m x)
def pickX (c a b:S) (K:S→Option β):Option β :=
 match c with
 | .bool t=>(match a,b with
  | .bool x,.bool y=>K (.bool (bif t then x else y))
  | .int k x,.int k' y=>if k = k' then K (.int k (bif t then x else y)) else none
  | .str x,.str y=>K (.str (bif t then x else y))
  | a,b=>br t (K a) (K b))
 | _=>none
noncomputable def valX (o:Oper) (K:S→Tk→Option β):Option β :=
 match o.op with
 | .move x=>K (evalX ro m x) (tokX ro m x)
 | .assign x=>assignX P code ro m o x K
 | .pick c x y=>pickX (evalX ro m c) (evalX ro m x) (evalX ro m y) (K · none)
 | .load t x=>loadX P code ro m t (evalX ro m x) (K · none)
 | .binOp op xT x y _=>binX P op xT (evalX ro m x) (evalX ro m y) (K · none)
 | .unOp op _ x=>unX op (evalX ro m x) (K · none)
 | .convert s d x=>convX P s d (evalX ro m x) (K · none)
 | .makeInterface t x=>bif ifaceOK P t then K (.iface t (evalX ro m x)) none else none
 | .makeFunc f first cap=>K (.fn f (first.toList.map (evalX ro m)) (cap.toList.map (evalX ro m))) none
 | .slice t x lo hi mx=>gsliceX P code ro m t (evalX ro m x) lo hi mx o.dst K
 | .fieldAddr s x i=>faddrX P s i (evalX ro m x) (K · none)
 | .field s x i=>fieldX P s i (evalX ro m x) (K · none)
 | .indexAddr t x i=>iaddrX P code t (evalX ro m x) (evalX ro m i) (K · none)
 | .index t x i=>indexX P code t (evalX ro m x) (evalX ro m i) (K · none)
 | .extract x i=>(match evalX ro m x with | .tup vs=>(match vs[i]? with | some v=>K v none | none=>none) | _=>none)
 | .build t parts=>buildX P ro m t parts.toList (K · none)
 | .buildSlice t len parts=>bsliceX P code ro m t len parts.toList o.dst K
 | .nilCheck x=>nilX (evalX ro m x) (K · none)
 | .call { callee:=.builtin b,args,argTypes }=>builtinX P b (args.toList.map (evalX ro m)) argTypes.toList (K · none)
 | _=>none
end
end Go.X
namespace Go.X
open Go.Eng
open Go.RowKit
mutual
def renS (f:Nat→Nat):S→S
 | .loc i off=>.loc (f i) off
 | .loco i off n ix=>.loco (f i) off n ix
 | .mref i=>.mref (f i)
 | .agg cs=>.agg (renSL f cs)
 | .tup cs=>.tup (renSL f cs)
 | .elt cs off=>.elt (renSL f cs) off
 | .rows vs=>.rows (renSL f vs)
 | .fn g first cap=>.fn g (renSL f first) (renSL f cap)
 | .iface t v=>.iface t (renS f v)
 | v=>v
def renSL (f:Nat→Nat):List S→List S
 | []=>[]
 | c :: cs=>renS f c :: renSL f cs
end
mutual
def locsS:S→List Nat
 | .loc i _=>[i]
 | .loco i _ _ _=>[i]
 | .mref i=>[i]
 | .agg cs=>locsSL cs
 | .tup cs=>locsSL cs
 | .elt cs _=>locsSL cs
 | .rows vs=>locsSL vs
 | .fn _ first cap=>locsSL first++locsSL cap
 | .iface _ v=>locsS v
 | _=>[]
def locsSL:List S→List Nat
 | []=>[]
 | c :: cs=>locsS c++locsSL cs
end
def dedup:List Nat→List Nat→List Nat
 | [],acc=>acc
 | i :: is,acc=>bif acc.any (Nat.beq i) then dedup is acc else dedup is (acc++[i])
def indexN:List Nat→Nat→Nat
 | [],_=>0
 | x :: xs,i=>bif Nat.beq x i then 0 else indexN xs i + 1
def noLocB:SBox→Bool
 | .cells cs _=>noLocSL cs
 | .map _ _ _ _=>true
structure XSpec (P:Program) where
 f:FuncId
 run:{β:Type}→List S→List SBox→(S→List SBox→Option β)→Option (Option β)
 sound:∀ {β:Type} (args:List S) (ins:List SBox) (K:S→List SBox→Option β) (r:β),run args ins K = some (some r) →
  ∃ res outs,K res outs = some r∧isGo P f = true∧Go.Eng.Fn P f (toVL args) (ins.map toBox) (toV res) (outs.map toBox)∧noLocS res = true∧(∀ B ∈ outs,noLocB B = true)∧outs.length = ins.length
def sArgs (v:Value):Option FuncId→Array Value
 | none=>#[v]
 | some g=>#[v,.func (.func g) #[] #[]]
structure Sorts (P:Program) (f:FuncId) (g:Option FuncId) {α:Type} (enc:α→V) (sz:Nat) (srt:List α→List α):Prop where
 nil:∀ (w:World) (pr:Nat→Nat→Prop) (base:Option Addr) (cap:Nat),HL w pr→Calls P f (sArgs (.slice base 0 cap) g) w fun en w'=>en = .returned (.tuple #[])∧Below w.heap.size w w'∧DLE w w'
 row:∀ (w:World) (pr:Nat→Nat→Prop) (lam:Nat→Option Nat) (blk cap:Nat) (d:List α) (cur:Array Value) (e:TypeId),HL w pr→(∀ k vs,GL k = some vs→blk ≠ k)→d ≠ []→d.length ≤ cap→cap ≤ maxLen→d.length < 4611686018427387904 →
  w.heap[blk]? = some (.cells cur e (0,0))→cur.size = cap * sz→RR ⟨w,pr,lam⟩ blk sz 0 (d.map enc) →
  Calls P f (sArgs (.slice (some ⟨blk,0,none⟩) d.length cap) g) w fun en w'=>en = .returned (.tuple #[]) ∧
   ∃ w1 cur',Swap w w1 blk∧w1.heap[blk]? = some (.cells cur' e (0,0))∧cur'.size = cur.size∧RR ⟨w1,pr,lam⟩ blk sz 0 ((srt d).map enc)∧Below w1.heap.size w1 w'∧DLE w1 w'
 len:∀ d,(srt d).length = d.length
structure XSort (P:Program) where
 f:FuncId
 g:Option FuncId
 c:C
 srt:List (den c)→List (den c)
 sound:Sorts P f g (enc c) (csz c) srt
 go:isGo P f = true
structure XOwn (P:Program) where
 f:FuncId
 c:C
 e:TypeId
 run:List S→Option (Option (List (den c)))
 sound:∀ (args:List S) (l:List (den c)),run args = some (some l)→isGo P f = true∧FnO P f (toVL args) (.list (l.map (enc c))) e
structure XMut (P:Program) where
 f:FuncId
 p:Nat
 c:C
 e:TypeId
 run:{β:Type}→List S→List SBox→(List (den c)→List SBox→Option β)→Option (Option β)
 sound:∀ {β:Type} (args:List S) (ins:List SBox) (K:List (den c)→List SBox→Option β) (r:β),run args ins K = some (some r) →
  ∃ l outs,K l outs = some r∧isGo P f = true∧FnM P f (toVL args) (ins.map toBox) p e (.list (l.map (enc c))) (outs.map toBox)∧(∀ B ∈ outs,noLocB B = true)∧outs.length = ins.length
def findMut {P:Program}:List (XMut P)→FuncId→Option (XMut P)
 | [],_=>none
 | s :: ss,f=>bif Nat.beq s.f f then some s else findMut ss f
def findOwn {P:Program}:List (XOwn P)→FuncId→Option (XOwn P)
 | [],_=>none
 | s :: ss,f=>bif Nat.beq s.f f then some s else findOwn ss f
def optB:Option Nat→Option Nat→Bool
 | none,none=>true
 | some a,some b=>Nat.beq a b
 | _,_=>false
def findSort {P:Program}:List (XSort P)→FuncId→Option FuncId→Option (XSort P)
 | [],_,_=>none
 | s :: ss,f,g=>bif Nat.beq s.f f && optB s.g g then some s else findSort ss f g
def srtG {α:Type} (srt:List α→List α) (l:List α):Option (List α):=if l.length < 4611686018427387904 then some (srt l) else none
structure XCtx (P:Program) where
 code:TypeId→Option C
 wr:Nat
 key:TypeId→Bool
 keyed:∀ t,key t = true→KeyT P t
 known:List (XSpec P)
 sorts:List (XSort P):=[]
 owned:List (XOwn P):=[]
 muts:List (XMut P):=[]
def findSpec {P:Program} {β:Type}:List (XSpec P)→FuncId→List S→List SBox→(S→List SBox→Option β)→Option (Option β)
 | [],_,_,_,_=>none
 | s :: ss,f,args,ins,K=>bif Nat.beq s.f f then (match s.run args ins K with | some r=>some r | none=>findSpec ss f args ins K) else findSpec ss f args ins K
section
variable {P:Program} (X:XCtx P) (ro:RO)
variable {β:Type}
noncomputable def boxesX (m:Mm):List Nat→Option (List SBox)
 | []=>some []
 | i :: is=>match getB ro m i with
  | some B=>bif noLocB B && ro.ownB i then (match boxesX m is with | some bs=>some (B :: bs) | none=>none) else none
  | none=>none
def setBs (bx:List (Option SBox)):List Nat→List SBox→List (Option SBox)
 | i :: is,B :: bs=>setBs (bx.set i (some B)) is bs
 | _,_=>bx
noncomputable def callX (dr:Bool) (m:Mm) (f:FuncId) (args:List S) (dst:Option Nat) (k:Mm→Option β):Option β :=
 match dedup (locsSL args) [] with
 | []=>(match findSpec X.known f args [] (fun res _=>putX ro m dst res none k) with
  | some r=>r
  | none=>none)
 | π=>bif dr || !Nat.ble ro.nb m.bx.length then none else (match boxesX ro m π with
  | some ins=>(match findSpec X.known f (renSL (indexN π) args) ins (fun res outs=>putX ro ⟨m.sl,setBs m.bx π outs⟩ dst res none k) with
   | some r=>r
   | none=>none)
  | none=>none)
noncomputable def newBoxX (m:Mm) (B:SBox) (dst:Option Nat) (v:S) (k:Mm→Option β):Option β :=
 bif Nat.ble ro.nb m.bx.length then putX ro ⟨m.sl,m.bx++[some B]⟩ dst v none k else none
noncomputable def boxX (m:Mm) (e:TypeId) (v:S) (dst:Option Nat) (k:Mm→Option β):Option β :=
 match cszS v with
 | some _=>bif Nat.blt e 1000000000 then newBoxX ro m (.cells (cellsS v) e) dst (.loc m.bx.length 0) k else none
 | none=>none
def putA {α:Type} (l:List α) (i:Int) (x:α):Option (List α):=if 0 ≤ i∧i < l.length then some (l.set i.toNat x) else none
def arrCells (c:C):Nat→List (den c)→Nat→List S
 | 0,_,_=>[]
 | n + 1,l,k=>refl c (l.getD k (dfl c)) :: arrCells c n l (k + 1)
def noAgg:S→Bool
 | .agg _=>false
 | _=>true
noncomputable def storeX (m:Mm) (t:TypeId) (x y:S) (dst:Option Nat) (k:Mm→Option β):Option β :=
 match x,dst with
 | .loc i off,none=>(match getB ro m i,sizeT P t,cszS y with
  | some (.cells cs ty),some n,some n'=>bif Nat.blt ty 1000000000 && Nat.beq n' n && Nat.ble (off + n) cs.length && ro.ownB i then
    k ⟨m.sl,m.bx.set i (some (.cells (cs.take off++cellsS y++cs.drop (off + n)) ty))⟩ else none
  | _,_,_=>none)
 | .loco i a n ix,none=>(match getB ro m i,X.code t,sizeT P t with
  | some (.cells cs ty),some c,some z=>(match unreflL c ((cs.drop a).take n),unrefl c y with
   | some l,some v=>bif Nat.blt ty 1000000000 && Nat.beq z 1 && Nat.beq (csz c) 1 && noAgg y && Nat.ble (a + n) cs.length && ro.ownB i then
     (putA l ix v).bind fun l'=>k ⟨m.sl,m.bx.set i (some (.cells (cs.take a++arrCells c n l' 0++cs.drop (a + n)) ty))⟩ else none
   | _,_=>none)
  | _,_,_=>none)
 | _,_=>none
noncomputable def appendX (m:Mm) (ss:Nat) (x:S) (t u:TypeId) (dst:Option Nat) (k:Mm→Option β):Option β :=
 match getS ro m ss,sliceT P t with
 | (.lst c l,some (tk,e)),some e'=>(match sizeT P e,bytesT P e,zeroX P e with
  | some sz,some by',some zv=>(match cszS zv with
   | some zn=>bif Nat.beq e e' && Nat.blt (tcl tk) 2 && srcT P u && Nat.beq zn sz && Nat.beq (csz c) sz && !Nat.beq by' 0 then
     (match x with
     | .lst c' l2=>if h:c' = c then (app by' l (h ▸ l2:List (den c))).bind fun r=>putX ro ⟨m.sl.mapV (clrX tk),m.bx⟩ dst (.lst c r) (some (tk,e)) k else none
     | .rows []=>(app by' l []).bind fun r=>putX ro ⟨m.sl.mapV (clrX tk),m.bx⟩ dst (.lst c r) (some (tk,e)) k
     | .str s=>if h:C.u8 = c then (app by' l (h ▸ bytesI s:List (den c))).bind fun r=>putX ro ⟨m.sl.mapV (clrX tk),m.bx⟩ dst (.lst c r) (some (tk,e)) k else none
     | _=>none)
    else none
   | none=>none)
  | _,_,_=>none)
 | _,_=>none
mutual
def flatS:S→Bool
 | .lst _ _=>false
 | .gel _ _=>false
 | .rows vs=>vs.isEmpty
 | .elt cs _=>cs.isEmpty
 | .agg cs=>flatSL cs
 | .tup cs=>flatSL cs
 | .fn _ a b=>flatSL a && flatSL b
 | .iface _ v=>flatS v
 | _=>true
def flatSL:List S→Bool
 | []=>true
 | c :: cs=>flatS c && flatSL cs
end
def flatB:SBox→Bool
 | .cells cs _=>flatSL cs
 | .map _ kc vc _=>codeFlat kc && codeFlat vc
def keepX (tk:Nat) (new:S) (x:S × Tk):S × Tk :=
 match x.2 with
 | some (t,e)=>bif Nat.beq t tk then (new,x.2) else bif Nat.beq (tcl t) 2 then x else bif flatS x.1 then x else bif Nat.beq (tcl t) 0 then
   (match x.1 with | .lst c _=>bif codeFlat c then x else (.any,none) | _=>(.any,none)) else (.any,none)
 | none=>bif flatS x.1 then x else (.any,none)
noncomputable def T.findK {α:Type} (p:α→Bool) (t:T α):Option Nat :=
 T.rec (motive:=fun _=>Option Nat) none (fun _ v _ fl fr=>bif (match v with | some x=>p x | none=>false) then some 0 else
  match fl with
  | some q=>some (2 * q + 1)
  | none=>(match fr with | some q=>some (2 * q + 2) | none=>none)) t
def setI {α:Type} (l:List α) (i:Int) (x:α):List α:=l.set i.toNat x
noncomputable def ownerX (m:Mm) (tk:Nat):Option Nat:=m.sl.findK fun x=>match x.2 with | some (t,_)=>Nat.beq t tk | none=>false
noncomputable def iaddrTX (m:Mm) (t:TypeId) (ss:Nat) (i:S) (dst:Option Nat) (k:Mm→Option β):Option β :=
 match getS ro m ss,i with
 | (.lst c l,some (tk,e)),.int _ i=>(match elemC P t c with
  | some (e',sz)=>bif Nat.beq (tcl tk) 0 && Nat.beq e e' then br (inB i l.length) (putX ro m dst (.ptr i sz 0) (some (tk + 3000000,e)) k) none else none
  | none=>none)
 | _,_=>none
noncomputable def faddrTX (m:Mm) (s:TypeId) (d0 fi:Nat) (dst:Option Nat) (k:Mm→Option β):Option β :=
 match getS ro m d0,fieldT P s fi with
 | (.ptr i sz f,some (u,e)),some (fo,t)=>(match sizeT P t with
  | some n=>bif !Nat.beq n 0 && Nat.ble 3000000 u && Nat.beq (tcl (u - 3000000)) 0 then putX ro m dst (.ptr i sz (f + fo)) (some (u,e)) k else none
  | none=>none)
 | _,_=>none
noncomputable def loadTX (m:Mm) (t:TypeId) (d0:Nat) (dst:Option Nat) (k:Mm→Option β):Option β :=
 match getS ro m d0 with
 | (.ptr i sz f,some (u,_))=>(match ownerX m (u - 3000000) with
  | some ss=>(match getS ro m ss,sizeT P t,aggT P t with
   | (.lst c l,some (tk,e)),some n,some ag=>bif Nat.beq (tk + 3000000) u && Nat.beq (tcl tk) 0 && Nat.beq (csz c) sz && (match sizeT P e with | some z=>Nat.beq z sz | none=>false) then
     (idx l i).bind fun x=>(match ag with
      | true=>bif Nat.ble (f + n) (cellsS (refl c x)).length then putX ro m dst (.agg (((cellsS (refl c x)).drop f).take n)) none k else none
      | false=>(match (cellsS (refl c x))[f]? with | some y=>putX ro m dst y none k | none=>none)) else none
   | _,_,_=>none)
  | none=>none)
 | _=>none
def rowPutX (c:C) (x:den c) (f n:Nat) (y:S):Option (den c) :=
 match refl c x with
 | .agg cs=>unrefl c (.agg (cs.take f++cellsS y++cs.drop (f + n)))
 | _=>bif Nat.beq f 0 && Nat.beq n 1 then (match y with | .agg _=>none | y=>unrefl c y) else none
noncomputable def storeTX (m:Mm) (t:TypeId) (d0:Nat) (y:S) (dst:Option Nat) (k:Mm→Option β):Option β :=
 match getS ro m d0,dst with
 | (.ptr i sz f,some (u,_)),none=>(match ownerX m (u - 3000000) with
  | some ss=>(match getS ro m ss,sizeT P t,cszS y with
   | (.lst c l,some (tk,e)),some n,some n'=>bif Nat.beq (tk + 3000000) u && Nat.beq (tcl tk) 0 && Nat.beq (csz c) sz && (match sizeT P e with | some z=>Nat.beq z sz | none=>false) && Nat.beq n' n && Nat.ble (f + n) sz && flatS y && codeFlat c && ro.fl &&
      m.bx.all (fun B=>match B with | some B=>flatB B | none=>true) then
     (idx l i).bind fun x=>(match rowPutX c x f n y with
      | some x'=>k ⟨m.sl.mapV (keepX tk (.lst c (setI l i x'))),m.bx⟩
      | none=>none) else none
   | _,_,_=>none)
  | none=>none)
 | _,_=>none
def mkL {α:Type} (z:α) (by':Nat) (l c:Int):Option (List α):=if 0 ≤ l∧l ≤ c∧(by':Int) * c ≤ 281474976710656∧c ≤ maxLen then some (List.replicate l.toNat z) else none
noncomputable def makeTX (m:Mm) (t:TypeId) (l c:S) (dst:Option Nat) (k:Mm→Option β):Option β :=
 match l,c,sliceT P t with
 | .int _ l,.int _ n,some e=>(match X.code e,sizeT P e,bytesT P e,zeroX P e with
  | some c,some sz,some by',some zv=>(match unrefl c zv,cszS zv with
   | some z,some zn=>bif Nat.beq zn sz && Nat.beq (csz c) sz && Nat.beq (tcl (dst.getD 0)) 0 then (mkL z by' l n).bind fun r=>putX ro ⟨m.sl.mapV (clrX (dst.getD 0)),m.bx⟩ dst (.lst c r) (some (dst.getD 0,e)) k else none
   | _,_=>none)
  | _,_,_,_=>none)
 | _,_,_=>none
noncomputable def isPtr (m:Mm):Operand→Option Nat
 | .tmp t=>(match (getS ro m t).1 with | .ptr _ _ _=>some t | _=>none)
 | _=>none
noncomputable def sortX (m:Mm) (Q:XSort P) (ss:Nat) (dst:Option Nat) (k:Mm→Option β):Option β :=
 match getS ro m ss with
 | (.lst c l,some (tk,e))=>if h:c = Q.c then
   (bif Nat.beq (tcl tk) 0 && (match sizeT P e with | some z=>Nat.beq z (csz Q.c) | none=>false) && ro.fl && m.bx.all (fun B=>match B with | some B=>flatB B | none=>true) then
    (srtG Q.srt (h ▸ l)).bind fun r=>putX ro ⟨m.sl.mapV (keepX tk (.lst Q.c r)),m.bx⟩ dst (.tup []) none k else none) else none
 | _=>none
noncomputable def ownX (m:Mm) (Q:XOwn P) (args:List S) (dst:Option Nat) (k:Mm→Option β):Option β :=
 bif (locsSL args).isEmpty && Nat.beq (tcl (dst.getD 0)) 0 then
  (match Q.run args with
  | some r=>r.bind fun l=>putX ro ⟨m.sl.mapV (clrX (dst.getD 0)),m.bx⟩ dst (.lst Q.c l) (some (dst.getD 0,Q.e)) k
  | none=>none)
 else none
def dropX (tk:Nat) (x:S × Tk):S × Tk :=
 match x.2 with
 | some (t,_)=>bif Nat.beq t tk then (.any,none) else keepX tk (.lst .i64 []) x
 | none=>keepX tk (.lst .i64 []) x
noncomputable def mutArgs (m:Mm) (tk:Nat) (ops:List Operand) (p:Nat) (v:S) (cap:List S):List S:=(ops.map (evalX ro ⟨m.sl.mapV (dropX tk),m.bx⟩)).set p v++cap
noncomputable def mutX (m:Mm) (Q:XMut P) (ops:List Operand) (cap:List S) (dst:Option Nat) (k:Mm→Option β):Option β :=
 match ops[Q.p]? with
 | some (.tmp ss)=>(match getS ro m ss with
  | (.lst c l,some (tk,e)) =>
   bif Nat.beq (tcl tk) 0 && Nat.beq e Q.e && Nat.beq (tcl (dst.getD 0)) 0 && ro.fl && m.bx.all (fun B=>match B with | some B=>flatB B | none=>true) && flatSL cap && Nat.ble ro.nb m.bx.length then
    (match boxesX ro m (dedup (locsSL (mutArgs ro m tk ops Q.p (.lst c l) cap)) []) with
    | some ins=>(match Q.run (renSL (indexN (dedup (locsSL (mutArgs ro m tk ops Q.p (.lst c l) cap)) [])) (mutArgs ro m tk ops Q.p (.lst c l) cap)) ins (fun r outs =>
      putX ro ⟨(m.sl.mapV (dropX tk)).mapV (clrX (dst.getD 0)),setBs m.bx (dedup (locsSL (mutArgs ro m tk ops Q.p (.lst c l) cap)) []) outs⟩ dst (.lst Q.c r) (some (dst.getD 0,Q.e)) k) with
     | some r=>r
     | none=>none)
    | none=>none)
   else none
  | _=>none)
 | _=>none
noncomputable def cutX (m:Mm) (t:TypeId) (ss:Nat) (y:S) (dst:Option Nat) (k:Mm→Option β):Option β :=
 match getS ro m ss,y with
 | (.lst c l,some (tk,e)),.int _ i=>(match elemC P t c with
  | some (e',sz)=>bif Nat.beq e e' && Nat.beq (tcl tk) 0 && codeFlat c && Nat.beq (tcl (dst.getD 0)) 0 && ro.fl && m.bx.all (fun B=>match B with | some B=>flatB B | none=>true) then
    (slc l 0 i).bind fun r=>putX ro ⟨(m.sl.mapV (dropX tk)).mapV (clrX (dst.getD 0)),m.bx⟩ dst (.lst c r) (some (dst.getD 0,e)) k
   else none
  | none=>none)
 | _,_=>none
noncomputable def markX (m:Mm) (s t:TypeId) (ss:Nat) (dst:Option Nat) (k:Mm→Option β):Option (Option β) :=
 match getS ro m ss with
 | (.lst .u8 l0,some (tk,e))=>bif Nat.beq (tcl tk) 0 && Nat.beq s t then (match l0 with
   | x :: l=>some (match elemC P t .u8,basicT P e with
    | some (e',sz),.int .u8=>bif Nat.beq e e' && ro.fl && m.bx.all (fun B=>match B with | some B=>flatB B | none=>true) then
      putX ro ⟨m.sl.mapV (dropX tk),m.bx⟩ dst (.lst .u8 (x :: l)) none k
     else none
    | _,_=>none)
   | []=>none)
  else none
 | _=>none
noncomputable def appOneX (m:Mm) (ss:Nat) (x:S) (t u:TypeId) (dst:Option Nat) (k:Mm→Option β):Option β :=
 match getS ro m ss,sliceT P t,x with
 | (.lst c l,some (tk,e)),some e',.lst c' (y :: l2)=>(match sizeT P e,bytesT P e,zeroX P e with
  | some sz,some by',some zv=>(match cszS zv with
   | some zn=>bif Nat.beq e e' && Nat.blt (tcl tk) 2 && srcT P u && Nat.beq zn sz && Nat.beq (csz c) sz && !Nat.beq by' 0 && Nat.beq (tcl (dst.getD 0)) 0 then
     if h:c' = c then (app by' l (h ▸ (y :: l2):List (den c))).bind fun r=>putX ro ⟨(m.sl.mapV (clrX tk)).mapV (clrX (dst.getD 0)),m.bx⟩ dst (.lst c r) (some (dst.getD 0,e)) k else none
    else none
   | none=>none)
  | _,_,_=>none)
 | _,_,_=>none
def clrI {α:Type} (l:List α) (i:Int) (z:α):Option (List α):=if 0 ≤ i∧i < l.length then some (l.take i.toNat++List.replicate (l.length - i.toNat) z) else none
noncomputable def clr2X (o2 o3:Oper) (m:Mm) (k:Mm→Option β):Option β :=
 match o2.guard,o3.guard,o3.dst,o2.dst,o2.op with
 | none,none,none,some c,.slice t (.tmp ss) (some y) none none=>bif isClr c t o3.op then (match getS ro m ss,evalX ro m y with
  | (.lst cc l,some (tk,e)),.int _ i=>(match elemC P t cc,zeroX P e with
   | some (e',sz),some zv=>(match unrefl cc zv,cszS zv with
    | some z,some zn=>bif Nat.beq e e' && Nat.beq (tcl tk) 0 && Nat.beq zn sz && codeFlat cc && ro.fl && m.bx.all (fun B=>match B with | some B=>flatB B | none=>true) then
      (clrI l i z).bind fun r=>putX ro ⟨m.sl.mapV (keepX tk (.lst cc r)),m.bx⟩ (some c) .any none k
     else none
    | _,_=>none)
   | _,_=>none)
  | _,_=>none) else none
 | _,_,_,_,_=>none
noncomputable def both {γ:Type} (A B:Option γ):Option γ:=open Classical in if A = B then B else none
noncomputable def nilq {α γ:Type} (l:List α) (A B:Option γ):Option γ:=match l with
 | []=>both A B
 | _ :: _=>B
noncomputable def eqnilX (m:Mm) (op:BinOp) (t:TypeId) (x:S) (dst:Option Nat) (k:Mm→Option β):Option (Option β) :=
 match x,op,sliceT P t with
 | .lst _ l,.eql,some _=>some (nilq l (putX ro m dst (.bool true) none k) (putX ro m dst (.bool false) none k))
 | .lst _ l,.neq,some _=>some (nilq l (putX ro m dst (.bool false) none k) (putX ro m dst (.bool true) none k))
 | _,_,_=>none
noncomputable def mapDelX (m:Mm) (t:TypeId) (mx x:S) (dst:Option Nat) (k:Mm→Option β):Option β :=
 match mx,mapT P t,dst with
 | .mref i,some (kt,_),none=>(match getB ro m i with
  | some (.map mt kc vc l)=>(match ckC kc,dq kc,keyT P kt with
   | some (ag,ks),some d,some (ag',ks')=>(match unrefl kc x with
    | some kk=>bif X.key kt && (ag == ag') && ksEq ks ks' && ro.ownB i then
      (@mdel _ _ d (kinC kc) l kk).bind fun l'=>k ⟨m.sl,m.bx.set i (some (.map mt kc vc l'))⟩ else none
    | _=>none)
   | _,_,_=>none)
  | _=>none)
 | _,_,_=>none
noncomputable def mapLenX (m:Mm) (t:TypeId) (i:Nat) (dst:Option Nat) (k:Mm→Option β):Option β :=
 match mapT P t,getB ro m i with
 | some _,some (.map _ _ _ l)=>putX ro m dst (.int .i64 l.length) none k
 | _,_=>none
noncomputable def semX (o:Oper) (m:Mm) (k:Mm→Option β):Option (Option β) :=
 match o.op with
 | .indexAddr t (.tmp ss) ix=>bif (match o.dst with | some d=>Nat.testBit X.wr d | none=>false) then some (iaddrTX (P:=P) ro m t ss (evalX ro m ix) o.dst k) else none
 | .fieldAddr s x fi=>(match isPtr ro m x with | some d0=>some (faddrTX (P:=P) ro m s d0 fi o.dst k) | none=>none)
 | .load t x=>(match isPtr ro m x with | some d0=>some (loadTX (P:=P) ro m t d0 o.dst k) | none=>none)
 | .store t x y=>(match isPtr ro m x with | some d0=>some (storeTX (P:=P) ro m t d0 (evalX ro m y) o.dst k) | none=>none)
 | .call { callee:=.value fo,args,.. }=>(match evalX ro m fo with
  | .fn (.func f) first cap=>(match findOwn X.owned f with
   | some Q=>some (ownX ro m Q (first++args.toList.map (evalX ro m)++cap) o.dst k)
   | none=>(match first,findMut X.muts f with
   | [],some Q=>some (mutX ro m Q args.toList cap o.dst k)
   | _,_=>(match first,cap,args.toList with
    | [],[],[.tmp ss]=>(match findSort X.sorts f none with | some Q=>some (sortX ro m Q ss o.dst k) | none=>none)
    | [],[],[.tmp ss,y]=>(match evalX ro m y with
     | .fn (.func g) [] []=>(match findSort X.sorts f (some g) with | some Q=>some (sortX ro m Q ss o.dst k) | none=>none)
     | _=>none)
    | _,_,_=>none)))
  | _=>none)
 | .slice t (.tmp ss) none (some y) none=>bif (match o.dst with | some d=>Nat.testBit X.wr d | none=>false) then some (cutX (P:=P) ro m t ss (evalX ro m y) o.dst k) else none
 | .call { callee:=.builtin .append,args,argTypes }=>bif (match o.dst with | some d=>Nat.testBit X.wr d | none=>false) then (match args.toList,argTypes.toList with
  | [.tmp ss,x],[t,u]=>some (appOneX (P:=P) ro m ss (evalX ro m x) t u o.dst k)
  | _,_=>none) else none
 | .convert s t (.tmp ss)=>markX (P:=P) ro m s t ss o.dst k
 | .makeSlice t l c=>some (makeTX X ro m t (evalX ro m l) (evalX ro m c) o.dst k)
 | .binOp op t x (.const (.slice none 0 0)) _=>eqnilX (P:=P) ro m op t (evalX ro m x) o.dst k
 | .call { callee:=.builtin .delete,args,argTypes }=>(match args.toList,argTypes.toList with
  | [mx,x],[t,_]=>some (mapDelX X ro m t (evalX ro m mx) (evalX ro m x) o.dst k)
  | _,_=>none)
 | .call { callee:=.builtin .len,args,argTypes }=>(match args.toList,argTypes.toList with
  | [mx],[t]=>(match evalX ro m mx with
   | .mref i=>some (mapLenX (P:=P) ro m t i o.dst k)
   | _=>none)
  | _,_=>none)
 | _=>none
noncomputable def mkMapX (m:Mm) (t:TypeId) (dst:Option Nat) (k:Mm→Option β):Option β :=
 match mapT P t with
 | some (kt,et)=>(match X.code kt,X.code et with
  | some kc,some vc=>newBoxX ro m (.map t kc vc []) dst (.mref m.bx.length) k
  | _,_=>none)
 | none=>none
noncomputable def lookupX (m:Mm) (t:TypeId) (mx x:S) (ok:Bool) (K:S→Option β):Option β :=
 match mx,mapT P t with
 | .mref i,some (kt,et)=>(match getB ro m i with
  | some (.map _ kc vc l)=>(match ckC kc,dq kc,keyT P kt,zeroX P et with
   | some (ag,ks),some d,some (ag',ks'),some zv=>(match unrefl kc x,unrefl vc zv with
    | some k,some z=>bif X.key kt && (ag == ag') && ksEq ks ks' then
      (@mget _ _ d (kinC kc) l k).bind fun o=>K (bif ok then .tup [refl vc (o.getD z),.bool o.isSome] else refl vc (o.getD z)) else none
    | _,_=>none)
   | _,_,_,_=>none)
  | _=>none)
 | _,_=>none
noncomputable def mapPutX (m:Mm) (t:TypeId) (mx x y:S) (dst:Option Nat) (k:Mm→Option β):Option β :=
 match mx,mapT P t,dst with
 | .mref i,some (kt,_),none=>(match getB ro m i with
  | some (.map mt kc vc l)=>(match ckC kc,dq kc,keyT P kt with
   | some (ag,ks),some d,some (ag',ks')=>(match unrefl kc x,unrefl vc y with
    | some kk,some v=>bif X.key kt && (ag == ag') && ksEq ks ks' && ro.ownB i then
      (@mput _ _ d (kinC kc) l kk v).bind fun l'=>k ⟨m.sl,m.bx.set i (some (.map mt kc vc l'))⟩ else none
    | _,_=>none)
   | _,_,_=>none)
  | _=>none)
 | _,_,_=>none
noncomputable def opX (dr:Bool) (o:Oper) (m:Mm) (k:Mm→Option β):Option β :=
 match (bif dr then none else semX X ro o m k) with
 | some r=>r
 | none =>
 match o.op with
 | .box e x=>boxX ro m e (evalX ro m x) o.dst k
 | .alloc e=>(match zeroX P e with | some v=>boxX ro m e v o.dst k | none=>none)
 | .store t x y=>storeX X ro m t (evalX ro m x) (evalX ro m y) o.dst k
 | .call { callee:=.builtin .append,args,argTypes }=>(match args.toList,argTypes.toList with
  | [.tmp ss,x],[t,u]=>appendX (P:=P) ro m ss (evalX ro m x) t u o.dst k
  | _,_=>none)
 | .call { callee:=.value f,args,.. }=>(match evalX ro m f with
  | .fn (.func g) first cap=>callX X ro dr m g (first++args.toList.map (evalX ro m)++cap) o.dst k
  | _=>none)
 | .makeMap t none=>mkMapX X ro m t o.dst k
 | .mapUpdate t mx x y=>mapPutX X ro m t (evalX ro m mx) (evalX ro m x) (evalX ro m y) o.dst k
 | .lookup t mx x ok=>lookupX X ro m t (evalX ro m mx) (evalX ro m x) ok fun v=>putV' ro m dr o v none k
 | _=>valX P X.code ro m o fun v tk=>putV' ro m dr o v tk k
noncomputable def refineX (m:Mm) (x:Operand) (b:Bool):Mm :=
 match x with
 | .tmp t=>bif ro.own t then ⟨m.sl.set t (.bool b,(getS ro m t).2),m.bx⟩ else m
 | _=>m
noncomputable def gdX (ds:List (Option Nat)) (m:Mm) (g:Option (Nat × Bool)) (A B:Mm→Option β):Option β :=
 match g with
 | none=>A m
 | some (j,want)=>(match ds[j]? with
  | some (some d)=>(match (getS ro m d).1 with
   | .bool b=>br b (bif want then A (refineX ro m (.tmp d) true) else B (refineX ro m (.tmp d) true)) (bif want then B (refineX ro m (.tmp d) false) else A (refineX ro m (.tmp d) false))
   | .un=>B m
   | _=>none)
  | _=>B m)
def noGuard (o:Oper):Bool:=match o.guard with
 | none=>true
 | some _=>false
structure EntQ where
 t:TypeId
 op:BinOp
 s:Nat
 r:Nat
 c:Int
 d2:Nat
 d3:Nat
 d4:Nat
 d5:Nat
def entPat (dr:Bool) (o2:Oper) (os:List Oper):Option EntQ :=
 match o2.op with
 | .lookup t (.tmp s) (.tmp r) false=>(match os with
  | [o3,o4,o5,o6]=>(match o4.op with
   | .mapEntry t' (.tmp s') (.tmp r')=>(match o3.op with
    | .binOp op _ (.tmp a2) (.const (.int .i64 c)) _=>(match o5.op with
     | .extract (.tmp a4) i=>(match o6.op with
      | .entryStore t'' (.tmp s'') (.tmp a5) (.tmp a3)=>(match o2.dst,o3.dst,o4.dst,o5.dst,o6.dst with
       | some d2,some d3,some d4,some d5,none =>
        bif dr && (noGuard o2 && noGuard o3 && noGuard o4 && noGuard o5 && noGuard o6) && (Nat.beq t' t && Nat.beq t'' t && Nat.beq s' s && Nat.beq s'' s && Nat.beq r' r && Nat.beq a2 d2 && Nat.beq a3 d3 && Nat.beq a4 d4 && Nat.beq a5 d5 && Nat.beq i 1) &&
         (!Nat.beq d2 d3 && !Nat.beq d2 d4 && !Nat.beq d2 d5 && !Nat.beq d3 d4 && !Nat.beq d3 d5 && !Nat.beq d4 d5) && (!Nat.beq s d2 && !Nat.beq s d3 && !Nat.beq s d4 && !Nat.beq s d5) && (!Nat.beq r d2 && !Nat.beq r d3 && !Nat.beq r d4 && !Nat.beq r d5) then
         some ⟨t,op,s,r,c,d2,d3,d4,d5⟩ else none
       | _,_,_,_,_=>none)
      | _=>none)
     | _=>none)
    | _=>none)
   | _=>none)
  | _=>none)
 | _=>none
def arX (op:BinOp) (a b:Int):Option Int:=match op with
 | .add=>addI .i64 a b
 | .sub=>subI .i64 a b
 | _=>none
noncomputable def entX (m:Mm) (q:EntQ) (k:Mm→Option β):Option β :=
 match evalX ro m (.tmp q.s),mapT P q.t with
 | .mref i,some (kt,et)=>(match getB ro m i with
  | some (.map mt kc .i64 l)=>(match ckC kc,dq kc,keyT P kt,zeroX P et with
   | some (ag,ks),some d,some (ag',ks'),some zv=>(match unrefl kc (evalX ro m (.tmp q.r)),unrefl .i64 zv with
    | some kk,some z=>bif X.key kt && (ag == ag') && ksEq ks ks' && ro.ownB i then
      (@mget _ _ d (kinC kc) l kk).bind fun o=>(arX q.op (o.getD z) q.c).bind fun y=>(@mput _ _ d (kinC kc) l kk y).bind fun l' =>
       putX ro ⟨m.sl,m.bx.set i (some (.map mt kc .i64 l'))⟩ (some q.d2) (.int .i64 (o.getD z)) none fun m=>putX ro m (some q.d3) (.int .i64 y) none fun m=>putX ro m (some q.d4) .any none fun m=>putX ro m (some q.d5) .any none k else none
    | _,_=>none)
   | _,_,_,_=>none)
  | _=>none)
 | _,_=>none
noncomputable def opsX (dr:Bool) (ds:List (Option Nat)):List Oper→Mm→(Mm→Option β)→Option β
 | [],m,k=>k m
 | o :: os,m,k=>match entPat dr o os with
  | some q=>entX X ro m q k
  | none=>gdX ro ds m o.guard (fun m=>opX X ro dr o m fun m'=>opsX dr ds os m' k) (fun m=>putX ro m o.dst .un none fun m'=>opsX dr ds os m' k)
noncomputable def takeX (o:Oper) (m:Mm) (k:Mm→Option β):Option β :=
 match o.op with
 | .move x=>putX ro m o.dst (evalX ro m x) (tokX ro m x) k
 | .binOp .add _ x y _=>(match evalX ro m x,evalX ro m y with
  | .int k1 a,.int k2 b=>if k1 = k2 then (addI k1 a b).bind fun n=>putX ro m o.dst (.int k1 n) none k else none
  | _,_=>none)
 | .binOp .sub _ x y _=>(match evalX ro m x,evalX ro m y with
  | .int k1 a,.int k2 b=>if k1 = k2 then (subI k1 a b).bind fun n=>putX ro m o.dst (.int k1 n) none k else none
  | _,_=>none)
 | .indexAddr t x i=>(match evalX ro m x,evalX ro m i with
  | .lst c l,.int _ i=>(match elemC P t c with
   | some _=>(idx l i).bind fun x=>putX ro m o.dst (.elt (cellsS (refl c x)) 0) none k
   | none=>none)
  | _,_=>none)
 | .slice t x lo hi none=>(match evalX ro m x with
  | .lst c l=>sliceX P ro m t (.lst c l) lo hi none o.dst fun v tk=>putX ro m o.dst v tk k
  | _=>none)
 | _=>none
noncomputable def pairX (o o':Oper) (m:Mm) (k:Mm→Option β):Option β :=
 match o.op,o'.op with
 | .load t x,.load t' x'=>loadX P X.code ro m t (evalX ro m x) fun v=>loadX P X.code ro m t' (evalX ro m x') fun u=>putX ro m o.dst v none fun m=>putX ro m o'.dst u none k
 | _,_=>none
noncomputable def tailX:List Oper→Mm→(Mm→Option β)→Option β
 | [],_,_=>none
 | o :: os,m,k=>match os with
  | []=>none
  | [o3]=>clr2X (P:=P) ro o o3 m k
  | _=>(match o.guard with | none=>opX X ro false o m fun m'=>tailX os m' k | some _=>none)
noncomputable def allB {γ:Type} (f:Nat→Option γ):List Nat→Option γ
 | []=>none
 | j :: l=>match l with
  | []=>f j
  | _=>both (f j) (allB f l)
noncomputable def fullX (ops:Array Oper) (ds:List (Option Nat)):Nat→Array Bool→Mm→(Mm→Option β)→Option β
 | 0,listed,m,k=>(match Region.ready .any ops listed with | []=>k m | _=>none)
 | fuel + 1,listed,m,k=>(match Region.ready .any ops listed with
  | []=>k m
  | i :: is=>(match (i :: is).find? (canTake ops listed) with
   | some j=>(match ops[j]? with
    | some o=>takeX (P:=P) ro o m fun m'=>fullX ops ds fuel (listed.setIfInBounds j true) m' k
    | none=>none)
   | none=>allB (fun j=>match ops[j]? with
    | some o=>gdX ro ds m o.guard (fun m=>opX X ro false o m fun m'=>fullX ops ds fuel (listed.setIfInBounds j true) m' k) (fun m=>putX ro m o.dst .un none fun m'=>fullX ops ds fuel (listed.setIfInBounds j true) m' k)
    | none=>none) (i :: is)))
noncomputable def schX (ops:Array Oper) (ds:List (Option Nat)):List (Nat × Nat)→Mm→(Mm→Option β)→Option β
 | [],m,k=>k m
 | (i,t) :: l,m,k=>match ops[i]? with
  | none=>none
  | some o=>match t with
   | 1=>takeX (P:=P) ro o m fun m'=>schX ops ds l m' k
   | j + 2=>(match ops[j]? with
    | some o'=>pairX X ro o o' m fun m'=>schX ops ds l m' k
    | none=>none)
   | 0=>gdX ro ds m o.guard (fun m=>opX X ro false o m fun m'=>schX ops ds l m' k) (fun m=>putX ro m o.dst .un none fun m'=>schX ops ds l m' k)
end
inductive Step (σ ρ:Type) where
 | next (s:σ)
 | done (r:ρ)
def iterN {σ ρ:Type} (F:σ→Option (Step σ ρ)):Nat→σ→Option ρ
 | 0,_=>none
 | n + 1,s=>match F s with
  | some (.next s')=>iterN F n s'
  | some (.done r)=>some r
  | none=>none
open Classical in
noncomputable def iter {σ ρ:Type} (F:σ→Option (Step σ ρ)) (s:σ):Option ρ :=
 if h:∃ r n,iterN F n s = some r then some h.choose else none
inductive LV where
 | slot (s:Nat) (c:C) (tk:Tk)
 | box (i:Nat) (c:C)
 | mapb (i:Nat) (kc vc:C)
@[reducible] def LV.ty:LV→Type
 | .slot _ c _=>den c
 | .box _ c=>den c
 | .mapb _ kc vc=>List (den kc × den vc)
@[reducible] def tupT:List LV→Type
 | []=>Unit
 | [v]=>v.ty
 | v :: w :: vs=>v.ty × tupT (w :: vs)
def tkEq:Tk→Tk→Bool
 | none,_=>true
 | some (t,e),some (t',e')=>Nat.beq t t' && Nat.beq e e'
 | some _,none=>false
def boxTy (B:Option SBox):TypeId:=match B with
 | some (.cells _ ty)=>ty
 | some (.map mt _ _ _)=>mt
 | none=>0
noncomputable def readLV (old:Nat→Option SBox) (ro:RO) (m:Mm):(v:LV)→Option v.ty
 | .slot s c tk=>bif tkEq tk (getS ro m s).2 then unrefl c (getS ro m s).1 else none
 | .box i c=>(match getB ro m i with
  | some (.cells cs ty)=>bif Nat.beq ty (boxTy (old i)) then (match unrefl c (.agg cs) with
   | some y=>some y
   | none=>(match cs with
    | [.agg _]=>none
    | [x]=>unrefl c x
    | _=>none)) else none
  | _=>none)
 | .mapb i kc vc=>(match getB ro m i with | some (.map mt kc' vc' l)=>bif Nat.beq mt (boxTy (old i)) then (if h:kc' = kc∧vc' = vc then some (h.1 ▸ h.2 ▸ l) else none) else none | _=>none)
noncomputable def readL (old:Nat→Option SBox) (ro:RO) (m:Mm):(L:List LV)→Option (tupT L)
 | []=>some ()
 | [v]=>readLV old ro m v
 | v :: w :: vs=>match readLV old ro m v,readL old ro m (w :: vs) with
  | some x,some y=>some (x,y)
  | _,_=>none
noncomputable def writeLV (old:Nat→Option SBox) (m:Mm):(v:LV)→v.ty→Mm
 | .slot s c tk,x=>⟨m.sl.set s (refl c x,tk),m.bx⟩
 | .box i c,x=>⟨m.sl,m.bx.set i (some (.cells (cellsS (refl c x)) (boxTy (old i))))⟩
 | .mapb i kc vc,x=>⟨m.sl,m.bx.set i (some (.map (boxTy (old i)) kc vc x))⟩
noncomputable def writeL (old:Nat→Option SBox) (m:Mm):(L:List LV)→tupT L→Mm
 | [],_=>m
 | [v],x=>writeLV old m v x
 | v :: w :: vs,x=>writeL old (writeLV old m v x.1) (w :: vs) x.2
inductive EX where
 | exit (id:Nat) | ret
 deriving DecidableEq
def EX.of:Exit→Option EX
 | .exit id=>some (.exit id)
 | .ret=>some .ret
 | _=>none
def EX.to:EX→Exit
 | .exit id=>.exit id
 | .ret=>.ret
def EX.beq:EX→EX→Bool
 | .exit i,.exit j=>Nat.beq i j
 | .ret,.ret=>true
 | _,_=>false
@[reducible] def outT:List (EX × List LV)→Type
 | []=>Empty
 | [e]=>tupT e.2
 | e :: f :: es=>tupT e.2 ⊕ outT (f :: es)
noncomputable def readOut (old:Nat→Option SBox) (ro:RO) (m:Mm) (ex:EX):(es:List (EX × List LV))→Option (outT es)
 | []=>none
 | [e]=>bif e.1.beq ex then readL old ro m e.2 else none
 | e :: f :: es=>bif e.1.beq ex then (match readL old ro m e.2 with | some x=>some (.inl x) | none=>none) else (match readOut old ro m ex (f :: es) with | some x=>some (.inr x) | none=>none)
noncomputable def writeOut {β:Type} (old:Nat→Option SBox) (m:Mm) (k:Exit→Mm→Option β):(es:List (EX × List LV))→outT es→Option β
 | [],x=>none
 | [e],x=>k e.1.to (writeL old m e.2 x)
 | e :: f :: es,x=>Sum.elim (fun y=>k e.1.to (writeL old m e.2 y)) (fun y=>writeOut old m k (f :: es) y) x
inductive Ann where
 | no
 | sch
 | full
 | two (a b:Ann)
 | loop (ds bs:List Nat) (L:List LV) (es:List (EX × List LV)) (a:Ann)
 | old (a:Ann)
def Ann.isOld:Ann→Bool
 | .old _=>true
 | _=>false
def Ann.un:Ann→Ann
 | .old a=>a
 | a=>a
noncomputable def ageX (m:Mm):Mm:=⟨m.sl.mapV (fun x=>(x.1,some (2000000,0))),m.bx⟩
noncomputable def looseX (m:Mm):Mm:=⟨m.sl.mapV (fun x=>(x.1,none)),m.bx⟩
def Ann.l:Ann→Ann
 | .two a _=>a
 | a=>.no
def Ann.r:Ann→Ann
 | .two _ b=>b
 | a=>.no
def Ann.isSch:Ann→Bool
 | .sch=>true
 | _=>false
def Ann.isFull:Ann→Bool
 | .full=>true
 | _=>false
def maskOf (l:List Nat):Nat:=l.foldl (fun a s=>a ||| (1 <<< s)) 0
def hasBox:List LV→Nat→Bool
 | [],_=>false
 | .slot _ _ _ :: L,i=>hasBox L i
 | .box j _ :: L,i=>Nat.beq j i || hasBox L i
 | .mapb j _ _ :: L,i=>Nat.beq j i || hasBox L i
def boxesOf:List LV→List Nat
 | []=>[]
 | .slot _ _ _ :: L=>boxesOf L
 | .box j _ :: L=>j :: boxesOf L
 | .mapb j _ _ :: L=>j :: boxesOf L
noncomputable def wipe (sl:T (S × Tk)):List Nat→T (S × Tk)
 | []=>sl
 | s :: ss=>wipe (sl.set s (.any,none)) ss
def unTok (mu:Bool) (x:S × Tk):S × Tk :=
 match x.2 with
 | some (t,e)=>bif Nat.beq (tcl t) 2 then x else bif !mu || flatS x.1 then (x.1,none) else (.any,none)
 | none=>bif !mu || flatS x.1 then x else (.any,none)
noncomputable def inner (mu:Bool) (ro:RO) (m:Mm) (ds bs:List Nat):RO :=
 { all:=false,mask:=maskOf ds,sl:=fun s=>unTok mu (getS ro m s),nb:=m.bx.length,bmask:=maskOf bs,bx:=fun i=>getB ro m i,
   fl:=mu && (List.range m.bx.length).all (fun i=>match getB ro m i with | some B=>flatB B | none=>true) }
def inD (ds:List (Option Nat)) (t:Nat):Bool:=ds.any (fun d=>match d with | some d=>Nat.beq d (t % 1000000) | none=>false)
def clrD (ds:List (Option Nat)) (x:S × Tk):S × Tk:=match x.2 with
 | some (t,_)=>bif Nat.blt (tcl t) 2 && inD ds t then (x.1,none) else x
 | none=>x
noncomputable def codeX {P:Program} (X:XCtx P):Code→Ann→RO→Mm→{β:Type}→(Exit→Mm→Option β)→Option β
 | .skip,_,_,m,_,k=>k .normal m
 | .label _,_,_,m,_,k=>k .normal m
 | .region _ ops dr,a,ro,m,_,k=>bif dr && a.isFull then fullX X ro ops (ops.toList.map (·.dst)) ops.size (Array.replicate ops.size false) m (k .normal) else bif dr && a.isSch then (match schedR ops with
  | some l=>schX X ro ops (ops.toList.map (·.dst)) l m (k .normal)
  | none=>none) else bif a.isSch then tailX X ro ops.toList m (k .normal) else opsX X ro dr (ops.toList.map (·.dst)) ops.toList (bif dr then ⟨m.sl.mapV (clrD ((ops.toList.filter newOp).map (·.dst))),m.bx⟩ else m) (k .normal)
 | .seq x y,a,ro,m,_,k=>codeX X x a.l ro m fun ex m'=>match ex with
  | .normal=>bif a.r.isOld && ro.all then codeX X y a.r.un ro (ageX m') (fun ex2 m2=>k ex2 (looseX m2)) else codeX X y a.r.un ro m' k
  | e=>k e m'
 | .cond c x y,a,ro,m,_,k=>(match evalX ro m c with
  | .bool b=>br b (codeX X x a.l ro (refineX ro m c true) k) (codeX X y a.r ro (refineX ro m c false) k)
  | _=>none)
 | .block id x,a,ro,m,_,k=>codeX X x a ro m fun ex m'=>match ex with
  | .exit id'=>bif Nat.beq id' id then k .normal m' else k (.exit id') m'
  | e=>k e m'
 | .exit id,_,_,m,_,k=>k (.exit id) m
 | .ret,_,_,m,_,k=>k .ret m
 | .loop x,.loop ds bs L es a,ro,m,_,k =>
  bif ds.all ro.own && bs.all ro.ownB && bs.all (fun i=>Nat.blt i m.bx.length) && bs.all (hasBox L) && es.all (fun e=>bs.all (hasBox e.2)) && Nat.ble ro.nb m.bx.length && (boxesOf L).all (fun i=>bs.any (Nat.beq i)) && es.all (fun e=>(boxesOf e.2).all (fun i=>bs.any (Nat.beq i))) then
   (match readL (getB ro m) ro m L with
   | some v=>(iter (σ:=tupT L) (ρ:=outT es) (fun v=>codeX X x a (inner (!Nat.beq X.wr 0) ro m ds bs) (writeL (getB ro m) ⟨.nil,List.replicate m.bx.length none⟩ L v) fun ex m'=>match ex with
     | .normal=>(match readL (getB ro m) (inner (!Nat.beq X.wr 0) ro m ds bs) m' L with | some w=>some (.next w) | none=>none)
     | ex=>(match EX.of ex with
      | some ex=>(match readOut (getB ro m) (inner (!Nat.beq X.wr 0) ro m ds bs) m' ex es with | some w=>some (.done w) | none=>none)
      | none=>none)) v).bind fun w =>
      writeOut (getB ro m) ⟨wipe (m.sl.mapV (unTok (!Nat.beq X.wr 0))) ds,m.bx⟩ k es w
   | none=>none)
  else none
 | _,_,_,_,_,_=>none
def roTop:RO:={ all:=true,mask:=0,sl:=fun _=>(.any,none),nb:=0,bmask:=0,bx:=fun _=>none,fl:=true }
noncomputable def initSl:Nat→List S→T (S × Tk)
 | _,[]=>.nil
 | n,s :: ss=>(initSl (n + 1) ss).set n (s,some (2000000,0))
noncomputable def resX {P:Program} (m:Mm):List ResultVar→Option (List S)
 | []=>some []
 | r :: rs=>match (match r with
   | .tmp t=>some (getS roTop m t).1
   | .cell a t=>(match (getS roTop m a).1 with
    | .loc i off=>(match getB roTop m i,aggT P t with
     | some (.cells cs ty),some true=>(match sizeT P t with | some n=>bif Nat.blt ty 1000000000 && Nat.ble (off + n) cs.length then some (.agg ((cs.drop off).take n)) else none | none=>none)
     | some (.cells cs ty),some false=>bif Nat.blt ty 1000000000 then cs[off]? else none
     | _,_=>none)
    | _=>none)),resX (P:=P) m rs with
  | some v,some vs=>some (v :: vs)
  | _,_=>none
noncomputable def outsX (m:Mm):Nat→Nat→Option (List SBox)
 | _,0=>some []
 | i,n + 1=>match getB roTop m i,outsX m (i + 1) n with
  | some B,some bs=>bif noLocB B then some (B :: bs) else none
  | _,_=>none
noncomputable def bodyX {P:Program} (X:XCtx P) (rs:List ResultVar) (c:Code) (a:Ann) (args:List S) (ins:List SBox) {β:Type} (K:S→List SBox→Option β):Option β :=
 codeX X c a roTop ⟨initSl 0 args,ins.map some⟩ fun ex m=>match (match ex with | .ret | .normal=>true | _=>false),resX (P:=P) m rs,outsX m 0 ins.length with
  | true,some [v],some outs=>bif noLocS v then K v outs else none
  | true,some vs,some outs=>bif noLocSL vs then K (.tup vs) outs else none
  | _,_,_=>none
noncomputable def bodyO {P:Program} (X:XCtx P) (rs:List ResultVar) (c:Code) (a:Ann) (args:List S) (cc:C) (e:TypeId):Option (List (den cc)) :=
 codeX X c a roTop ⟨initSl 0 args,[]⟩ fun ex m=>match (match ex with | .ret | .normal=>true | _=>false),rs with
  | true,[.tmp s]=>(match getS roTop m s with
   | (.lst c' l,some (t,e'))=>bif Nat.beq (tcl t) 0 && Nat.beq e' e then (if h:c' = cc then some (h ▸ l:List (den cc)) else none) else none
   | (.rows [],some (t,e'))=>bif Nat.beq (tcl t) 0 && Nat.beq e' e then some [] else none
   | _=>none)
  | _,_=>none
end Go.X
namespace Go.X
open Go.Eng
open Go.RowKit
theorem condS {α:Type} {c:Bool} {a:Option α} {r:α} (h:(bif c then a else none) = some r):c = true∧a = some r:=by
 cases c
 ·cases h
 ·exact ⟨rfl,h⟩
theorem brS {α:Type} {b:Bool} {x y:Option α} {r:α} (h:br b x y = some r):(b = true∧x = some r) ∨ (b = false∧y = some r):=by
 cases b
 ·exact .inr ⟨rfl,h⟩
 ·exact .inl ⟨rfl,h⟩
theorem iteS {α:Type} {c:Prop} [Decidable c] {a:Option α} {r:α} (h:(if c then a else none) = some r):c∧a = some r:=by
 split at h
 ·exact ⟨‹_›,h⟩
 ·cases h
theorem toVL_length (cs:List S):(toVL cs).length = cs.length:=by rw [toVL_map]; simp
theorem toVL_drop (cs:List S) (n:Nat):toVL (cs.drop n) = (toVL cs).drop n:=by simp [toVL_map,List.map_drop]
theorem toVL_take (cs:List S) (n:Nat):toVL (cs.take n) = (toVL cs).take n:=by simp [toVL_map,List.map_take]
theorem toVL_append (cs ds:List S):toVL (cs++ds) = toVL cs++toVL ds:=by simp [toVL_map]
theorem toVL_get (cs:List S) (n:Nat):(toVL cs)[n]? = (cs[n]?).map toV:=by simp [toVL_map]
theorem toVL_seg (cs:List S) (o n:Nat):toVL ((cs.drop o).take n) = ((toVL cs).drop o).take n:=by rw [toVL_take,toVL_drop]
theorem constX_V (v:Value):toV (constX v) = constC v:=by
 unfold constX
 split
 case h_3 =>
  simp only [constC]
  rename_i s
  by_cases hc:s.size ≤ maxLen
  ·rw [if_pos hc,Nat.ble_eq_true_of_le hc]; simp [toV]
  ·have:Nat.ble s.size maxLen = false:=by
    cases hb:Nat.ble s.size maxLen
    ·rfl
    ·exact absurd (Nat.le_of_ble_eq_true hb) hc
   rw [if_neg hc,this]; simp [toV]
 all_goals first
  | (simp [constC,toV,toVL]; done)
  | (unfold constC; split <;> simp_all [toV,toVL])
theorem constXV_V (v:Value):toV (constXV v) = constV v:=by
 unfold constXV
 split
 ·rename_i cs
  simp only [constV]
  by_cases h:cs.toList.all (fun x=>x.oneCell') = true
  ·rw [if_pos h,h]; simp only [cond_true,toV,toVL_map,List.map_map]
   congr 1
   exact List.map_congr_left fun x _=>constX_V x
  ·rw [if_neg h]
   rw [Bool.not_eq_true] at h
   rw [h]; simp [toV]
 ·simp only [constV,toV,toVL_map,List.map_map]
  congr 1
  exact List.map_congr_left fun x _=>constX_V x
 ·rename_i h1 h2
  rw [constX_V]
  cases v <;> first | rfl | (exact absurd rfl (h1 _)) | (exact absurd rfl (h2 _))
theorem map_constXV (vs:List Value):toVL (vs.map constXV) = vs.map constV:=by
 rw [toVL_map,List.map_map]
 exact List.map_congr_left fun x _=>constXV_V x
theorem evalX_V (ro:RO) (m:Mm) (x:Operand):toV (evalX ro m x) = (toSt ro m).eval x:=by
 cases x with
 | tmp t=>rfl
 | const v=>exact constXV_V v
 | global g =>
  simp only [evalX,toV,St.eval]
  cases GL g <;> rfl
 | func f=>simp [evalX,toV,toVL,St.eval]
theorem evalX_VL (ro:RO) (m:Mm) (xs:List Operand):toVL (xs.map (evalX ro m)) = xs.map (toSt ro m).eval:=by
 rw [toVL_map,List.map_map]
 exact List.map_congr_left fun x _=>evalX_V ro m x
theorem tokX_V (ro:RO) (m:Mm) (x:Operand):tokX ro m x = (toSt ro m).tokOf x:=by
 cases x <;> rfl
theorem iv_csize (x:IV):(enc_iv x).csize = some 1:=by cases x <;> rfl
theorem iv_cellsL (x:IV):(enc_iv x).cellsL = [enc_iv x]:=by cases x <;> rfl
theorem cszS_V {s:S} {n:Nat} (h:cszS s = some n):(toV s).csize = some n:=by
 cases s <;> simp only [cszS,Option.some.injEq,reduceCtorEq] at h <;> subst h <;> first | (simp only [toV]; exact iv_csize _) | simp [toV,V.csize,toVL_length]
theorem cellsS_V {s:S} {n:Nat} (h:cszS s = some n):toVL (cellsS s) = (toV s).cellsL:=by
 cases s <;> simp only [cszS,Option.some.injEq,reduceCtorEq] at h <;> first | (simp only [toV,toVL,cellsS]; exact (iv_cellsL _).symm) | simp [toV,toVL,V.cellsL,cellsS]
theorem refl_csz (c:C) (x:den c):cszS (refl c x) = some (csz c):=by
 cases c <;> rfl
theorem refl_cells (c:C) (x:den c):toVL (cellsS (refl c x)) = (enc c x).cellsL:=by
 rw [cellsS_V (refl_csz c x),refl_enc]
theorem refl_noLocS (c:C) (x:den c):noLocS (refl c x) = true:=by
 cases c <;> rfl
theorem constC_noLoc (v:Value):(constC v).noLoc = true:=by
 unfold constC
 split <;> try (simp [V.noLoc,V.noLocL]; done)
 split <;> simp [V.noLoc]
theorem noLocL_of {l:List V} (h:∀ v ∈ l,v.noLoc = true):V.noLocL l = true:=by
 induction l with
 | nil=>rfl
 | cons x l ih=>simp [V.noLocL,h x (by simp),ih fun v hv=>h v (by simp [hv])]
theorem constV_noLoc (v:Value):(constV v).noLoc = true:=by
 unfold constV
 split
 ·split
  ·simp only [V.noLoc]
   refine noLocL_of fun v hv=>?_
   obtain ⟨x,_,rfl⟩:=List.mem_map.1 hv
   exact constC_noLoc x
  ·rfl
 ·simp only [V.noLoc]
  refine noLocL_of fun v hv=>?_
  obtain ⟨x,_,rfl⟩:=List.mem_map.1 hv
  exact constC_noLoc x
 ·exact constC_noLoc _
theorem gel_noLoc (g off:Nat):(toV (.gel g off)).noLoc = true:=by
 simp only [toV]
 split
 ·simp only [V.noLoc]
  refine noLocL_of fun v hv=>?_
  obtain ⟨x,_,rfl⟩:=List.mem_map.1 hv
  exact constV_noLoc x
 ·rfl
mutual
theorem noLocS_V:∀ s:S,noLocS s = true→(toV s).noLoc = true
 | .any,_=>by simp [toV,V.noLoc]
 | .un,_=>by simp [toV,V.noLoc]
 | .int _ _,_=>by simp [toV,V.noLoc]
 | .bool _,_=>by simp [toV,V.noLoc]
 | .str _,_=>by simp [toV,V.noLoc]
 | .agg cs,h=>by simp only [noLocS] at h; simp only [toV,V.noLoc]; exact noLocSL_V cs h
 | .tup cs,h=>by simp only [noLocS] at h; simp only [toV,V.noLoc]; exact noLocSL_V cs h
 | .loc _ _,h=>by simp [noLocS] at h
 | .loco _ _ _ _,h=>by simp [noLocS] at h
 | .elt cs _,h=>by simp only [noLocS] at h; simp only [toV,V.noLoc]; exact noLocSL_V cs h
 | .gel g off,_=>gel_noLoc g off
 | .nilp,_=>by simp [toV,V.noLoc]
 | .lst c l,_=>by simp only [toV,V.noLoc]; exact noLocL_map' (enc_noLoc c) l
 | .rows vs,h=>by simp only [noLocS] at h; simp only [toV,V.noLoc]; exact noLocSL_V vs h
 | .fn _ a b,h=>by
  simp only [noLocS,Bool.and_eq_true] at h; simp only [toV,V.noLoc,Bool.and_eq_true]
  exact ⟨noLocSL_V a h.1,noLocSL_V b h.2⟩
 | .nilfn,_=>by simp [toV,V.noLoc]
 | .iface _ v,h=>by simp only [noLocS] at h; simp only [toV,V.noLoc]; exact noLocS_V v h
 | .nilif,_=>by simp [toV,V.noLoc]
 | .mref _,h=>by simp [noLocS] at h
 | .nilm,_=>by simp [toV,V.noLoc]
 | .ptr _ _ _,_=>by simp [toV,V.noLoc]
 | .ivd x,_=>by simp only [toV]; exact noLoc_iv x
theorem noLocSL_V:∀ cs:List S,noLocSL cs = true→V.noLocL (toVL cs) = true
 | [],_=>by simp [toVL,V.noLocL]
 | c :: cs,h=>by
  simp only [noLocSL,Bool.and_eq_true] at h
  simp only [toVL,V.noLocL,Bool.and_eq_true]
  exact ⟨noLocS_V c h.1,noLocSL_V cs h.2⟩
end
theorem encM_noLoc {kc vc:C} (l:List (den kc × den vc)):V.noLocL (encM (enc kc) (enc vc) l) = true:=by
 refine noLocL_of fun v hv=>?_
 obtain ⟨x,_,rfl⟩:=List.mem_map.1 hv
 simp [V.noLoc,V.noLocL,enc_noLoc]
theorem noLocB_V {B:SBox} (h:noLocB B = true):V.noLocL (toBox B).cells = true:=by
 cases B with
 | cells cs ty=>exact noLocSL_V cs h
 | map mt kc vc l=>exact encM_noLoc l
theorem toSt_put {ro:RO} {m:Mm} {d:Nat} {v:S} {tk:Tk} (ho:ro.own d = true):toSt ro ⟨m.sl.set d (v,tk),m.bx⟩ = (toSt ro m).put (some d) (toV v) tk:=by
 have hb:∀ i,getB ro ⟨m.sl.set d (v,tk),m.bx⟩ i = getB ro m i:=fun i=>rfl
 have hs:∀ s,getS ro ⟨m.sl.set d (v,tk),m.bx⟩ s = if s = d then (v,tk) else getS ro m s:=by
  intro s
  unfold getS
  by_cases h:s = d
  ·subst h; rw [ho,if_pos rfl]; simp [T.get_set]
  ·rw [if_neg h]; simp [T.get_set,h]
 unfold toSt St.put
 simp only [hb,hs]
 congr 1
 funext s
 unfold upd
 split <;> rfl
variable {β:Type}
theorem putX_sound {ro:RO} {m:Mm} {dst:Option Nat} {v:S} {tk:Tk} {k:Mm→Option β} {r:β} (h:putX ro m dst v tk k = some r) :
  ∃ m',(toSt ro m).put dst (toV v) tk = toSt ro m'∧k m' = some r:=by
 unfold putX at h
 split at h
 ·exact ⟨m,rfl,h⟩
 ·rename_i d
  obtain ⟨h1,h2⟩:=condS h
  exact ⟨_,(toSt_put h1).symm,h2⟩
section
variable {P:Program} {code:TypeId→Option C} {ro:RO} {m:Mm} {r:β} {K:S→Option β} {Kp:V→Prop} {K2:S→Tk→Option β} {K2p:V→Tk→Prop}
theorem addI_spec {k:IntKind} {a b n:Int} (h:addI k a b = some n):InR k (a + b)∧n = a + b:=by
 obtain ⟨h1,h2⟩:=iteS h; cases h2; exact ⟨h1,rfl⟩
theorem subI_spec {k:IntKind} {a b n:Int} (h:subI k a b = some n):InR k (a - b)∧n = a - b:=by
 obtain ⟨h1,h2⟩:=iteS h; cases h2; exact ⟨h1,rfl⟩
theorem mulI_spec {k:IntKind} {a b n:Int} (h:mulI k a b = some n):InR k (a * b)∧n = a * b:=by
 obtain ⟨h1,h2⟩:=iteS h; cases h2; exact ⟨h1,rfl⟩
theorem quoI_spec {k:IntKind} {a b n:Int} (h:quoI k a b = some n):(b ≠ 0∧InR k (a.tdiv b))∧n = a.tdiv b:=by
 obtain ⟨h1,h2⟩:=iteS h; cases h2; exact ⟨h1,rfl⟩
theorem remI_spec {a b n:Int} (h:remI a b = some n):b ≠ 0∧n = a.tmod b:=by
 obtain ⟨h1,h2⟩:=iteS h; cases h2; exact ⟨h1,rfl⟩
theorem catS_spec {s t n:List UInt8} (h:catS s t = some n):s.length + t.length ≤ maxLen∧n = s++t:=by
 obtain ⟨h1,h2⟩:=iteS h; cases h2; exact ⟨h1,rfl⟩
theorem slc_spec {α:Type} {l q:List α} {lo hi:Int} (h:slc l lo hi = some q):(0 ≤ lo∧lo ≤ hi∧hi ≤ l.length)∧q = (l.take hi.toNat).drop lo.toNat:=by
 obtain ⟨h1,h2⟩:=iteS h; cases h2; exact ⟨h1,rfl⟩
theorem idx_spec {α:Type} {l:List α} {i:Int} {x:α} (h:idx l i = some x):0 ≤ i∧i < l.length∧l[i.toNat]? = some x:=by
 obtain ⟨h1,h2⟩:=iteS h
 have:=(List.getElem?_eq_some_iff.1 h2).1
 exact ⟨h1,by omega,h2⟩
theorem unreflL_V {c:C}:∀ {ss:List S} {l:List (den c)},unreflL c ss = some l→toVL ss = l.map (enc c)
 | [],l,h=>by simp only [unreflL,Option.some.injEq] at h; subst h; simp [toVL]
 | s :: ss,l,h=>by
  simp only [unreflL] at h
  split at h
  ·rename_i x hx
   split at h
   ·rename_i xs hxs
    cases h
    simp only [toVL,List.map_cons,unrefl_enc hx,unreflL_V hxs]
   ·cases h
  ·cases h
theorem tblA_spec {c:C} {g off n:Nat} {x:den c} (h:tblA c g off n = some x):∃ vs,GL g = some vs∧off + n ≤ vs.length∧V.agg (((vs.map constV).drop off).take n) = enc c x:=by
 unfold tblA at h
 split at h
 ·rename_i vs hg
  obtain ⟨h1,h2⟩:=iteS h
  refine ⟨vs,hg,h1,?_⟩
  rw [← unrefl_enc h2]
  simp only [toV,toVL_seg,map_constXV]
 ·cases h
theorem tbl1_spec {c:C} {g off:Nat} {x:den c} (h:tbl1 c g off = some x):∃ vs,GL g = some vs∧(vs.map constV)[off]? = some (enc c x):=by
 unfold tbl1 at h
 split at h
 ·rename_i vs hg
  split at h
  ·rename_i s hs
   refine ⟨vs,hg,?_⟩
   rw [← map_constXV,toVL_get,hs,Option.map_some,unrefl_enc h]
  ·cases h
 ·cases h
theorem loadX_sound {t:TypeId} {x:S} (hK:∀ s,K s = some r→Kp (toV s)) (h:loadX P code ro m t x K = some r):loadVC P t (toSt ro m).box (toV x) Kp:=by
 unfold loadX at h
 split at h
 ·rename_i cs off ha
  split at h
  ·rename_i n hs
   obtain ⟨h1,h2⟩:=condS h
   simp only [toV,loadVC,ha,hs]
   refine ⟨by rw [toVL_length]; exact Nat.le_of_ble_eq_true h1,?_⟩
   have:=hK _ h2
   simpa only [toV,toVL_seg] using this
  ·cases h
 ·rename_i cs off ha
  split at h
  ·rename_i c hc
   simp only [toV,loadVC,ha,toVL_get,hc,Option.map_some]
   exact hK _ h
  ·cases h
 ·rename_i i off ha
  split at h
  ·rename_i cs ty n hB hs
   obtain ⟨h1,h2⟩:=condS h
   simp only [Bool.and_eq_true] at h1
   have hb:(toSt ro m).box i = some ⟨toVL cs,ty⟩:=by show (getB ro m i).map toBox = _; rw [hB]; rfl
   simp only [toV,loadVC,ha,hb,hs]
   refine ⟨Nat.le_of_ble_eq_true h1.1,by rw [toVL_length]; exact Nat.le_of_ble_eq_true h1.2,?_⟩
   have:=hK _ h2
   simpa only [toV,toVL_seg] using this
  ·cases h
 ·rename_i i off ha
  split at h
  ·rename_i cs ty hB
   obtain ⟨h1,h2⟩:=condS h
   have hb:(toSt ro m).box i = some ⟨toVL cs,ty⟩:=by show (getB ro m i).map toBox = _; rw [hB]; rfl
   split at h2
   ·rename_i c hc
    simp only [toV,loadVC,ha,hb,toVL_get,hc,Option.map_some]
    exact ⟨Nat.le_of_ble_eq_true h1,hK _ h2⟩
   ·cases h2
  ·cases h
 ·rename_i i a n ix ha
  split at h
  ·rename_i cs ty c hB hc
   obtain ⟨h1,h2⟩:=condS h
   simp only [Bool.and_eq_true] at h1
   have hb:(toSt ro m).box i = some ⟨toVL cs,ty⟩:=by show (getB ro m i).map toBox = _; rw [hB]; rfl
   split at h2
   ·rename_i l hl
    obtain ⟨y,h3,h4⟩:=bind_some h2
    obtain ⟨q1,q2,q3⟩:=idx_spec h3
    have hle:=Nat.le_of_ble_eq_true h1.2
    have hseg:=unreflL_V hl
    have hlen:l.length = n:=by
     have:=congrArg List.length hseg
     rw [toVL_length,List.length_map,List.length_take,List.length_drop] at this
     omega
    have hget:(toVL cs)[a + ix.toNat]? = some (enc c y):=by
     have:((toVL ((cs.drop a).take n)))[ix.toNat]? = some (enc c y):=by rw [hseg,List.getElem?_map,q3]; rfl
     rw [toVL_seg,List.getElem?_take,if_pos (by omega),List.getElem?_drop] at this
     exact this
    simp only [toV,loadVC,ha,hb,hget]
    refine ⟨Nat.le_of_ble_eq_true h1.1,?_⟩
    rw [← refl_enc]
    exact hK _ h4
   ·cases h2
  ·cases h
 ·rename_i g off ha
  split at h
  ·rename_i n c hs hc
   obtain ⟨y,h1,h2⟩:=bind_some h
   obtain ⟨vs,q1,q2,q3⟩:=tblA_spec h1
   simp only [toV,q1,loadVC,ha,hs]
   refine ⟨by simpa using q2,?_⟩
   rw [q3,← refl_enc]
   exact hK _ h2
  ·cases h
 ·rename_i g off ha
  split at h
  ·rename_i c hc
   obtain ⟨y,h1,h2⟩:=bind_some h
   obtain ⟨vs,q1,q2⟩:=tbl1_spec h1
   simp only [toV,q1,loadVC,ha,q2]
   rw [← refl_enc]
   exact hK _ h2
  ·cases h
 ·cases h
theorem intX_sound {op:BinOp} {k:IntKind} {a b:Int} (hK:∀ s,K s = some r→Kp (toV s)) (h:intX op k a b K = some r):intVC op k a b Kp:=by
 have hK':∀ s v,K s = some r→toV s = v→Kp v:=fun s v h e=>e ▸ hK s h
 cases op <;> simp only [intX,reduceCtorEq] at h
 case add=>obtain ⟨n,h1,h2⟩:=bind_some h; obtain ⟨q1,rfl⟩:=addI_spec h1; exact ⟨q1,hK' _ _ h2 (by simp [toV])⟩
 case sub=>obtain ⟨n,h1,h2⟩:=bind_some h; obtain ⟨q1,rfl⟩:=subI_spec h1; exact ⟨q1,hK' _ _ h2 (by simp [toV])⟩
 case mul=>obtain ⟨n,h1,h2⟩:=bind_some h; obtain ⟨q1,rfl⟩:=mulI_spec h1; exact ⟨q1,hK' _ _ h2 (by simp [toV])⟩
 case quo=>obtain ⟨n,h1,h2⟩:=bind_some h; obtain ⟨q1,rfl⟩:=quoI_spec h1; exact ⟨q1.1,q1.2,hK' _ _ h2 (by simp [toV])⟩
 case rem=>obtain ⟨n,h1,h2⟩:=bind_some h; obtain ⟨q1,rfl⟩:=remI_spec h1; exact ⟨q1,hK' _ _ h2 (by simp [toV])⟩
 all_goals exact hK' _ _ h (by simp [toV])
theorem strX_sound {op:BinOp} {a b:List UInt8} (hK:∀ s,K s = some r→Kp (toV s)) (h:strX op a b K = some r):strVC op a b Kp:=by
 have hK':∀ s v,K s = some r→toV s = v→Kp v:=fun s v h e=>e ▸ hK s h
 cases op <;> simp only [strX,reduceCtorEq] at h
 case add=>obtain ⟨n,h1,h2⟩:=bind_some h; obtain ⟨q1,rfl⟩:=catS_spec h1; exact ⟨q1,hK' _ _ h2 (by simp [toV])⟩
 all_goals exact hK' _ _ h (by simp [toV])
theorem cellEqS_eq {a b:S} {k k':CK} (ha:kindS a = some k) (hb:kindS b = some k'):cellEq (toV a) (toV b) = cellEqS a b:=by
 cases a <;> simp only [kindS,reduceCtorEq] at ha <;> cases b <;> simp only [kindS,reduceCtorEq] at hb <;> simp [toV,cellEq,cellEqS]
theorem ckEq_spec {a b:CK} (h:ckEq a b = true):a = b:=by
 cases a <;> cases b <;> simp_all [ckEq]
theorem kindV_S {a:S} {k:CK} (h:kindS a = some k):kindV (toV a) = some k:=by
 cases a <;> simp only [kindS,reduceCtorEq] at h <;> simpa [toV,kindV] using h
theorem kindsS_cons {k:CK} {ks:List CK} {c:S} {cs:List S} (h:kindsS (k :: ks) (c :: cs) = true):kindS c = some k∧kindsS ks cs = true:=by
 simp only [kindsS,Bool.and_eq_true] at h
 refine ⟨?_,h.2⟩
 have h1:=h.1
 split at h1
 ·rename_i k' hk; rw [hk,ckEq_spec h1]
 ·cases h1
theorem kindsS_V:∀ {ks:List CK} {cs:List S},kindsS ks cs = true→kindsOK ks (toVL cs)
 | [],[],_=>by simp [toVL,kindsOK]
 | [],_ :: _,h=>by simp [kindsS] at h
 | _ :: _,[],h=>by simp [kindsS] at h
 | k :: ks,c :: cs,h=>by
  obtain ⟨h1,h2⟩:=kindsS_cons h
  simp only [toVL,kindsOK]
  exact ⟨kindV_S h1,kindsS_V h2⟩
theorem eqS_V:∀ {ks:List CK} {cs ds:List S},kindsS ks cs = true→kindsS ks ds = true→eqV (toVL cs) (toVL ds) = eqS cs ds
 | [],[],[],_,_=>by simp [toVL,eqV,eqS]
 | [],_ :: _,_,h,_=>by simp [kindsS] at h
 | [],[],_ :: _,_,h=>by simp [kindsS] at h
 | _ :: _,[],_,h,_=>by simp [kindsS] at h
 | _ :: _,_ :: _,[],_,h=>by simp [kindsS] at h
 | k :: ks,c :: cs,d :: ds,h1,h2=>by
  obtain ⟨a1,a2⟩:=kindsS_cons h1
  obtain ⟨b1,b2⟩:=kindsS_cons h2
  have ih:=eqS_V a2 b2
  cases cs with
  | nil =>
   cases ds with
   | nil=>simp only [toVL,eqV,eqS]; exact cellEqS_eq a1 b1
   | cons d' ds=>cases ks <;> simp [kindsS] at a2 b2
  | cons c' cs =>
   cases ds with
   | nil=>cases ks <;> simp [kindsS] at a2 b2
   | cons d' ds =>
    simp only [toVL] at ih ⊢
    rw [eqV,eqS,ih,cellEqS_eq a1 b1]
    ·simp
    ·simp
theorem binX_sound {op:BinOp} {xT:TypeId} {a b:S} (hK:∀ s,K s = some r→Kp (toV s)) (h:binX P op xT a b K = some r):binVC P op xT (toV a) (toV b) Kp:=by
 have hK':∀ s v,K s = some r→toV s = v→Kp v:=fun s v h e=>e ▸ hK s h
 unfold binX at h
 split at h
 ·rename_i k x k' y
  simp only [toV,binVC]
  cases hs:isSh op with
  | true =>
   rw [hs] at h
   simp only [cond_true] at h
   right
   unfold shX at h
   unfold shVC
   cases op <;> simp only [isSh,Bool.false_eq_true] at hs
   ·obtain ⟨n,h1,h2⟩:=bind_some h
    obtain ⟨h3,h4⟩:=iteS h1
    cases h4
    exact ⟨h3,hK' _ _ h2 (by simp [toV])⟩
   ·obtain ⟨n,h1,h2⟩:=bind_some h
    obtain ⟨h3,h4⟩:=iteS h1
    cases h4
    exact ⟨h3,hK' _ _ h2 (by simp [toV])⟩
  | false =>
   rw [hs] at h
   simp only [cond_false] at h
   obtain ⟨h1,h2⟩:=iteS h
   exact .inl ⟨h1,intX_sound hK h2⟩
 ·simp only [toV,binVC]
  exact strX_sound hK h
 ·simp only [toV,binVC]
  split at h
  ·rename_i hb; simp only [hb]; exact hK' _ _ h (by simp [toV])
  ·rename_i hb; simp only [hb]; exact hK' _ _ h (by simp [toV])
  ·cases h
 ·rename_i cs ds
  simp only [toV,binVC]
  split at h
  ·rename_i ks hk
   obtain ⟨h1,h2⟩:=condS h
   simp only [Bool.and_eq_true] at h1
   simp only [hk]
   exact ⟨kindsS_V h1.1,kindsS_V h1.2,hK' _ _ h2 (by simp [toV,eqS_V h1.1 h1.2])⟩
  ·rename_i ks hk
   obtain ⟨h1,h2⟩:=condS h
   simp only [Bool.and_eq_true] at h1
   simp only [hk]
   exact ⟨kindsS_V h1.1,kindsS_V h1.2,hK' _ _ h2 (by simp [toV,eqS_V h1.1 h1.2])⟩
  ·cases h
 ·cases h
theorem unX_sound {op:UnOp} {x:S} (hK:∀ s,K s = some r→Kp (toV s)) (h:unX op x K = some r):unVC op (toV x) Kp:=by
 have hK':∀ s v,K s = some r→toV s = v→Kp v:=fun s v h e=>e ▸ hK s h
 unfold unX at h
 split at h
 ·simp only [toV,unVC]; exact hK' _ _ h (by simp [toV])
 ·obtain ⟨n,h1,h2⟩:=bind_some h
  obtain ⟨q1,rfl⟩:=subI_spec h1
  simp only [toV,unVC]; exact ⟨q1,hK' _ _ h2 (by simp [toV])⟩
 ·cases h
theorem bytesI_V (s:List UInt8):(bytesI s).map (enc .u8) = bytesV s:=by
 simp [bytesI,bytesV,enc,enc_u8]
theorem toBytes_V {l:List Int} {s:List UInt8} (h:toBytes l = some s):l.map (enc .u8) = bytesV s:=by
 obtain ⟨h1,h2⟩:=iteS h
 cases h2
 simp only [bytesV,List.map_map]
 refine List.map_congr_left fun n hn=>?_
 have:=List.all_eq_true.1 h1 n hn
 simp only [Bool.and_eq_true,decide_eq_true_eq] at this
 simp only [enc,enc_u8,Function.comp]
 congr 1
 have h3:n.toNat < 256:=by omega
 rw [UInt8.toNat_ofNat',Nat.mod_eq_of_lt h3]
 omega
theorem convX_sound {s d:TypeId} {x:S} (hK:∀ s,K s = some r→Kp (toV s)) (h:convX P s d x K = some r):convVC P s d (toV x) Kp:=by
 have hK':∀ s v,K s = some r→toV s = v→Kp v:=fun s v h e=>e ▸ hK s h
 unfold convX at h
 split at h
 ·rename_i h1 h2
  simp only [toV,convVC,h1,h2]; exact hK' _ _ h (by simp [toV])
 ·rename_i h1 h2
  simp only [toV,convVC,h1,h2]; exact hK' _ _ h (by simp [toV])
 ·rename_i h1 h2
  split at h
  ·rename_i e he
   split at h
   ·rename_i hb
    simp only [toV,convVC,h1,h2,he,hb]
    refine hK' _ _ h ?_
    simp only [toV]
    rw [bytesI_V]
   ·cases h
  ·cases h
 ·rename_i h1 h2
  split at h
  ·rename_i e he
   split at h
   ·rename_i hb
    obtain ⟨y,h3,h4⟩:=bind_some h
    simp only [toV,convVC,h1,h2,he,hb]
    exact ⟨y,toBytes_V h3,hK' _ _ h4 (by simp [toV])⟩
   ·cases h
  ·cases h
 ·cases h
theorem bndX_sound {x:Option Operand} {d:Nat} {Ki:Int→Option β} {Kn:Nat→Prop} (hK:∀ i,Ki i = some r→0 ≤ i∧Kn i.toNat) (h:bndX ro m x d Ki = some r):bndVC (toSt ro m) x d Kn:=by
 unfold bndX at h
 unfold bndVC
 cases x with
 | none=>have:=(hK _ h).2; simpa using this
 | some x =>
  simp only at h ⊢
  rw [← evalX_V]
  split at h
  ·rename_i k i hi; simp only [hi,toV]; exact hK _ h
  ·cases h
theorem elemC_spec {t:TypeId} {c:C} {e:TypeId} {n:Nat} (h:elemC P t c = some (e,n)):sliceT P t = some e∧sizeT P e = some n∧n = csz c:=by
 unfold elemC at h
 split at h
 ·rename_i e' he
  split at h
  ·rename_i n' hn
   obtain ⟨h1,h2⟩:=condS h
   cases h2
   exact ⟨he,hn,Nat.eq_of_beq_eq_true h1⟩
  ·cases h
 ·cases h
theorem rowsOK_lst (c:C) (l:List (den c)):rowsOK (csz c) (l.map (enc c)):=by
 intro v hv
 obtain ⟨x,_,rfl⟩:=List.mem_map.1 hv
 exact enc_csize c x
theorem sliceX_sound {t:TypeId} {x:S} {lo hi mx:Option Operand} {dst:Option Nat} (hK:∀ s tk,K2 s tk = some r→K2p (toV s) tk) (h:sliceX P ro m t x lo hi mx dst K2 = some r) :
  sliceVC P t (toSt ro m) (toV x) lo hi mx dst K2p:=by
 have hK':∀ s tk v,K2 s tk = some r→toV s = v→K2p v tk:=fun s tk v h e=>e ▸ hK s tk h
 unfold sliceX at h
 split at h
 ·rename_i s
  split at h
  ·rename_i hb
   simp only [toV,sliceVC,hb]
   refine bndX_sound (fun a ha=>?_) h
   have hb2:bndVC (toSt ro m) hi _ _:=bndX_sound (Kn:=fun h=>a.toNat ≤ h∧h ≤ s.length∧K2p (.str ((List.take h s).drop a.toNat)) none) (fun b hb=>?_) ha
   ·refine ⟨?_,hb2⟩
    rcases hi with _ | hi
    ·simp only [bndX] at ha
     obtain ⟨y,h1,_⟩:=bind_some ha
     exact (slc_spec h1).1.1
    ·simp only [bndX] at ha
     split at ha
     ·obtain ⟨y,h1,_⟩:=bind_some ha
      exact (slc_spec h1).1.1
     ·cases ha
   ·obtain ⟨y,h1,h2⟩:=bind_some hb
    obtain ⟨⟨q1,q2,q3⟩,rfl⟩:=slc_spec h1
    exact ⟨by omega,by omega,by omega,hK' _ _ _ h2 (by simp [toV])⟩
  ·cases h
 ·rename_i c l
  split at h
  ·rename_i en he
   obtain ⟨e,n⟩:=en
   obtain ⟨e1,e2,rfl⟩:=elemC_spec he
   simp only [toV,sliceVC,e1,e2]
   refine ⟨rowsOK_lst c l,?_⟩
   refine bndX_sound (fun a ha=>?_) h
   rw [List.length_map]
   have hb2:bndVC (toSt ro m) hi _ _:=bndX_sound (Kn:=fun h=>a.toNat ≤ h∧h ≤ l.length∧K2p (.list ((List.take h (l.map (enc c))).drop a.toNat)) none) (fun b hb=>?_) ha
   ·refine ⟨?_,hb2⟩
    rcases hi with _ | hi
    ·simp only [bndX] at ha
     obtain ⟨y,h1,_⟩:=bind_some ha
     exact (slc_spec h1).1.1
    ·simp only [bndX] at ha
     split at ha
     ·obtain ⟨y,h1,_⟩:=bind_some ha
      exact (slc_spec h1).1.1
     ·cases ha
   ·obtain ⟨y,h1,h2⟩:=bind_some hb
    obtain ⟨⟨q1,q2,q3⟩,rfl⟩:=slc_spec h1
    exact ⟨by omega,by omega,by omega,hK' _ _ _ h2 (by simp [toV,List.map_drop,List.map_take])⟩
  ·cases h
 ·rename_i c l mx
  split at h
  ·rename_i e n hi he
   obtain ⟨e1,e2,rfl⟩:=elemC_spec he
   simp only [toV,sliceVC,e1,e2]
   refine ⟨rowsOK_lst c l,?_⟩
   refine bndX_sound (fun a ha=>?_) h
   rw [List.length_map]
   have h0:0 ≤ a:=by
    simp only [bndX] at ha
    split at ha
    ·split at ha
     ·rcases brS ha with ⟨_,ha⟩ | ⟨_,ha⟩
      ·obtain ⟨y,h1,_⟩:=bind_some ha
       exact (slc_spec h1).1.1
      ·cases ha
     ·cases ha
    ·cases ha
   refine ⟨h0,bndX_sound (fun b hb=>?_) ha⟩
   have hb':=hb
   simp only [bndX] at hb
   split at hb
   ·rename_i kk i hi'
    rcases brS hb with ⟨q0,hb⟩ | ⟨_,hb⟩
    ·obtain ⟨y,h1,h2⟩:=bind_some hb
     obtain ⟨⟨q1,q2,q3⟩,rfl⟩:=slc_spec h1
     simp only [decide_eq_true_eq] at q0
     subst q0
     refine ⟨by omega,?_⟩
     unfold bndVC
     simp only
     rw [← evalX_V,hi']
     simp only [toV]
     exact ⟨by omega,trivial,by omega,by omega,hK' _ _ _ h2 (by simp [toV,List.map_drop,List.map_take])⟩
    ·cases hb
   ·cases hb
  ·cases h
 ·cases h
theorem tblL_spec {c:C} {g n:Nat}:∀ {k off:Nat} {l:List (den c)},tblL c g n k off = some l→0 < k→∃ vs,GL g = some vs∧off + k * n ≤ vs.length∧chunkV n k ((vs.map constV).drop off) = l.map (enc c)
 | 0,_,_,_,h0=>absurd h0 (by omega)
 | k + 1,off,l,h,_=>by
  simp only [tblL] at h
  split at h
  ·rename_i x l' h1 h2
   cases h
   obtain ⟨vs,q1,q2,q3⟩:=tblA_spec h1
   by_cases hk:0 < k
   ·obtain ⟨vs',r1,r2,r3⟩:=tblL_spec h2 hk
    rw [q1] at r1; cases r1
    refine ⟨vs,q1,by rw [Nat.add_mul]; omega,?_⟩
    simp only [chunkV,List.map_cons,q3,List.drop_drop,r3]
   ·obtain rfl:k = 0:=by omega
    simp only [tblL,Option.some.injEq] at h2
    subst h2
    refine ⟨vs,q1,by omega,?_⟩
    simp only [chunkV,List.map_cons,q3,List.map_nil]
  ·cases h
theorem gsliceX_sound {t:TypeId} {x:S} {lo hi mx:Option Operand} {dst:Option Nat} (hK:∀ s tk,K2 s tk = some r→K2p (toV s) tk) (h:gsliceX P code ro m t x lo hi mx dst K2 = some r) :
  sliceVC P t (toSt ro m) (toV x) lo hi mx dst K2p:=by
 unfold gsliceX at h
 split at h
 ·rename_i g a
  split at h
  ·rename_i len e hT
   split at h
   ·rename_i n c hs hc
    obtain ⟨h1,h2⟩:=condS h
    simp only [Bool.and_eq_true] at h1
    obtain ⟨y,h3,h4⟩:=bind_some h2
    have hl0:0 < len:=Nat.le_of_ble_eq_true h1.2
    obtain ⟨vs,q1,q2,q3⟩:=tblL_spec h3 hl0
    simp only [toV,q1,sliceVC,hT,hs]
    refine ⟨by simpa using q2,Nat.le_of_ble_eq_true h1.1.2,hl0,?_⟩
    rw [q3]
    have:=hK _ _ h4
    simpa only [toV] using this
   ·cases h
  ·cases h
 ·exact sliceX_sound hK h
theorem faddrX_sound {s:TypeId} {i:Nat} {x:S} (hK:∀ s,K s = some r→Kp (toV s)) (h:faddrX P s i x K = some r):faddrVC P s i (toV x) Kp:=by
 have hK':∀ s v,K s = some r→toV s = v→Kp v:=fun s v h e=>e ▸ hK s h
 unfold faddrX at h
 unfold faddrVC
 split at h
 ·rename_i off t hf
  simp only [hf]
  split at h
  ·rename_i n hs
   simp only [hs]
   cases hn:Nat.beq n 0 with
   | true=>rw [hn] at h; cases h
   | false =>
    rw [hn] at h
    have hn':n ≠ 0:=fun e=>by subst e; cases hn
    simp only [cond_false] at h
    refine ⟨hn',?_⟩
    split at h
    ·simp only [toV]; exact hK' _ _ h (by simp [toV])
    ·simp only [toV]; exact hK' _ _ h (by simp [toV])
    ·rename_i g a
     split at h
     ·rename_i vs hv
      simp only [toV,hv]
      exact hK' _ _ h (by simp [toV,hv])
     ·cases h
    ·cases h
  ·cases h
 ·cases h
end
end Go.X
