import Derived.Test.YtjcbpfhlgebgdaaE13F
import Derived.Test.YtjcbpfhlgebgdaaE16
import Derived.KernelRfl
set_option linter.unusedSimpArgs false
set_option linter.unusedVariables false
namespace Go.X
open Go.Eng
open Go.RowKit
structure ID where
  Node : Int
  Seq : Int
  Off : Int
  deriving DecidableEq, Inhabited, Repr
structure Contact where
  From : Int
  To : Int
  Start : Int
  End : Int
  Rate : Int
  Delay : Int
  deriving DecidableEq, Inhabited, Repr
structure Outc where
  Tick : Int
  Node : Int
  Kind : Int
  ID : ID
  Other : Int
  deriving DecidableEq, Inhabited, Repr
structure EID where
  Low : Int
  High : Int
  Service : Int
  deriving DecidableEq, Inhabited, Repr
structure Word where
  At : Int
  Key : List UInt8
  Text : List UInt8
  deriving DecidableEq, Inhabited, Repr
structure Row where
  At : Int
  Words : List (Word)
  deriving DecidableEq, Inhabited, Repr
structure Fault where
  Err : Int
  At : Int
  deriving DecidableEq, Inhabited, Repr
structure Mrk where
  ID : ID
  Until : Int
  deriving DecidableEq, Inhabited, Repr
structure Denial where
  ID : ID
  Node : Int
  Until : Int
  deriving DecidableEq, Inhabited, Repr
structure Route where
  Contacts : List (Int)
  Arrival : Int
  deriving DecidableEq, Inhabited, Repr
structure Bundle where
  ID : ID
  Dest : Int
  Prio : Int
  Born : Int
  Life : Int
  Total : Int
  Data : List UInt8
  deriving DecidableEq, Inhabited, Repr
structure Command where
  Kind : Int
  Node : Int
  Other : Int
  N : Int
  At : Int
  By : Int
  Bundle : Bundle
  deriving DecidableEq, Inhabited, Repr
structure W3 where
  a : Int
  b : Int
  c : Int
  deriving DecidableEq, Inhabited, Repr
structure Config where
  Node : Int
  Quota : Int
  Largest : Int
  Window : Int
  Low : Int
  Retry : Int
  RetryMax : Int
  Bypass : Int
  Weights : W3
  RateN : Int
  RateD : Int
  Burst : Int
  Blocks : Int
  Rate : Int
  deriving DecidableEq, Inhabited, Repr
structure Script where
  Configs : List (Config)
  Plan : List (Contact)
  Commands : List (Command)
  deriving DecidableEq, Inhabited, Repr
structure Pair where
  a : Int
  b : Int
  deriving DecidableEq, Inhabited, Repr
structure Face where
  word : List UInt8
  uses : Int
  deriving DecidableEq, Inhabited, Repr
structure Use where
  word : List UInt8
  node : Bool
  other : Bool
  low : Int
  n : Int
  at_ : Int
  by_ : Int
  bndl : Bool
  deriving DecidableEq, Inhabited, Repr
structure Cursor where
  left : List UInt8
  ok : Bool
  deriving DecidableEq, Inhabited, Repr
structure Scanner where
  s : List UInt8
  pos : Int
  deriving DecidableEq, Inhabited, Repr
structure Key where
  id : ID
  node : Int
  deriving DecidableEq, Inhabited, Repr
inductive IV where
  | int (t : Nat) (n : Int)
  | id (t : Nat) (x : ID)
  deriving DecidableEq, Inhabited, Repr
inductive C where
  | i64 | u64 | i32 | u32 | u8 | i16 | u16 | i8 | bool | str | iv | a17_bool | a6_i64 | a7_i64 | a4_u64 | ID | Contact | Outc | EID | Word | Row | Fault | Mrk | Denial | Route | Bundle | Command | W3 | Config | Script | Pair | Face | Use | Cursor | Scanner | Key | l_W3 | l_Pair | l_i64 | l_u64 | l_u8 | l_bool | l_str | l_ID | l_Contact | l_Outc | l_EID | l_Word | l_Row | l_Mrk | l_Denial | l_Route | l_Bundle | l_Command | l_Config | l_Face | l_Use | l_l_Contact | l_l_i64 | l_iv
  deriving DecidableEq
@[reducible] def den : C → Type
  | .i64 => Int
  | .u64 => Int
  | .i32 => Int
  | .u32 => Int
  | .u8 => Int
  | .i16 => Int
  | .u16 => Int
  | .i8 => Int
  | .bool => Bool
  | .str => List UInt8
  | .iv => IV
  | .a17_bool => List Bool
  | .a6_i64 => List Int
  | .a7_i64 => List Int
  | .a4_u64 => List Int
  | .ID => ID
  | .Contact => Contact
  | .Outc => Outc
  | .EID => EID
  | .Word => Word
  | .Row => Row
  | .Fault => Fault
  | .Mrk => Mrk
  | .Denial => Denial
  | .Route => Route
  | .Bundle => Bundle
  | .Command => Command
  | .W3 => W3
  | .Config => Config
  | .Script => Script
  | .Pair => Pair
  | .Face => Face
  | .Use => Use
  | .Cursor => Cursor
  | .Scanner => Scanner
  | .Key => Key
  | .l_W3 => List (W3)
  | .l_Pair => List (Pair)
  | .l_i64 => List (Int)
  | .l_u64 => List (Int)
  | .l_u8 => List (Int)
  | .l_bool => List (Bool)
  | .l_str => List (List UInt8)
  | .l_ID => List (ID)
  | .l_Contact => List (Contact)
  | .l_Outc => List (Outc)
  | .l_EID => List (EID)
  | .l_Word => List (Word)
  | .l_Row => List (Row)
  | .l_Mrk => List (Mrk)
  | .l_Denial => List (Denial)
  | .l_Route => List (Route)
  | .l_Bundle => List (Bundle)
  | .l_Command => List (Command)
  | .l_Config => List (Config)
  | .l_Face => List (Face)
  | .l_Use => List (Use)
  | .l_l_Contact => List (List (Contact))
  | .l_l_i64 => List (List (Int))
  | .l_iv => List (IV)
def enc_i64 : Int → V := fun x => .int .i64 x
def enc_u64 : Int → V := fun x => .int .u64 x
def enc_i32 : Int → V := fun x => .int .i32 x
def enc_u32 : Int → V := fun x => .int .u32 x
def enc_u8 : Int → V := fun x => .int .u8 x
def enc_i16 : Int → V := fun x => .int .i16 x
def enc_u16 : Int → V := fun x => .int .u16 x
def enc_i8 : Int → V := fun x => .int .i8 x
def enc_bool : Bool → V := fun x => .bool x
def enc_str : List UInt8 → V := fun x => .str x
def enc_iv : IV → V
  | .int t n => .iface t (.int .i64 n)
  | .id t x => .iface t (.agg [.int .i64 x.Node, .int .u64 x.Seq, .int .i64 x.Off])
def enc_a17_bool : List Bool → V := fun x => .agg [.bool (x.getD 0 false), .bool (x.getD 1 false), .bool (x.getD 2 false), .bool (x.getD 3 false), .bool (x.getD 4 false), .bool (x.getD 5 false), .bool (x.getD 6 false), .bool (x.getD 7 false), .bool (x.getD 8 false), .bool (x.getD 9 false), .bool (x.getD 10 false), .bool (x.getD 11 false), .bool (x.getD 12 false), .bool (x.getD 13 false), .bool (x.getD 14 false), .bool (x.getD 15 false), .bool (x.getD 16 false)]
def enc_a6_i64 : List Int → V := fun x => .agg [.int .i64 (x.getD 0 0), .int .i64 (x.getD 1 0), .int .i64 (x.getD 2 0), .int .i64 (x.getD 3 0), .int .i64 (x.getD 4 0), .int .i64 (x.getD 5 0)]
def enc_a7_i64 : List Int → V := fun x => .agg [.int .i64 (x.getD 0 0), .int .i64 (x.getD 1 0), .int .i64 (x.getD 2 0), .int .i64 (x.getD 3 0), .int .i64 (x.getD 4 0), .int .i64 (x.getD 5 0), .int .i64 (x.getD 6 0)]
def enc_a4_u64 : List Int → V := fun x => .agg [.int .u64 (x.getD 0 0), .int .u64 (x.getD 1 0), .int .u64 (x.getD 2 0), .int .u64 (x.getD 3 0)]
def enc_ID : ID → V := fun x => .agg [.int .i64 x.Node, .int .u64 x.Seq, .int .i64 x.Off]
def enc_Contact : Contact → V := fun x => .agg [.int .i64 x.From, .int .i64 x.To, .int .i64 x.Start, .int .i64 x.End, .int .i64 x.Rate, .int .i64 x.Delay]
def enc_Outc : Outc → V := fun x => .agg [.int .i64 x.Tick, .int .i64 x.Node, .int .i64 x.Kind, .int .i64 x.ID.Node, .int .u64 x.ID.Seq, .int .i64 x.ID.Off, .int .i64 x.Other]
def enc_EID : EID → V := fun x => .agg [.int .i64 x.Low, .int .i64 x.High, .int .i64 x.Service]
def enc_Word : Word → V := fun x => .agg [.int .i64 x.At, .str x.Key, .str x.Text]
def enc_Fault : Fault → V := fun x => .agg [.int .i64 x.Err, .int .i64 x.At]
def enc_Mrk : Mrk → V := fun x => .agg [.int .i64 x.ID.Node, .int .u64 x.ID.Seq, .int .i64 x.ID.Off, .int .i64 x.Until]
def enc_Denial : Denial → V := fun x => .agg [.int .i64 x.ID.Node, .int .u64 x.ID.Seq, .int .i64 x.ID.Off, .int .i64 x.Node, .int .i64 x.Until]
def enc_Bundle : Bundle → V := fun x => .agg [.int .i64 x.ID.Node, .int .u64 x.ID.Seq, .int .i64 x.ID.Off, .int .i64 x.Dest, .int .i64 x.Prio, .int .i64 x.Born, .int .i64 x.Life, .int .i64 x.Total, .str x.Data]
def enc_Command : Command → V := fun x => .agg [.int .i64 x.Kind, .int .i64 x.Node, .int .i64 x.Other, .int .i64 x.N, .int .i64 x.At, .int .i64 x.By, .int .i64 x.Bundle.ID.Node, .int .u64 x.Bundle.ID.Seq, .int .i64 x.Bundle.ID.Off, .int .i64 x.Bundle.Dest, .int .i64 x.Bundle.Prio, .int .i64 x.Bundle.Born, .int .i64 x.Bundle.Life, .int .i64 x.Bundle.Total, .str x.Bundle.Data]
def enc_W3 : W3 → V := fun x => .agg [.int .i64 x.a, .int .i64 x.b, .int .i64 x.c]
def enc_Config : Config → V := fun x => .agg [.int .i64 x.Node, .int .u64 x.Quota, .int .u64 x.Largest, .int .u64 x.Window, .int .u64 x.Low, .int .i64 x.Retry, .int .i64 x.RetryMax, .int .i64 x.Bypass, .int .i64 x.Weights.a, .int .i64 x.Weights.b, .int .i64 x.Weights.c, .int .i64 x.RateN, .int .i64 x.RateD, .int .i64 x.Burst, .int .i64 x.Blocks, .int .i64 x.Rate]
def enc_Pair : Pair → V := fun x => .agg [.int .i64 x.a, .int .i64 x.b]
def enc_Face : Face → V := fun x => .agg [.str x.word, .int .i64 x.uses]
def enc_Use : Use → V := fun x => .agg [.str x.word, .bool x.node, .bool x.other, .int .i64 x.low, .int .i64 x.n, .int .i64 x.at_, .int .i64 x.by_, .bool x.bndl]
def enc_Cursor : Cursor → V := fun x => .agg [.str x.left, .bool x.ok]
def enc_Scanner : Scanner → V := fun x => .agg [.str x.s, .int .i64 x.pos]
def enc_Key : Key → V := fun x => .agg [.int .i64 x.id.Node, .int .u64 x.id.Seq, .int .i64 x.id.Off, .int .i64 x.node]
def enc_l_W3 : List (W3) → V := fun x => .list (x.map enc_W3)
def enc_l_Pair : List (Pair) → V := fun x => .list (x.map enc_Pair)
def enc_l_i64 : List (Int) → V := fun x => .list (x.map enc_i64)
def enc_l_u64 : List (Int) → V := fun x => .list (x.map enc_u64)
def enc_l_u8 : List (Int) → V := fun x => .list (x.map enc_u8)
def enc_l_bool : List (Bool) → V := fun x => .list (x.map enc_bool)
def enc_l_str : List (List UInt8) → V := fun x => .list (x.map enc_str)
def enc_l_ID : List (ID) → V := fun x => .list (x.map enc_ID)
def enc_l_Contact : List (Contact) → V := fun x => .list (x.map enc_Contact)
def enc_l_Outc : List (Outc) → V := fun x => .list (x.map enc_Outc)
def enc_l_EID : List (EID) → V := fun x => .list (x.map enc_EID)
def enc_l_Word : List (Word) → V := fun x => .list (x.map enc_Word)
def enc_l_Mrk : List (Mrk) → V := fun x => .list (x.map enc_Mrk)
def enc_l_Denial : List (Denial) → V := fun x => .list (x.map enc_Denial)
def enc_l_Bundle : List (Bundle) → V := fun x => .list (x.map enc_Bundle)
def enc_l_Command : List (Command) → V := fun x => .list (x.map enc_Command)
def enc_l_Config : List (Config) → V := fun x => .list (x.map enc_Config)
def enc_l_Face : List (Face) → V := fun x => .list (x.map enc_Face)
def enc_l_Use : List (Use) → V := fun x => .list (x.map enc_Use)
def enc_l_l_Contact : List (List (Contact)) → V := fun x => .list (x.map enc_l_Contact)
def enc_l_l_i64 : List (List (Int)) → V := fun x => .list (x.map enc_l_i64)
def enc_l_iv : List (IV) → V := fun x => .list (x.map enc_iv)
def enc_Row : Row → V := fun x => .agg [.int .i64 x.At, .list (x.Words.map enc_Word)]
def enc_Route : Route → V := fun x => .agg [.list (x.Contacts.map enc_i64), .int .i64 x.Arrival]
def enc_Script : Script → V := fun x => .agg [.list (x.Configs.map enc_Config), .list (x.Plan.map enc_Contact), .list (x.Commands.map enc_Command)]
def enc_l_Row : List (Row) → V := fun x => .list (x.map enc_Row)
def enc_l_Route : List (Route) → V := fun x => .list (x.map enc_Route)
def lit_a17_bool (l : List Bool) : List Bool := [l.getD 0 false, l.getD 1 false, l.getD 2 false, l.getD 3 false, l.getD 4 false, l.getD 5 false, l.getD 6 false, l.getD 7 false, l.getD 8 false, l.getD 9 false, l.getD 10 false, l.getD 11 false, l.getD 12 false, l.getD 13 false, l.getD 14 false, l.getD 15 false, l.getD 16 false]
theorem lit_a17_bool_eq {l : List Bool} (h : l.length = 17) : lit_a17_bool l = l := by
  refine List.ext_getElem? fun i => ?_
  unfold lit_a17_bool
  by_cases hi : i < 17
  · rw [List.getElem?_eq_getElem (by omega)]
    rcases (by omega : i = 0 ∨ i = 1 ∨ i = 2 ∨ i = 3 ∨ i = 4 ∨ i = 5 ∨ i = 6 ∨ i = 7 ∨ i = 8 ∨ i = 9 ∨ i = 10 ∨ i = 11 ∨ i = 12 ∨ i = 13 ∨ i = 14 ∨ i = 15 ∨ i = 16) with rfl | rfl | rfl | rfl | rfl | rfl | rfl | rfl | rfl | rfl | rfl | rfl | rfl | rfl | rfl | rfl | rfl
    all_goals simp [List.getD_eq_getElem?_getD, h]
  · rw [List.getElem?_eq_none (by simp; omega), List.getElem?_eq_none (by omega)]
def lit_a6_i64 (l : List Int) : List Int := [l.getD 0 0, l.getD 1 0, l.getD 2 0, l.getD 3 0, l.getD 4 0, l.getD 5 0]
theorem lit_a6_i64_eq {l : List Int} (h : l.length = 6) : lit_a6_i64 l = l := by
  refine List.ext_getElem? fun i => ?_
  unfold lit_a6_i64
  by_cases hi : i < 6
  · rw [List.getElem?_eq_getElem (by omega)]
    rcases (by omega : i = 0 ∨ i = 1 ∨ i = 2 ∨ i = 3 ∨ i = 4 ∨ i = 5) with rfl | rfl | rfl | rfl | rfl | rfl
    all_goals simp [List.getD_eq_getElem?_getD, h]
  · rw [List.getElem?_eq_none (by simp; omega), List.getElem?_eq_none (by omega)]
def lit_a7_i64 (l : List Int) : List Int := [l.getD 0 0, l.getD 1 0, l.getD 2 0, l.getD 3 0, l.getD 4 0, l.getD 5 0, l.getD 6 0]
theorem lit_a7_i64_eq {l : List Int} (h : l.length = 7) : lit_a7_i64 l = l := by
  refine List.ext_getElem? fun i => ?_
  unfold lit_a7_i64
  by_cases hi : i < 7
  · rw [List.getElem?_eq_getElem (by omega)]
    rcases (by omega : i = 0 ∨ i = 1 ∨ i = 2 ∨ i = 3 ∨ i = 4 ∨ i = 5 ∨ i = 6) with rfl | rfl | rfl | rfl | rfl | rfl | rfl
    all_goals simp [List.getD_eq_getElem?_getD, h]
  · rw [List.getElem?_eq_none (by simp; omega), List.getElem?_eq_none (by omega)]
def lit_a4_u64 (l : List Int) : List Int := [l.getD 0 0, l.getD 1 0, l.getD 2 0, l.getD 3 0]
theorem lit_a4_u64_eq {l : List Int} (h : l.length = 4) : lit_a4_u64 l = l := by
  refine List.ext_getElem? fun i => ?_
  unfold lit_a4_u64
  by_cases hi : i < 4
  · rw [List.getElem?_eq_getElem (by omega)]
    rcases (by omega : i = 0 ∨ i = 1 ∨ i = 2 ∨ i = 3) with rfl | rfl | rfl | rfl
    all_goals simp [List.getD_eq_getElem?_getD, h]
  · rw [List.getElem?_eq_none (by simp; omega), List.getElem?_eq_none (by omega)]
def arrC : C → Option (C × Nat)
  | .a17_bool => some (.bool, 17)
  | .a6_i64 => some (.i64, 6)
  | .a7_i64 => some (.i64, 7)
  | .a4_u64 => some (.u64, 4)
  | _ => none
def dfl : ∀ c : C, den c
  | .i64 => (0 : Int)
  | .u64 => (0 : Int)
  | .i32 => (0 : Int)
  | .u32 => (0 : Int)
  | .u8 => (0 : Int)
  | .i16 => (0 : Int)
  | .u16 => (0 : Int)
  | .i8 => (0 : Int)
  | .bool => (false : Bool)
  | .str => ([] : List UInt8)
  | .iv => (.int 0 0 : IV)
  | .a17_bool => ([] : List Bool)
  | .a6_i64 => ([] : List Int)
  | .a7_i64 => ([] : List Int)
  | .a4_u64 => ([] : List Int)
  | .ID => (⟨0, 0, 0⟩ : ID)
  | .Contact => (⟨0, 0, 0, 0, 0, 0⟩ : Contact)
  | .Outc => (⟨0, 0, 0, ⟨0, 0, 0⟩, 0⟩ : Outc)
  | .EID => (⟨0, 0, 0⟩ : EID)
  | .Word => (⟨0, [], []⟩ : Word)
  | .Row => (⟨0, []⟩ : Row)
  | .Fault => (⟨0, 0⟩ : Fault)
  | .Mrk => (⟨⟨0, 0, 0⟩, 0⟩ : Mrk)
  | .Denial => (⟨⟨0, 0, 0⟩, 0, 0⟩ : Denial)
  | .Route => (⟨[], 0⟩ : Route)
  | .Bundle => (⟨⟨0, 0, 0⟩, 0, 0, 0, 0, 0, []⟩ : Bundle)
  | .Command => (⟨0, 0, 0, 0, 0, 0, ⟨⟨0, 0, 0⟩, 0, 0, 0, 0, 0, []⟩⟩ : Command)
  | .W3 => (⟨0, 0, 0⟩ : W3)
  | .Config => (⟨0, 0, 0, 0, 0, 0, 0, 0, ⟨0, 0, 0⟩, 0, 0, 0, 0, 0⟩ : Config)
  | .Script => (⟨[], [], []⟩ : Script)
  | .Pair => (⟨0, 0⟩ : Pair)
  | .Face => (⟨[], 0⟩ : Face)
  | .Use => (⟨[], false, false, 0, 0, 0, 0, false⟩ : Use)
  | .Cursor => (⟨[], false⟩ : Cursor)
  | .Scanner => (⟨[], 0⟩ : Scanner)
  | .Key => (⟨⟨0, 0, 0⟩, 0⟩ : Key)
  | .l_W3 => ([] : List (W3))
  | .l_Pair => ([] : List (Pair))
  | .l_i64 => ([] : List (Int))
  | .l_u64 => ([] : List (Int))
  | .l_u8 => ([] : List (Int))
  | .l_bool => ([] : List (Bool))
  | .l_str => ([] : List (List UInt8))
  | .l_ID => ([] : List (ID))
  | .l_Contact => ([] : List (Contact))
  | .l_Outc => ([] : List (Outc))
  | .l_EID => ([] : List (EID))
  | .l_Word => ([] : List (Word))
  | .l_Row => ([] : List (Row))
  | .l_Mrk => ([] : List (Mrk))
  | .l_Denial => ([] : List (Denial))
  | .l_Route => ([] : List (Route))
  | .l_Bundle => ([] : List (Bundle))
  | .l_Command => ([] : List (Command))
  | .l_Config => ([] : List (Config))
  | .l_Face => ([] : List (Face))
  | .l_Use => ([] : List (Use))
  | .l_l_Contact => ([] : List (List (Contact)))
  | .l_l_i64 => ([] : List (List (Int)))
  | .l_iv => ([] : List (IV))
def enc : ∀ c : C, den c → V
  | .i64 => enc_i64
  | .u64 => enc_u64
  | .i32 => enc_i32
  | .u32 => enc_u32
  | .u8 => enc_u8
  | .i16 => enc_i16
  | .u16 => enc_u16
  | .i8 => enc_i8
  | .bool => enc_bool
  | .str => enc_str
  | .iv => enc_iv
  | .a17_bool => enc_a17_bool
  | .a6_i64 => enc_a6_i64
  | .a7_i64 => enc_a7_i64
  | .a4_u64 => enc_a4_u64
  | .ID => enc_ID
  | .Contact => enc_Contact
  | .Outc => enc_Outc
  | .EID => enc_EID
  | .Word => enc_Word
  | .Row => enc_Row
  | .Fault => enc_Fault
  | .Mrk => enc_Mrk
  | .Denial => enc_Denial
  | .Route => enc_Route
  | .Bundle => enc_Bundle
  | .Command => enc_Command
  | .W3 => enc_W3
  | .Config => enc_Config
  | .Script => enc_Script
  | .Pair => enc_Pair
  | .Face => enc_Face
  | .Use => enc_Use
  | .Cursor => enc_Cursor
  | .Scanner => enc_Scanner
  | .Key => enc_Key
  | .l_W3 => enc_l_W3
  | .l_Pair => enc_l_Pair
  | .l_i64 => enc_l_i64
  | .l_u64 => enc_l_u64
  | .l_u8 => enc_l_u8
  | .l_bool => enc_l_bool
  | .l_str => enc_l_str
  | .l_ID => enc_l_ID
  | .l_Contact => enc_l_Contact
  | .l_Outc => enc_l_Outc
  | .l_EID => enc_l_EID
  | .l_Word => enc_l_Word
  | .l_Row => enc_l_Row
  | .l_Mrk => enc_l_Mrk
  | .l_Denial => enc_l_Denial
  | .l_Route => enc_l_Route
  | .l_Bundle => enc_l_Bundle
  | .l_Command => enc_l_Command
  | .l_Config => enc_l_Config
  | .l_Face => enc_l_Face
  | .l_Use => enc_l_Use
  | .l_l_Contact => enc_l_l_Contact
  | .l_l_i64 => enc_l_l_i64
  | .l_iv => enc_l_iv
def csz : C → Nat
  | .i64 => 1
  | .u64 => 1
  | .i32 => 1
  | .u32 => 1
  | .u8 => 1
  | .i16 => 1
  | .u16 => 1
  | .i8 => 1
  | .bool => 1
  | .str => 1
  | .iv => 1
  | .a17_bool => 17
  | .a6_i64 => 6
  | .a7_i64 => 7
  | .a4_u64 => 4
  | .ID => 3
  | .Contact => 6
  | .Outc => 7
  | .EID => 3
  | .Word => 3
  | .Row => 2
  | .Fault => 2
  | .Mrk => 4
  | .Denial => 5
  | .Route => 2
  | .Bundle => 9
  | .Command => 15
  | .W3 => 3
  | .Config => 16
  | .Script => 3
  | .Pair => 2
  | .Face => 2
  | .Use => 8
  | .Cursor => 2
  | .Scanner => 2
  | .Key => 4
  | .l_W3 => 1
  | .l_Pair => 1
  | .l_i64 => 1
  | .l_u64 => 1
  | .l_u8 => 1
  | .l_bool => 1
  | .l_str => 1
  | .l_ID => 1
  | .l_Contact => 1
  | .l_Outc => 1
  | .l_EID => 1
  | .l_Word => 1
  | .l_Row => 1
  | .l_Mrk => 1
  | .l_Denial => 1
  | .l_Route => 1
  | .l_Bundle => 1
  | .l_Command => 1
  | .l_Config => 1
  | .l_Face => 1
  | .l_Use => 1
  | .l_l_Contact => 1
  | .l_l_i64 => 1
  | .l_iv => 1
theorem noLocL_map' {α : Type} {f : α → V} (h : ∀ x, (f x).noLoc = true) : ∀ l : List α, V.noLocL (l.map f) = true
  | [] => rfl
  | x :: l => by simp [V.noLocL, h x, noLocL_map' h l]
theorem enc_csize : ∀ (c : C) (x : den c), (enc c x).csize = some (csz c) := by
  intro c x; cases c <;> first | rfl | (cases x <;> rfl)
theorem noLoc_iv (x : IV) : (enc_iv x).noLoc = true := by cases x <;> rfl
theorem noLoc_i64 (x : Int) : (enc_i64 x).noLoc = true := rfl
theorem noLoc_u64 (x : Int) : (enc_u64 x).noLoc = true := rfl
theorem noLoc_i32 (x : Int) : (enc_i32 x).noLoc = true := rfl
theorem noLoc_u32 (x : Int) : (enc_u32 x).noLoc = true := rfl
theorem noLoc_u8 (x : Int) : (enc_u8 x).noLoc = true := rfl
theorem noLoc_i16 (x : Int) : (enc_i16 x).noLoc = true := rfl
theorem noLoc_u16 (x : Int) : (enc_u16 x).noLoc = true := rfl
theorem noLoc_i8 (x : Int) : (enc_i8 x).noLoc = true := rfl
theorem noLoc_bool (x : Bool) : (enc_bool x).noLoc = true := rfl
theorem noLoc_str (x : List UInt8) : (enc_str x).noLoc = true := rfl
theorem noLoc_a17_bool (x : List Bool) : (enc_a17_bool x).noLoc = true := rfl
theorem noLoc_a6_i64 (x : List Int) : (enc_a6_i64 x).noLoc = true := rfl
theorem noLoc_a7_i64 (x : List Int) : (enc_a7_i64 x).noLoc = true := rfl
theorem noLoc_a4_u64 (x : List Int) : (enc_a4_u64 x).noLoc = true := rfl
theorem noLoc_ID (x : ID) : (enc_ID x).noLoc = true := rfl
theorem noLoc_Contact (x : Contact) : (enc_Contact x).noLoc = true := rfl
theorem noLoc_Outc (x : Outc) : (enc_Outc x).noLoc = true := rfl
theorem noLoc_EID (x : EID) : (enc_EID x).noLoc = true := rfl
theorem noLoc_Word (x : Word) : (enc_Word x).noLoc = true := rfl
theorem noLoc_Fault (x : Fault) : (enc_Fault x).noLoc = true := rfl
theorem noLoc_Mrk (x : Mrk) : (enc_Mrk x).noLoc = true := rfl
theorem noLoc_Denial (x : Denial) : (enc_Denial x).noLoc = true := rfl
theorem noLoc_Bundle (x : Bundle) : (enc_Bundle x).noLoc = true := rfl
theorem noLoc_Command (x : Command) : (enc_Command x).noLoc = true := rfl
theorem noLoc_W3 (x : W3) : (enc_W3 x).noLoc = true := rfl
theorem noLoc_Config (x : Config) : (enc_Config x).noLoc = true := rfl
theorem noLoc_Pair (x : Pair) : (enc_Pair x).noLoc = true := rfl
theorem noLoc_Face (x : Face) : (enc_Face x).noLoc = true := rfl
theorem noLoc_Use (x : Use) : (enc_Use x).noLoc = true := rfl
theorem noLoc_Cursor (x : Cursor) : (enc_Cursor x).noLoc = true := rfl
theorem noLoc_Scanner (x : Scanner) : (enc_Scanner x).noLoc = true := rfl
theorem noLoc_Key (x : Key) : (enc_Key x).noLoc = true := rfl
theorem noLoc_l_W3 (x : List (W3)) : (enc_l_W3 x).noLoc = true := by simp only [enc_l_W3, V.noLoc]; exact noLocL_map' noLoc_W3 x
theorem noLoc_l_Pair (x : List (Pair)) : (enc_l_Pair x).noLoc = true := by simp only [enc_l_Pair, V.noLoc]; exact noLocL_map' noLoc_Pair x
theorem noLoc_l_i64 (x : List (Int)) : (enc_l_i64 x).noLoc = true := by simp only [enc_l_i64, V.noLoc]; exact noLocL_map' noLoc_i64 x
theorem noLoc_l_u64 (x : List (Int)) : (enc_l_u64 x).noLoc = true := by simp only [enc_l_u64, V.noLoc]; exact noLocL_map' noLoc_u64 x
theorem noLoc_l_u8 (x : List (Int)) : (enc_l_u8 x).noLoc = true := by simp only [enc_l_u8, V.noLoc]; exact noLocL_map' noLoc_u8 x
theorem noLoc_l_bool (x : List (Bool)) : (enc_l_bool x).noLoc = true := by simp only [enc_l_bool, V.noLoc]; exact noLocL_map' noLoc_bool x
theorem noLoc_l_str (x : List (List UInt8)) : (enc_l_str x).noLoc = true := by simp only [enc_l_str, V.noLoc]; exact noLocL_map' noLoc_str x
theorem noLoc_l_ID (x : List (ID)) : (enc_l_ID x).noLoc = true := by simp only [enc_l_ID, V.noLoc]; exact noLocL_map' noLoc_ID x
theorem noLoc_l_Contact (x : List (Contact)) : (enc_l_Contact x).noLoc = true := by simp only [enc_l_Contact, V.noLoc]; exact noLocL_map' noLoc_Contact x
theorem noLoc_l_Outc (x : List (Outc)) : (enc_l_Outc x).noLoc = true := by simp only [enc_l_Outc, V.noLoc]; exact noLocL_map' noLoc_Outc x
theorem noLoc_l_EID (x : List (EID)) : (enc_l_EID x).noLoc = true := by simp only [enc_l_EID, V.noLoc]; exact noLocL_map' noLoc_EID x
theorem noLoc_l_Word (x : List (Word)) : (enc_l_Word x).noLoc = true := by simp only [enc_l_Word, V.noLoc]; exact noLocL_map' noLoc_Word x
theorem noLoc_l_Mrk (x : List (Mrk)) : (enc_l_Mrk x).noLoc = true := by simp only [enc_l_Mrk, V.noLoc]; exact noLocL_map' noLoc_Mrk x
theorem noLoc_l_Denial (x : List (Denial)) : (enc_l_Denial x).noLoc = true := by simp only [enc_l_Denial, V.noLoc]; exact noLocL_map' noLoc_Denial x
theorem noLoc_l_Bundle (x : List (Bundle)) : (enc_l_Bundle x).noLoc = true := by simp only [enc_l_Bundle, V.noLoc]; exact noLocL_map' noLoc_Bundle x
theorem noLoc_l_Command (x : List (Command)) : (enc_l_Command x).noLoc = true := by simp only [enc_l_Command, V.noLoc]; exact noLocL_map' noLoc_Command x
theorem noLoc_l_Config (x : List (Config)) : (enc_l_Config x).noLoc = true := by simp only [enc_l_Config, V.noLoc]; exact noLocL_map' noLoc_Config x
theorem noLoc_l_Face (x : List (Face)) : (enc_l_Face x).noLoc = true := by simp only [enc_l_Face, V.noLoc]; exact noLocL_map' noLoc_Face x
theorem noLoc_l_Use (x : List (Use)) : (enc_l_Use x).noLoc = true := by simp only [enc_l_Use, V.noLoc]; exact noLocL_map' noLoc_Use x
theorem noLoc_l_l_Contact (x : List (List (Contact))) : (enc_l_l_Contact x).noLoc = true := by simp only [enc_l_l_Contact, V.noLoc]; exact noLocL_map' noLoc_l_Contact x
theorem noLoc_l_l_i64 (x : List (List (Int))) : (enc_l_l_i64 x).noLoc = true := by simp only [enc_l_l_i64, V.noLoc]; exact noLocL_map' noLoc_l_i64 x
theorem noLoc_l_iv (x : List (IV)) : (enc_l_iv x).noLoc = true := by simp only [enc_l_iv, V.noLoc]; exact noLocL_map' noLoc_iv x
theorem noLoc_Row (x : Row) : (enc_Row x).noLoc = true := by simp [enc_Row, V.noLoc, V.noLocL, noLocL_map' noLoc_Word]
theorem noLoc_Route (x : Route) : (enc_Route x).noLoc = true := by simp [enc_Route, V.noLoc, V.noLocL, noLocL_map' noLoc_i64]
theorem noLoc_Script (x : Script) : (enc_Script x).noLoc = true := by simp [enc_Script, V.noLoc, V.noLocL, noLocL_map' noLoc_Command, noLocL_map' noLoc_Config, noLocL_map' noLoc_Contact]
theorem noLoc_l_Row (x : List (Row)) : (enc_l_Row x).noLoc = true := by simp only [enc_l_Row, V.noLoc]; exact noLocL_map' noLoc_Row x
theorem noLoc_l_Route (x : List (Route)) : (enc_l_Route x).noLoc = true := by simp only [enc_l_Route, V.noLoc]; exact noLocL_map' noLoc_Route x
theorem enc_noLoc : ∀ (c : C) (x : den c), (enc c x).noLoc = true
  | .i64, x => noLoc_i64 x
  | .u64, x => noLoc_u64 x
  | .i32, x => noLoc_i32 x
  | .u32, x => noLoc_u32 x
  | .u8, x => noLoc_u8 x
  | .i16, x => noLoc_i16 x
  | .u16, x => noLoc_u16 x
  | .i8, x => noLoc_i8 x
  | .bool, x => noLoc_bool x
  | .str, x => noLoc_str x
  | .iv, x => noLoc_iv x
  | .a17_bool, x => noLoc_a17_bool x
  | .a6_i64, x => noLoc_a6_i64 x
  | .a7_i64, x => noLoc_a7_i64 x
  | .a4_u64, x => noLoc_a4_u64 x
  | .ID, x => noLoc_ID x
  | .Contact, x => noLoc_Contact x
  | .Outc, x => noLoc_Outc x
  | .EID, x => noLoc_EID x
  | .Word, x => noLoc_Word x
  | .Row, x => noLoc_Row x
  | .Fault, x => noLoc_Fault x
  | .Mrk, x => noLoc_Mrk x
  | .Denial, x => noLoc_Denial x
  | .Route, x => noLoc_Route x
  | .Bundle, x => noLoc_Bundle x
  | .Command, x => noLoc_Command x
  | .W3, x => noLoc_W3 x
  | .Config, x => noLoc_Config x
  | .Script, x => noLoc_Script x
  | .Pair, x => noLoc_Pair x
  | .Face, x => noLoc_Face x
  | .Use, x => noLoc_Use x
  | .Cursor, x => noLoc_Cursor x
  | .Scanner, x => noLoc_Scanner x
  | .Key, x => noLoc_Key x
  | .l_W3, x => noLoc_l_W3 x
  | .l_Pair, x => noLoc_l_Pair x
  | .l_i64, x => noLoc_l_i64 x
  | .l_u64, x => noLoc_l_u64 x
  | .l_u8, x => noLoc_l_u8 x
  | .l_bool, x => noLoc_l_bool x
  | .l_str, x => noLoc_l_str x
  | .l_ID, x => noLoc_l_ID x
  | .l_Contact, x => noLoc_l_Contact x
  | .l_Outc, x => noLoc_l_Outc x
  | .l_EID, x => noLoc_l_EID x
  | .l_Word, x => noLoc_l_Word x
  | .l_Row, x => noLoc_l_Row x
  | .l_Mrk, x => noLoc_l_Mrk x
  | .l_Denial, x => noLoc_l_Denial x
  | .l_Route, x => noLoc_l_Route x
  | .l_Bundle, x => noLoc_l_Bundle x
  | .l_Command, x => noLoc_l_Command x
  | .l_Config, x => noLoc_l_Config x
  | .l_Face, x => noLoc_l_Face x
  | .l_Use, x => noLoc_l_Use x
  | .l_l_Contact, x => noLoc_l_l_Contact x
  | .l_l_i64, x => noLoc_l_l_i64 x
  | .l_iv, x => noLoc_l_iv x
inductive S : Type where
  | any | un
  | int (k : IntKind) (n : Int)
  | bool (b : Bool)
  | str (s : List UInt8)
  | agg (cs : List S)
  | tup (vs : List S)
  | loc (i off : Nat)
  | loco (i off n : Nat) (ix : Int)
  | elt (cs : List S) (off : Nat)
  | gel (g off : Nat)
  | nilp
  | lst (c : C) (l : List (den c))
  | rows (vs : List S)
  | fn (f : Go.Fn) (first cap : List S)
  | nilfn
  | iface (t : TypeId) (v : S)
  | nilif
  | mref (i : Nat)
  | nilm
  | ptr (i : Int) (sz f : Nat)
  | ivd (x : IV)
  deriving Inhabited
def asInt (k : IntKind) : S → Option Int
  | .int k' n => if k' = k then some n else none
  | _ => none
def asBool : S → Option Bool
  | .bool b => some b
  | _ => none
def asStr : S → Option (List UInt8)
  | .str b => some b
  | _ => none
def asIv : S → Option IV
  | .ivd x => some x
  | .iface t (.int .i64 n) => some (.int t n)
  | .iface t (.agg [.int .i64 a, .int .u64 b, .int .i64 c]) => some (.id t ⟨a, b, c⟩)
  | _ => none
def asLst (c : C) : S → Option (List (den c))
  | .lst c' l => if h : c' = c then some (h ▸ l) else none
  | .rows [] => some []
  | _ => none
def refl_i64 : Int → S := fun x => .int .i64 x
def refl_u64 : Int → S := fun x => .int .u64 x
def refl_i32 : Int → S := fun x => .int .i32 x
def refl_u32 : Int → S := fun x => .int .u32 x
def refl_u8 : Int → S := fun x => .int .u8 x
def refl_i16 : Int → S := fun x => .int .i16 x
def refl_u16 : Int → S := fun x => .int .u16 x
def refl_i8 : Int → S := fun x => .int .i8 x
def refl_bool : Bool → S := fun x => .bool x
def refl_str : List UInt8 → S := fun x => .str x
def refl_iv : IV → S := fun x => .ivd x
def refl_a17_bool : List Bool → S := fun x => .agg [.bool (x.getD 0 false), .bool (x.getD 1 false), .bool (x.getD 2 false), .bool (x.getD 3 false), .bool (x.getD 4 false), .bool (x.getD 5 false), .bool (x.getD 6 false), .bool (x.getD 7 false), .bool (x.getD 8 false), .bool (x.getD 9 false), .bool (x.getD 10 false), .bool (x.getD 11 false), .bool (x.getD 12 false), .bool (x.getD 13 false), .bool (x.getD 14 false), .bool (x.getD 15 false), .bool (x.getD 16 false)]
def refl_a6_i64 : List Int → S := fun x => .agg [.int .i64 (x.getD 0 0), .int .i64 (x.getD 1 0), .int .i64 (x.getD 2 0), .int .i64 (x.getD 3 0), .int .i64 (x.getD 4 0), .int .i64 (x.getD 5 0)]
def refl_a7_i64 : List Int → S := fun x => .agg [.int .i64 (x.getD 0 0), .int .i64 (x.getD 1 0), .int .i64 (x.getD 2 0), .int .i64 (x.getD 3 0), .int .i64 (x.getD 4 0), .int .i64 (x.getD 5 0), .int .i64 (x.getD 6 0)]
def refl_a4_u64 : List Int → S := fun x => .agg [.int .u64 (x.getD 0 0), .int .u64 (x.getD 1 0), .int .u64 (x.getD 2 0), .int .u64 (x.getD 3 0)]
def refl_ID : ID → S := fun x => .agg [.int .i64 x.Node, .int .u64 x.Seq, .int .i64 x.Off]
def refl_Contact : Contact → S := fun x => .agg [.int .i64 x.From, .int .i64 x.To, .int .i64 x.Start, .int .i64 x.End, .int .i64 x.Rate, .int .i64 x.Delay]
def refl_Outc : Outc → S := fun x => .agg [.int .i64 x.Tick, .int .i64 x.Node, .int .i64 x.Kind, .int .i64 x.ID.Node, .int .u64 x.ID.Seq, .int .i64 x.ID.Off, .int .i64 x.Other]
def refl_EID : EID → S := fun x => .agg [.int .i64 x.Low, .int .i64 x.High, .int .i64 x.Service]
def refl_Word : Word → S := fun x => .agg [.int .i64 x.At, .str x.Key, .str x.Text]
def refl_Row : Row → S := fun x => .agg [.int .i64 x.At, .lst .Word x.Words]
def refl_Fault : Fault → S := fun x => .agg [.int .i64 x.Err, .int .i64 x.At]
def refl_Mrk : Mrk → S := fun x => .agg [.int .i64 x.ID.Node, .int .u64 x.ID.Seq, .int .i64 x.ID.Off, .int .i64 x.Until]
def refl_Denial : Denial → S := fun x => .agg [.int .i64 x.ID.Node, .int .u64 x.ID.Seq, .int .i64 x.ID.Off, .int .i64 x.Node, .int .i64 x.Until]
def refl_Route : Route → S := fun x => .agg [.lst .i64 x.Contacts, .int .i64 x.Arrival]
def refl_Bundle : Bundle → S := fun x => .agg [.int .i64 x.ID.Node, .int .u64 x.ID.Seq, .int .i64 x.ID.Off, .int .i64 x.Dest, .int .i64 x.Prio, .int .i64 x.Born, .int .i64 x.Life, .int .i64 x.Total, .str x.Data]
def refl_Command : Command → S := fun x => .agg [.int .i64 x.Kind, .int .i64 x.Node, .int .i64 x.Other, .int .i64 x.N, .int .i64 x.At, .int .i64 x.By, .int .i64 x.Bundle.ID.Node, .int .u64 x.Bundle.ID.Seq, .int .i64 x.Bundle.ID.Off, .int .i64 x.Bundle.Dest, .int .i64 x.Bundle.Prio, .int .i64 x.Bundle.Born, .int .i64 x.Bundle.Life, .int .i64 x.Bundle.Total, .str x.Bundle.Data]
def refl_W3 : W3 → S := fun x => .agg [.int .i64 x.a, .int .i64 x.b, .int .i64 x.c]
def refl_Config : Config → S := fun x => .agg [.int .i64 x.Node, .int .u64 x.Quota, .int .u64 x.Largest, .int .u64 x.Window, .int .u64 x.Low, .int .i64 x.Retry, .int .i64 x.RetryMax, .int .i64 x.Bypass, .int .i64 x.Weights.a, .int .i64 x.Weights.b, .int .i64 x.Weights.c, .int .i64 x.RateN, .int .i64 x.RateD, .int .i64 x.Burst, .int .i64 x.Blocks, .int .i64 x.Rate]
def refl_Script : Script → S := fun x => .agg [.lst .Config x.Configs, .lst .Contact x.Plan, .lst .Command x.Commands]
def refl_Pair : Pair → S := fun x => .agg [.int .i64 x.a, .int .i64 x.b]
def refl_Face : Face → S := fun x => .agg [.str x.word, .int .i64 x.uses]
def refl_Use : Use → S := fun x => .agg [.str x.word, .bool x.node, .bool x.other, .int .i64 x.low, .int .i64 x.n, .int .i64 x.at_, .int .i64 x.by_, .bool x.bndl]
def refl_Cursor : Cursor → S := fun x => .agg [.str x.left, .bool x.ok]
def refl_Scanner : Scanner → S := fun x => .agg [.str x.s, .int .i64 x.pos]
def refl_Key : Key → S := fun x => .agg [.int .i64 x.id.Node, .int .u64 x.id.Seq, .int .i64 x.id.Off, .int .i64 x.node]
def refl_l_W3 : List (W3) → S := fun x => .lst .W3 x
def refl_l_Pair : List (Pair) → S := fun x => .lst .Pair x
def refl_l_i64 : List (Int) → S := fun x => .lst .i64 x
def refl_l_u64 : List (Int) → S := fun x => .lst .u64 x
def refl_l_u8 : List (Int) → S := fun x => .lst .u8 x
def refl_l_bool : List (Bool) → S := fun x => .lst .bool x
def refl_l_str : List (List UInt8) → S := fun x => .lst .str x
def refl_l_ID : List (ID) → S := fun x => .lst .ID x
def refl_l_Contact : List (Contact) → S := fun x => .lst .Contact x
def refl_l_Outc : List (Outc) → S := fun x => .lst .Outc x
def refl_l_EID : List (EID) → S := fun x => .lst .EID x
def refl_l_Word : List (Word) → S := fun x => .lst .Word x
def refl_l_Row : List (Row) → S := fun x => .lst .Row x
def refl_l_Mrk : List (Mrk) → S := fun x => .lst .Mrk x
def refl_l_Denial : List (Denial) → S := fun x => .lst .Denial x
def refl_l_Route : List (Route) → S := fun x => .lst .Route x
def refl_l_Bundle : List (Bundle) → S := fun x => .lst .Bundle x
def refl_l_Command : List (Command) → S := fun x => .lst .Command x
def refl_l_Config : List (Config) → S := fun x => .lst .Config x
def refl_l_Face : List (Face) → S := fun x => .lst .Face x
def refl_l_Use : List (Use) → S := fun x => .lst .Use x
def refl_l_l_Contact : List (List (Contact)) → S := fun x => .lst .l_Contact x
def refl_l_l_i64 : List (List (Int)) → S := fun x => .lst .l_i64 x
def refl_l_iv : List (IV) → S := fun x => .lst .iv x
def refl : ∀ c : C, den c → S
  | .i64 => refl_i64
  | .u64 => refl_u64
  | .i32 => refl_i32
  | .u32 => refl_u32
  | .u8 => refl_u8
  | .i16 => refl_i16
  | .u16 => refl_u16
  | .i8 => refl_i8
  | .bool => refl_bool
  | .str => refl_str
  | .iv => refl_iv
  | .a17_bool => refl_a17_bool
  | .a6_i64 => refl_a6_i64
  | .a7_i64 => refl_a7_i64
  | .a4_u64 => refl_a4_u64
  | .ID => refl_ID
  | .Contact => refl_Contact
  | .Outc => refl_Outc
  | .EID => refl_EID
  | .Word => refl_Word
  | .Row => refl_Row
  | .Fault => refl_Fault
  | .Mrk => refl_Mrk
  | .Denial => refl_Denial
  | .Route => refl_Route
  | .Bundle => refl_Bundle
  | .Command => refl_Command
  | .W3 => refl_W3
  | .Config => refl_Config
  | .Script => refl_Script
  | .Pair => refl_Pair
  | .Face => refl_Face
  | .Use => refl_Use
  | .Cursor => refl_Cursor
  | .Scanner => refl_Scanner
  | .Key => refl_Key
  | .l_W3 => refl_l_W3
  | .l_Pair => refl_l_Pair
  | .l_i64 => refl_l_i64
  | .l_u64 => refl_l_u64
  | .l_u8 => refl_l_u8
  | .l_bool => refl_l_bool
  | .l_str => refl_l_str
  | .l_ID => refl_l_ID
  | .l_Contact => refl_l_Contact
  | .l_Outc => refl_l_Outc
  | .l_EID => refl_l_EID
  | .l_Word => refl_l_Word
  | .l_Row => refl_l_Row
  | .l_Mrk => refl_l_Mrk
  | .l_Denial => refl_l_Denial
  | .l_Route => refl_l_Route
  | .l_Bundle => refl_l_Bundle
  | .l_Command => refl_l_Command
  | .l_Config => refl_l_Config
  | .l_Face => refl_l_Face
  | .l_Use => refl_l_Use
  | .l_l_Contact => refl_l_l_Contact
  | .l_l_i64 => refl_l_l_i64
  | .l_iv => refl_l_iv
def un_a17_bool : S → Option (List Bool)
  | .agg [p0, p1, p2, p3, p4, p5, p6, p7, p8, p9, p10, p11, p12, p13, p14, p15, p16] => (asBool p0).bind fun q0 => (asBool p1).bind fun q1 => (asBool p2).bind fun q2 => (asBool p3).bind fun q3 => (asBool p4).bind fun q4 => (asBool p5).bind fun q5 => (asBool p6).bind fun q6 => (asBool p7).bind fun q7 => (asBool p8).bind fun q8 => (asBool p9).bind fun q9 => (asBool p10).bind fun q10 => (asBool p11).bind fun q11 => (asBool p12).bind fun q12 => (asBool p13).bind fun q13 => (asBool p14).bind fun q14 => (asBool p15).bind fun q15 => (asBool p16).bind fun q16 => (some [q0, q1, q2, q3, q4, q5, q6, q7, q8, q9, q10, q11, q12, q13, q14, q15, q16])
  | _ => none
def un_a6_i64 : S → Option (List Int)
  | .agg [p0, p1, p2, p3, p4, p5] => (asInt .i64 p0).bind fun q0 => (asInt .i64 p1).bind fun q1 => (asInt .i64 p2).bind fun q2 => (asInt .i64 p3).bind fun q3 => (asInt .i64 p4).bind fun q4 => (asInt .i64 p5).bind fun q5 => (some [q0, q1, q2, q3, q4, q5])
  | _ => none
def un_a7_i64 : S → Option (List Int)
  | .agg [p0, p1, p2, p3, p4, p5, p6] => (asInt .i64 p0).bind fun q0 => (asInt .i64 p1).bind fun q1 => (asInt .i64 p2).bind fun q2 => (asInt .i64 p3).bind fun q3 => (asInt .i64 p4).bind fun q4 => (asInt .i64 p5).bind fun q5 => (asInt .i64 p6).bind fun q6 => (some [q0, q1, q2, q3, q4, q5, q6])
  | _ => none
def un_a4_u64 : S → Option (List Int)
  | .agg [p0, p1, p2, p3] => (asInt .u64 p0).bind fun q0 => (asInt .u64 p1).bind fun q1 => (asInt .u64 p2).bind fun q2 => (asInt .u64 p3).bind fun q3 => (some [q0, q1, q2, q3])
  | _ => none
def un_ID : S → Option (ID)
  | .agg [p0, p1, p2] => (asInt .i64 p0).bind fun q0 => (asInt .u64 p1).bind fun q1 => (asInt .i64 p2).bind fun q2 => (some ⟨q0, q1, q2⟩)
  | _ => none
def un_Contact : S → Option (Contact)
  | .agg [p0, p1, p2, p3, p4, p5] => (asInt .i64 p0).bind fun q0 => (asInt .i64 p1).bind fun q1 => (asInt .i64 p2).bind fun q2 => (asInt .i64 p3).bind fun q3 => (asInt .i64 p4).bind fun q4 => (asInt .i64 p5).bind fun q5 => (some ⟨q0, q1, q2, q3, q4, q5⟩)
  | _ => none
def un_Outc : S → Option (Outc)
  | .agg [p0, p1, p2, p3, p4, p5, p6] => (asInt .i64 p0).bind fun q0 => (asInt .i64 p1).bind fun q1 => (asInt .i64 p2).bind fun q2 => (asInt .i64 p3).bind fun q3 => (asInt .u64 p4).bind fun q4 => (asInt .i64 p5).bind fun q5 => (asInt .i64 p6).bind fun q6 => (some ⟨q0, q1, q2, ⟨q3, q4, q5⟩, q6⟩)
  | _ => none
def un_EID : S → Option (EID)
  | .agg [p0, p1, p2] => (asInt .i64 p0).bind fun q0 => (asInt .i64 p1).bind fun q1 => (asInt .i64 p2).bind fun q2 => (some ⟨q0, q1, q2⟩)
  | _ => none
def un_Word : S → Option (Word)
  | .agg [p0, p1, p2] => (asInt .i64 p0).bind fun q0 => (asStr p1).bind fun q1 => (asStr p2).bind fun q2 => (some ⟨q0, q1, q2⟩)
  | _ => none
def un_Row : S → Option (Row)
  | .agg [p0, p1] => (asInt .i64 p0).bind fun q0 => (asLst .Word p1).bind fun q1 => (some ⟨q0, q1⟩)
  | _ => none
def un_Fault : S → Option (Fault)
  | .agg [p0, p1] => (asInt .i64 p0).bind fun q0 => (asInt .i64 p1).bind fun q1 => (some ⟨q0, q1⟩)
  | _ => none
def un_Mrk : S → Option (Mrk)
  | .agg [p0, p1, p2, p3] => (asInt .i64 p0).bind fun q0 => (asInt .u64 p1).bind fun q1 => (asInt .i64 p2).bind fun q2 => (asInt .i64 p3).bind fun q3 => (some ⟨⟨q0, q1, q2⟩, q3⟩)
  | _ => none
def un_Denial : S → Option (Denial)
  | .agg [p0, p1, p2, p3, p4] => (asInt .i64 p0).bind fun q0 => (asInt .u64 p1).bind fun q1 => (asInt .i64 p2).bind fun q2 => (asInt .i64 p3).bind fun q3 => (asInt .i64 p4).bind fun q4 => (some ⟨⟨q0, q1, q2⟩, q3, q4⟩)
  | _ => none
def un_Route : S → Option (Route)
  | .agg [p0, p1] => (asLst .i64 p0).bind fun q0 => (asInt .i64 p1).bind fun q1 => (some ⟨q0, q1⟩)
  | _ => none
def un_Bundle : S → Option (Bundle)
  | .agg [p0, p1, p2, p3, p4, p5, p6, p7, p8] => (asInt .i64 p0).bind fun q0 => (asInt .u64 p1).bind fun q1 => (asInt .i64 p2).bind fun q2 => (asInt .i64 p3).bind fun q3 => (asInt .i64 p4).bind fun q4 => (asInt .i64 p5).bind fun q5 => (asInt .i64 p6).bind fun q6 => (asInt .i64 p7).bind fun q7 => (asStr p8).bind fun q8 => (some ⟨⟨q0, q1, q2⟩, q3, q4, q5, q6, q7, q8⟩)
  | _ => none
def un_Command : S → Option (Command)
  | .agg [p0, p1, p2, p3, p4, p5, p6, p7, p8, p9, p10, p11, p12, p13, p14] => (asInt .i64 p0).bind fun q0 => (asInt .i64 p1).bind fun q1 => (asInt .i64 p2).bind fun q2 => (asInt .i64 p3).bind fun q3 => (asInt .i64 p4).bind fun q4 => (asInt .i64 p5).bind fun q5 => (asInt .i64 p6).bind fun q6 => (asInt .u64 p7).bind fun q7 => (asInt .i64 p8).bind fun q8 => (asInt .i64 p9).bind fun q9 => (asInt .i64 p10).bind fun q10 => (asInt .i64 p11).bind fun q11 => (asInt .i64 p12).bind fun q12 => (asInt .i64 p13).bind fun q13 => (asStr p14).bind fun q14 => (some ⟨q0, q1, q2, q3, q4, q5, ⟨⟨q6, q7, q8⟩, q9, q10, q11, q12, q13, q14⟩⟩)
  | _ => none
def un_W3 : S → Option (W3)
  | .agg [p0, p1, p2] => (asInt .i64 p0).bind fun q0 => (asInt .i64 p1).bind fun q1 => (asInt .i64 p2).bind fun q2 => (some ⟨q0, q1, q2⟩)
  | _ => none
def un_Config : S → Option (Config)
  | .agg [p0, p1, p2, p3, p4, p5, p6, p7, p8, p9, p10, p11, p12, p13, p14, p15] => (asInt .i64 p0).bind fun q0 => (asInt .u64 p1).bind fun q1 => (asInt .u64 p2).bind fun q2 => (asInt .u64 p3).bind fun q3 => (asInt .u64 p4).bind fun q4 => (asInt .i64 p5).bind fun q5 => (asInt .i64 p6).bind fun q6 => (asInt .i64 p7).bind fun q7 => (asInt .i64 p8).bind fun q8 => (asInt .i64 p9).bind fun q9 => (asInt .i64 p10).bind fun q10 => (asInt .i64 p11).bind fun q11 => (asInt .i64 p12).bind fun q12 => (asInt .i64 p13).bind fun q13 => (asInt .i64 p14).bind fun q14 => (asInt .i64 p15).bind fun q15 => (some ⟨q0, q1, q2, q3, q4, q5, q6, q7, ⟨q8, q9, q10⟩, q11, q12, q13, q14, q15⟩)
  | _ => none
def un_Script : S → Option (Script)
  | .agg [p0, p1, p2] => (asLst .Config p0).bind fun q0 => (asLst .Contact p1).bind fun q1 => (asLst .Command p2).bind fun q2 => (some ⟨q0, q1, q2⟩)
  | _ => none
def un_Pair : S → Option (Pair)
  | .agg [p0, p1] => (asInt .i64 p0).bind fun q0 => (asInt .i64 p1).bind fun q1 => (some ⟨q0, q1⟩)
  | _ => none
def un_Face : S → Option (Face)
  | .agg [p0, p1] => (asStr p0).bind fun q0 => (asInt .i64 p1).bind fun q1 => (some ⟨q0, q1⟩)
  | _ => none
def un_Use : S → Option (Use)
  | .agg [p0, p1, p2, p3, p4, p5, p6, p7] => (asStr p0).bind fun q0 => (asBool p1).bind fun q1 => (asBool p2).bind fun q2 => (asInt .i64 p3).bind fun q3 => (asInt .i64 p4).bind fun q4 => (asInt .i64 p5).bind fun q5 => (asInt .i64 p6).bind fun q6 => (asBool p7).bind fun q7 => (some ⟨q0, q1, q2, q3, q4, q5, q6, q7⟩)
  | _ => none
def un_Cursor : S → Option (Cursor)
  | .agg [p0, p1] => (asStr p0).bind fun q0 => (asBool p1).bind fun q1 => (some ⟨q0, q1⟩)
  | _ => none
def un_Scanner : S → Option (Scanner)
  | .agg [p0, p1] => (asStr p0).bind fun q0 => (asInt .i64 p1).bind fun q1 => (some ⟨q0, q1⟩)
  | _ => none
def un_Key : S → Option (Key)
  | .agg [p0, p1, p2, p3] => (asInt .i64 p0).bind fun q0 => (asInt .u64 p1).bind fun q1 => (asInt .i64 p2).bind fun q2 => (asInt .i64 p3).bind fun q3 => (some ⟨⟨q0, q1, q2⟩, q3⟩)
  | _ => none
def unrefl : ∀ c : C, S → Option (den c)
  | .i64 => fun s => asInt .i64 s
  | .u64 => fun s => asInt .u64 s
  | .i32 => fun s => asInt .i32 s
  | .u32 => fun s => asInt .u32 s
  | .u8 => fun s => asInt .u8 s
  | .i16 => fun s => asInt .i16 s
  | .u16 => fun s => asInt .u16 s
  | .i8 => fun s => asInt .i8 s
  | .bool => fun s => asBool s
  | .str => fun s => asStr s
  | .iv => fun s => asIv s
  | .a17_bool => un_a17_bool
  | .a6_i64 => un_a6_i64
  | .a7_i64 => un_a7_i64
  | .a4_u64 => un_a4_u64
  | .ID => un_ID
  | .Contact => un_Contact
  | .Outc => un_Outc
  | .EID => un_EID
  | .Word => un_Word
  | .Row => un_Row
  | .Fault => un_Fault
  | .Mrk => un_Mrk
  | .Denial => un_Denial
  | .Route => un_Route
  | .Bundle => un_Bundle
  | .Command => un_Command
  | .W3 => un_W3
  | .Config => un_Config
  | .Script => un_Script
  | .Pair => un_Pair
  | .Face => un_Face
  | .Use => un_Use
  | .Cursor => un_Cursor
  | .Scanner => un_Scanner
  | .Key => un_Key
  | .l_W3 => fun s => asLst .W3 s
  | .l_Pair => fun s => asLst .Pair s
  | .l_i64 => fun s => asLst .i64 s
  | .l_u64 => fun s => asLst .u64 s
  | .l_u8 => fun s => asLst .u8 s
  | .l_bool => fun s => asLst .bool s
  | .l_str => fun s => asLst .str s
  | .l_ID => fun s => asLst .ID s
  | .l_Contact => fun s => asLst .Contact s
  | .l_Outc => fun s => asLst .Outc s
  | .l_EID => fun s => asLst .EID s
  | .l_Word => fun s => asLst .Word s
  | .l_Row => fun s => asLst .Row s
  | .l_Mrk => fun s => asLst .Mrk s
  | .l_Denial => fun s => asLst .Denial s
  | .l_Route => fun s => asLst .Route s
  | .l_Bundle => fun s => asLst .Bundle s
  | .l_Command => fun s => asLst .Command s
  | .l_Config => fun s => asLst .Config s
  | .l_Face => fun s => asLst .Face s
  | .l_Use => fun s => asLst .Use s
  | .l_l_Contact => fun s => asLst .l_Contact s
  | .l_l_i64 => fun s => asLst .l_i64 s
  | .l_iv => fun s => asLst .iv s
def codeFlat : C → Bool
  | .i64 => true
  | .u64 => true
  | .i32 => true
  | .u32 => true
  | .u8 => true
  | .i16 => true
  | .u16 => true
  | .i8 => true
  | .bool => true
  | .str => true
  | .iv => false
  | .a17_bool => true
  | .a6_i64 => true
  | .a7_i64 => true
  | .a4_u64 => true
  | .ID => true
  | .Contact => true
  | .Outc => true
  | .EID => true
  | .Word => true
  | .Row => false
  | .Fault => true
  | .Mrk => true
  | .Denial => true
  | .Route => false
  | .Bundle => true
  | .Command => true
  | .W3 => true
  | .Config => true
  | .Script => false
  | .Pair => true
  | .Face => true
  | .Use => true
  | .Cursor => true
  | .Scanner => true
  | .Key => true
  | .l_W3 => false
  | .l_Pair => false
  | .l_i64 => false
  | .l_u64 => false
  | .l_u8 => false
  | .l_bool => false
  | .l_str => false
  | .l_ID => false
  | .l_Contact => false
  | .l_Outc => false
  | .l_EID => false
  | .l_Word => false
  | .l_Row => false
  | .l_Mrk => false
  | .l_Denial => false
  | .l_Route => false
  | .l_Bundle => false
  | .l_Command => false
  | .l_Config => false
  | .l_Face => false
  | .l_Use => false
  | .l_l_Contact => false
  | .l_l_i64 => false
  | .l_iv => false
def dq : ∀ c : C, Option (DecidableEq (den c))
  | .i64 => some (inferInstanceAs (DecidableEq (Int)))
  | .u64 => some (inferInstanceAs (DecidableEq (Int)))
  | .str => some (inferInstanceAs (DecidableEq (List UInt8)))
  | .Pair => some (inferInstanceAs (DecidableEq (Pair)))
  | .ID => some (inferInstanceAs (DecidableEq (ID)))
  | .Outc => some (inferInstanceAs (DecidableEq (Outc)))
  | _ => none
mutual
def toV : S → V
  | .any => .any
  | .un => .un
  | .int k n => .int k n
  | .bool b => .bool b
  | .str s => .str s
  | .agg cs => .agg (toVL cs)
  | .tup cs => .tup (toVL cs)
  | .loc i off => .loc i off
  | .loco i off _ ix => .loc i (off + ix.toNat)
  | .elt cs off => .elt (toVL cs) off
  | .gel g off => (match GL g with | some vs => .elt (vs.map constV) off | none => .any)
  | .nilp => .nilp
  | .lst c l => .list (l.map (enc c))
  | .rows vs => .list (toVL vs)
  | .fn f first cap => .fn f (toVL first) (toVL cap)
  | .nilfn => .nilfn
  | .iface t v => .iface t (toV v)
  | .nilif => .nilif
  | .mref i => .mref i
  | .nilm => .nilm
  | .ptr i sz f => .ptr (i.toNat * sz + f)
  | .ivd x => enc_iv x
def toVL : List S → List V
  | [] => []
  | c :: cs => toV c :: toVL cs
end
theorem toVL_map : ∀ cs : List S, toVL cs = cs.map toV
  | [] => by simp [toVL]
  | c :: cs => by simp [toVL, toVL_map cs]
theorem asInt_spec {k : IntKind} {s : S} {n : Int} (h : asInt k s = some n) : s = .int k n := by
  cases s <;> simp only [asInt, reduceCtorEq] at h
  split at h
  · rename_i e; subst e; cases h; rfl
  · cases h
theorem asBool_spec {s : S} {n : Bool} (h : asBool s = some n) : s = .bool n := by
  cases s <;> simp only [asBool, reduceCtorEq] at h
  cases h; rfl
theorem asStr_spec {s : S} {n : List UInt8} (h : asStr s = some n) : s = .str n := by
  cases s <;> simp only [asStr, reduceCtorEq] at h
  cases h; rfl
theorem asLst_spec {c : C} {s : S} {l : List (den c)} (h : asLst c s = some l) : toV s = .list (l.map (enc c)) := by
  unfold asLst at h
  split at h
  · split at h
    · rename_i e; subst e; cases h; simp [toV]
    · cases h
  · cases h; simp [toV, toVL]
  · cases h
theorem bind_some {α β : Type} {o : Option α} {f : α → Option β} {r : β} (h : o.bind f = some r) : ∃ x, o = some x ∧ f x = some r := by
  cases o with
  | none => cases h
  | some x => exact ⟨x, rfl, h⟩
theorem toV_int {k : IntKind} {s : S} {n : Int} (h : asInt k s = some n) : toV s = .int k n := by rw [asInt_spec h]; simp [toV]
theorem toV_bool {s : S} {n : Bool} (h : asBool s = some n) : toV s = .bool n := by rw [asBool_spec h]; simp [toV]
theorem toV_iv {s : S} {n : IV} (h : asIv s = some n) : toV s = enc_iv n := by
  unfold asIv at h
  split at h
  · cases h; simp [toV]
  · cases h; simp [toV, enc_iv]
  · cases h; simp [toV, toVL, enc_iv]
  · cases h
theorem toV_str {s : S} {n : List UInt8} (h : asStr s = some n) : toV s = .str n := by rw [asStr_spec h]; simp [toV]
theorem unrefl_a17_bool {s : S} {x : List Bool} (h : un_a17_bool s = some x) : toV s = enc_a17_bool x := by
  unfold un_a17_bool at h
  split at h
  · obtain ⟨q0, h0, h⟩ := bind_some h
    obtain ⟨q1, h1, h⟩ := bind_some h
    obtain ⟨q2, h2, h⟩ := bind_some h
    obtain ⟨q3, h3, h⟩ := bind_some h
    obtain ⟨q4, h4, h⟩ := bind_some h
    obtain ⟨q5, h5, h⟩ := bind_some h
    obtain ⟨q6, h6, h⟩ := bind_some h
    obtain ⟨q7, h7, h⟩ := bind_some h
    obtain ⟨q8, h8, h⟩ := bind_some h
    obtain ⟨q9, h9, h⟩ := bind_some h
    obtain ⟨q10, h10, h⟩ := bind_some h
    obtain ⟨q11, h11, h⟩ := bind_some h
    obtain ⟨q12, h12, h⟩ := bind_some h
    obtain ⟨q13, h13, h⟩ := bind_some h
    obtain ⟨q14, h14, h⟩ := bind_some h
    obtain ⟨q15, h15, h⟩ := bind_some h
    obtain ⟨q16, h16, h⟩ := bind_some h
    cases h
    simp only [toV, toVL, toV_bool h0, toV_bool h1, toV_bool h2, toV_bool h3, toV_bool h4, toV_bool h5, toV_bool h6, toV_bool h7, toV_bool h8, toV_bool h9, toV_bool h10, toV_bool h11, toV_bool h12, toV_bool h13, toV_bool h14, toV_bool h15, toV_bool h16]
    rfl
  · cases h
theorem unrefl_a6_i64 {s : S} {x : List Int} (h : un_a6_i64 s = some x) : toV s = enc_a6_i64 x := by
  unfold un_a6_i64 at h
  split at h
  · obtain ⟨q0, h0, h⟩ := bind_some h
    obtain ⟨q1, h1, h⟩ := bind_some h
    obtain ⟨q2, h2, h⟩ := bind_some h
    obtain ⟨q3, h3, h⟩ := bind_some h
    obtain ⟨q4, h4, h⟩ := bind_some h
    obtain ⟨q5, h5, h⟩ := bind_some h
    cases h
    simp only [toV, toVL, toV_int h0, toV_int h1, toV_int h2, toV_int h3, toV_int h4, toV_int h5]
    rfl
  · cases h
theorem unrefl_a7_i64 {s : S} {x : List Int} (h : un_a7_i64 s = some x) : toV s = enc_a7_i64 x := by
  unfold un_a7_i64 at h
  split at h
  · obtain ⟨q0, h0, h⟩ := bind_some h
    obtain ⟨q1, h1, h⟩ := bind_some h
    obtain ⟨q2, h2, h⟩ := bind_some h
    obtain ⟨q3, h3, h⟩ := bind_some h
    obtain ⟨q4, h4, h⟩ := bind_some h
    obtain ⟨q5, h5, h⟩ := bind_some h
    obtain ⟨q6, h6, h⟩ := bind_some h
    cases h
    simp only [toV, toVL, toV_int h0, toV_int h1, toV_int h2, toV_int h3, toV_int h4, toV_int h5, toV_int h6]
    rfl
  · cases h
theorem unrefl_a4_u64 {s : S} {x : List Int} (h : un_a4_u64 s = some x) : toV s = enc_a4_u64 x := by
  unfold un_a4_u64 at h
  split at h
  · obtain ⟨q0, h0, h⟩ := bind_some h
    obtain ⟨q1, h1, h⟩ := bind_some h
    obtain ⟨q2, h2, h⟩ := bind_some h
    obtain ⟨q3, h3, h⟩ := bind_some h
    cases h
    simp only [toV, toVL, toV_int h0, toV_int h1, toV_int h2, toV_int h3]
    rfl
  · cases h
theorem unrefl_ID {s : S} {x : ID} (h : un_ID s = some x) : toV s = enc_ID x := by
  unfold un_ID at h
  split at h
  · obtain ⟨q0, h0, h⟩ := bind_some h
    obtain ⟨q1, h1, h⟩ := bind_some h
    obtain ⟨q2, h2, h⟩ := bind_some h
    cases h
    simp only [toV, toVL, toV_int h0, toV_int h1, toV_int h2]
    rfl
  · cases h
theorem unrefl_Contact {s : S} {x : Contact} (h : un_Contact s = some x) : toV s = enc_Contact x := by
  unfold un_Contact at h
  split at h
  · obtain ⟨q0, h0, h⟩ := bind_some h
    obtain ⟨q1, h1, h⟩ := bind_some h
    obtain ⟨q2, h2, h⟩ := bind_some h
    obtain ⟨q3, h3, h⟩ := bind_some h
    obtain ⟨q4, h4, h⟩ := bind_some h
    obtain ⟨q5, h5, h⟩ := bind_some h
    cases h
    simp only [toV, toVL, toV_int h0, toV_int h1, toV_int h2, toV_int h3, toV_int h4, toV_int h5]
    rfl
  · cases h
theorem unrefl_Outc {s : S} {x : Outc} (h : un_Outc s = some x) : toV s = enc_Outc x := by
  unfold un_Outc at h
  split at h
  · obtain ⟨q0, h0, h⟩ := bind_some h
    obtain ⟨q1, h1, h⟩ := bind_some h
    obtain ⟨q2, h2, h⟩ := bind_some h
    obtain ⟨q3, h3, h⟩ := bind_some h
    obtain ⟨q4, h4, h⟩ := bind_some h
    obtain ⟨q5, h5, h⟩ := bind_some h
    obtain ⟨q6, h6, h⟩ := bind_some h
    cases h
    simp only [toV, toVL, toV_int h0, toV_int h1, toV_int h2, toV_int h3, toV_int h4, toV_int h5, toV_int h6]
    rfl
  · cases h
theorem unrefl_EID {s : S} {x : EID} (h : un_EID s = some x) : toV s = enc_EID x := by
  unfold un_EID at h
  split at h
  · obtain ⟨q0, h0, h⟩ := bind_some h
    obtain ⟨q1, h1, h⟩ := bind_some h
    obtain ⟨q2, h2, h⟩ := bind_some h
    cases h
    simp only [toV, toVL, toV_int h0, toV_int h1, toV_int h2]
    rfl
  · cases h
theorem unrefl_Word {s : S} {x : Word} (h : un_Word s = some x) : toV s = enc_Word x := by
  unfold un_Word at h
  split at h
  · obtain ⟨q0, h0, h⟩ := bind_some h
    obtain ⟨q1, h1, h⟩ := bind_some h
    obtain ⟨q2, h2, h⟩ := bind_some h
    cases h
    simp only [toV, toVL, toV_int h0, toV_str h1, toV_str h2]
    rfl
  · cases h
theorem unrefl_Row {s : S} {x : Row} (h : un_Row s = some x) : toV s = enc_Row x := by
  unfold un_Row at h
  split at h
  · obtain ⟨q0, h0, h⟩ := bind_some h
    obtain ⟨q1, h1, h⟩ := bind_some h
    cases h
    simp only [toV, toVL, toV_int h0, asLst_spec h1]
    rfl
  · cases h
theorem unrefl_Fault {s : S} {x : Fault} (h : un_Fault s = some x) : toV s = enc_Fault x := by
  unfold un_Fault at h
  split at h
  · obtain ⟨q0, h0, h⟩ := bind_some h
    obtain ⟨q1, h1, h⟩ := bind_some h
    cases h
    simp only [toV, toVL, toV_int h0, toV_int h1]
    rfl
  · cases h
theorem unrefl_Mrk {s : S} {x : Mrk} (h : un_Mrk s = some x) : toV s = enc_Mrk x := by
  unfold un_Mrk at h
  split at h
  · obtain ⟨q0, h0, h⟩ := bind_some h
    obtain ⟨q1, h1, h⟩ := bind_some h
    obtain ⟨q2, h2, h⟩ := bind_some h
    obtain ⟨q3, h3, h⟩ := bind_some h
    cases h
    simp only [toV, toVL, toV_int h0, toV_int h1, toV_int h2, toV_int h3]
    rfl
  · cases h
theorem unrefl_Denial {s : S} {x : Denial} (h : un_Denial s = some x) : toV s = enc_Denial x := by
  unfold un_Denial at h
  split at h
  · obtain ⟨q0, h0, h⟩ := bind_some h
    obtain ⟨q1, h1, h⟩ := bind_some h
    obtain ⟨q2, h2, h⟩ := bind_some h
    obtain ⟨q3, h3, h⟩ := bind_some h
    obtain ⟨q4, h4, h⟩ := bind_some h
    cases h
    simp only [toV, toVL, toV_int h0, toV_int h1, toV_int h2, toV_int h3, toV_int h4]
    rfl
  · cases h
theorem unrefl_Route {s : S} {x : Route} (h : un_Route s = some x) : toV s = enc_Route x := by
  unfold un_Route at h
  split at h
  · obtain ⟨q0, h0, h⟩ := bind_some h
    obtain ⟨q1, h1, h⟩ := bind_some h
    cases h
    simp only [toV, toVL, asLst_spec h0, toV_int h1]
    rfl
  · cases h
theorem unrefl_Bundle {s : S} {x : Bundle} (h : un_Bundle s = some x) : toV s = enc_Bundle x := by
  unfold un_Bundle at h
  split at h
  · obtain ⟨q0, h0, h⟩ := bind_some h
    obtain ⟨q1, h1, h⟩ := bind_some h
    obtain ⟨q2, h2, h⟩ := bind_some h
    obtain ⟨q3, h3, h⟩ := bind_some h
    obtain ⟨q4, h4, h⟩ := bind_some h
    obtain ⟨q5, h5, h⟩ := bind_some h
    obtain ⟨q6, h6, h⟩ := bind_some h
    obtain ⟨q7, h7, h⟩ := bind_some h
    obtain ⟨q8, h8, h⟩ := bind_some h
    cases h
    simp only [toV, toVL, toV_int h0, toV_int h1, toV_int h2, toV_int h3, toV_int h4, toV_int h5, toV_int h6, toV_int h7, toV_str h8]
    rfl
  · cases h
theorem unrefl_Command {s : S} {x : Command} (h : un_Command s = some x) : toV s = enc_Command x := by
  unfold un_Command at h
  split at h
  · obtain ⟨q0, h0, h⟩ := bind_some h
    obtain ⟨q1, h1, h⟩ := bind_some h
    obtain ⟨q2, h2, h⟩ := bind_some h
    obtain ⟨q3, h3, h⟩ := bind_some h
    obtain ⟨q4, h4, h⟩ := bind_some h
    obtain ⟨q5, h5, h⟩ := bind_some h
    obtain ⟨q6, h6, h⟩ := bind_some h
    obtain ⟨q7, h7, h⟩ := bind_some h
    obtain ⟨q8, h8, h⟩ := bind_some h
    obtain ⟨q9, h9, h⟩ := bind_some h
    obtain ⟨q10, h10, h⟩ := bind_some h
    obtain ⟨q11, h11, h⟩ := bind_some h
    obtain ⟨q12, h12, h⟩ := bind_some h
    obtain ⟨q13, h13, h⟩ := bind_some h
    obtain ⟨q14, h14, h⟩ := bind_some h
    cases h
    simp only [toV, toVL, toV_int h0, toV_int h1, toV_int h2, toV_int h3, toV_int h4, toV_int h5, toV_int h6, toV_int h7, toV_int h8, toV_int h9, toV_int h10, toV_int h11, toV_int h12, toV_int h13, toV_str h14]
    rfl
  · cases h
theorem unrefl_W3 {s : S} {x : W3} (h : un_W3 s = some x) : toV s = enc_W3 x := by
  unfold un_W3 at h
  split at h
  · obtain ⟨q0, h0, h⟩ := bind_some h
    obtain ⟨q1, h1, h⟩ := bind_some h
    obtain ⟨q2, h2, h⟩ := bind_some h
    cases h
    simp only [toV, toVL, toV_int h0, toV_int h1, toV_int h2]
    rfl
  · cases h
theorem unrefl_Config {s : S} {x : Config} (h : un_Config s = some x) : toV s = enc_Config x := by
  unfold un_Config at h
  split at h
  · obtain ⟨q0, h0, h⟩ := bind_some h
    obtain ⟨q1, h1, h⟩ := bind_some h
    obtain ⟨q2, h2, h⟩ := bind_some h
    obtain ⟨q3, h3, h⟩ := bind_some h
    obtain ⟨q4, h4, h⟩ := bind_some h
    obtain ⟨q5, h5, h⟩ := bind_some h
    obtain ⟨q6, h6, h⟩ := bind_some h
    obtain ⟨q7, h7, h⟩ := bind_some h
    obtain ⟨q8, h8, h⟩ := bind_some h
    obtain ⟨q9, h9, h⟩ := bind_some h
    obtain ⟨q10, h10, h⟩ := bind_some h
    obtain ⟨q11, h11, h⟩ := bind_some h
    obtain ⟨q12, h12, h⟩ := bind_some h
    obtain ⟨q13, h13, h⟩ := bind_some h
    obtain ⟨q14, h14, h⟩ := bind_some h
    obtain ⟨q15, h15, h⟩ := bind_some h
    cases h
    simp only [toV, toVL, toV_int h0, toV_int h1, toV_int h2, toV_int h3, toV_int h4, toV_int h5, toV_int h6, toV_int h7, toV_int h8, toV_int h9, toV_int h10, toV_int h11, toV_int h12, toV_int h13, toV_int h14, toV_int h15]
    rfl
  · cases h
theorem unrefl_Script {s : S} {x : Script} (h : un_Script s = some x) : toV s = enc_Script x := by
  unfold un_Script at h
  split at h
  · obtain ⟨q0, h0, h⟩ := bind_some h
    obtain ⟨q1, h1, h⟩ := bind_some h
    obtain ⟨q2, h2, h⟩ := bind_some h
    cases h
    simp only [toV, toVL, asLst_spec h0, asLst_spec h1, asLst_spec h2]
    rfl
  · cases h
theorem unrefl_Pair {s : S} {x : Pair} (h : un_Pair s = some x) : toV s = enc_Pair x := by
  unfold un_Pair at h
  split at h
  · obtain ⟨q0, h0, h⟩ := bind_some h
    obtain ⟨q1, h1, h⟩ := bind_some h
    cases h
    simp only [toV, toVL, toV_int h0, toV_int h1]
    rfl
  · cases h
theorem unrefl_Face {s : S} {x : Face} (h : un_Face s = some x) : toV s = enc_Face x := by
  unfold un_Face at h
  split at h
  · obtain ⟨q0, h0, h⟩ := bind_some h
    obtain ⟨q1, h1, h⟩ := bind_some h
    cases h
    simp only [toV, toVL, toV_str h0, toV_int h1]
    rfl
  · cases h
theorem unrefl_Use {s : S} {x : Use} (h : un_Use s = some x) : toV s = enc_Use x := by
  unfold un_Use at h
  split at h
  · obtain ⟨q0, h0, h⟩ := bind_some h
    obtain ⟨q1, h1, h⟩ := bind_some h
    obtain ⟨q2, h2, h⟩ := bind_some h
    obtain ⟨q3, h3, h⟩ := bind_some h
    obtain ⟨q4, h4, h⟩ := bind_some h
    obtain ⟨q5, h5, h⟩ := bind_some h
    obtain ⟨q6, h6, h⟩ := bind_some h
    obtain ⟨q7, h7, h⟩ := bind_some h
    cases h
    simp only [toV, toVL, toV_str h0, toV_bool h1, toV_bool h2, toV_int h3, toV_int h4, toV_int h5, toV_int h6, toV_bool h7]
    rfl
  · cases h
theorem unrefl_Cursor {s : S} {x : Cursor} (h : un_Cursor s = some x) : toV s = enc_Cursor x := by
  unfold un_Cursor at h
  split at h
  · obtain ⟨q0, h0, h⟩ := bind_some h
    obtain ⟨q1, h1, h⟩ := bind_some h
    cases h
    simp only [toV, toVL, toV_str h0, toV_bool h1]
    rfl
  · cases h
theorem unrefl_Scanner {s : S} {x : Scanner} (h : un_Scanner s = some x) : toV s = enc_Scanner x := by
  unfold un_Scanner at h
  split at h
  · obtain ⟨q0, h0, h⟩ := bind_some h
    obtain ⟨q1, h1, h⟩ := bind_some h
    cases h
    simp only [toV, toVL, toV_str h0, toV_int h1]
    rfl
  · cases h
theorem unrefl_Key {s : S} {x : Key} (h : un_Key s = some x) : toV s = enc_Key x := by
  unfold un_Key at h
  split at h
  · obtain ⟨q0, h0, h⟩ := bind_some h
    obtain ⟨q1, h1, h⟩ := bind_some h
    obtain ⟨q2, h2, h⟩ := bind_some h
    obtain ⟨q3, h3, h⟩ := bind_some h
    cases h
    simp only [toV, toVL, toV_int h0, toV_int h1, toV_int h2, toV_int h3]
    rfl
  · cases h
theorem unrefl_enc : ∀ {c : C} {s : S} {x : den c}, unrefl c s = some x → toV s = enc c x
  | .i64, s, x, h => toV_int h
  | .u64, s, x, h => toV_int h
  | .i32, s, x, h => toV_int h
  | .u32, s, x, h => toV_int h
  | .u8, s, x, h => toV_int h
  | .i16, s, x, h => toV_int h
  | .u16, s, x, h => toV_int h
  | .i8, s, x, h => toV_int h
  | .bool, s, x, h => toV_bool h
  | .str, s, x, h => toV_str h
  | .iv, s, x, h => toV_iv h
  | .a17_bool, s, x, h => unrefl_a17_bool h
  | .a6_i64, s, x, h => unrefl_a6_i64 h
  | .a7_i64, s, x, h => unrefl_a7_i64 h
  | .a4_u64, s, x, h => unrefl_a4_u64 h
  | .ID, s, x, h => unrefl_ID h
  | .Contact, s, x, h => unrefl_Contact h
  | .Outc, s, x, h => unrefl_Outc h
  | .EID, s, x, h => unrefl_EID h
  | .Word, s, x, h => unrefl_Word h
  | .Row, s, x, h => unrefl_Row h
  | .Fault, s, x, h => unrefl_Fault h
  | .Mrk, s, x, h => unrefl_Mrk h
  | .Denial, s, x, h => unrefl_Denial h
  | .Route, s, x, h => unrefl_Route h
  | .Bundle, s, x, h => unrefl_Bundle h
  | .Command, s, x, h => unrefl_Command h
  | .W3, s, x, h => unrefl_W3 h
  | .Config, s, x, h => unrefl_Config h
  | .Script, s, x, h => unrefl_Script h
  | .Pair, s, x, h => unrefl_Pair h
  | .Face, s, x, h => unrefl_Face h
  | .Use, s, x, h => unrefl_Use h
  | .Cursor, s, x, h => unrefl_Cursor h
  | .Scanner, s, x, h => unrefl_Scanner h
  | .Key, s, x, h => unrefl_Key h
  | .l_W3, s, x, h => asLst_spec h
  | .l_Pair, s, x, h => asLst_spec h
  | .l_i64, s, x, h => asLst_spec h
  | .l_u64, s, x, h => asLst_spec h
  | .l_u8, s, x, h => asLst_spec h
  | .l_bool, s, x, h => asLst_spec h
  | .l_str, s, x, h => asLst_spec h
  | .l_ID, s, x, h => asLst_spec h
  | .l_Contact, s, x, h => asLst_spec h
  | .l_Outc, s, x, h => asLst_spec h
  | .l_EID, s, x, h => asLst_spec h
  | .l_Word, s, x, h => asLst_spec h
  | .l_Row, s, x, h => asLst_spec h
  | .l_Mrk, s, x, h => asLst_spec h
  | .l_Denial, s, x, h => asLst_spec h
  | .l_Route, s, x, h => asLst_spec h
  | .l_Bundle, s, x, h => asLst_spec h
  | .l_Command, s, x, h => asLst_spec h
  | .l_Config, s, x, h => asLst_spec h
  | .l_Face, s, x, h => asLst_spec h
  | .l_Use, s, x, h => asLst_spec h
  | .l_l_Contact, s, x, h => asLst_spec h
  | .l_l_i64, s, x, h => asLst_spec h
  | .l_iv, s, x, h => asLst_spec h
theorem refl_enc : ∀ (c : C) (x : den c), toV (refl c x) = enc c x := by
  intro c x; cases c <;> simp only [refl, enc, refl_i64, refl_u64, refl_i32, refl_u32, refl_u8, refl_i16, refl_u16, refl_i8, refl_bool, refl_str, refl_iv, refl_a17_bool, refl_a6_i64, refl_a7_i64, refl_a4_u64, refl_ID, refl_Contact, refl_Outc, refl_EID, refl_Word, refl_Row, refl_Fault, refl_Mrk, refl_Denial, refl_Route, refl_Bundle, refl_Command, refl_W3, refl_Config, refl_Script, refl_Pair, refl_Face, refl_Use, refl_Cursor, refl_Scanner, refl_Key, refl_l_W3, refl_l_Pair, refl_l_i64, refl_l_u64, refl_l_u8, refl_l_bool, refl_l_str, refl_l_ID, refl_l_Contact, refl_l_Outc, refl_l_EID, refl_l_Word, refl_l_Row, refl_l_Mrk, refl_l_Denial, refl_l_Route, refl_l_Bundle, refl_l_Command, refl_l_Config, refl_l_Face, refl_l_Use, refl_l_l_Contact, refl_l_l_i64, refl_l_iv, toV, toVL] <;> rfl
end Go.X
