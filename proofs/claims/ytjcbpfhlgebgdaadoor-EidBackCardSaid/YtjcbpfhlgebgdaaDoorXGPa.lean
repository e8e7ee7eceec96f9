import Derived.Test.YtjcbpfhlgebgdaaDoorXTt
import Derived.Test.YtjcbpfhlgebgdaaDoorX9
import Derived.Test.YtjcbpfhlgebgdaaDoorChecked
import Derived.KernelRfl
set_option linter.unusedSimpArgs false
set_option linter.unusedVariables false
namespace Go.Proofs.YtjcbpfhlgebgdaaDoor
open Go.X Go.Eng
theorem keyed53:Go.Eng.KeyT Tryd.prog 53:=Go.Eng.KeyT.struct (n:=24) (Go.deep_law_laid (by kernel_rfl) (m:=4) (by omega) (of_decide_eq_true (by kernel_rfl)) (by kernel_rfl) (by kernel_rfl)) Tryd.underlying53 (by kernel_rfl) (show Go.Eng.keyT Tryd.prog 53 = some (true,[.int .i64,.int .i64,.int .i64,.int .i64,.int .u64,.int .i64,.int .i64]) by kernel_rfl) (by kernel_rfl) (by kernel_rfl) (by kernel_rfl)
theorem keyed164:Go.Eng.KeyT Tryd.prog 164:=Go.Eng.KeyT.pair (e:=3) (q:=.i64) ⟨by kernel_rfl,by kernel_rfl,by kernel_rfl,by kernel_rfl⟩ (by kernel_rfl) ⟨303,by kernel_rfl⟩ (Go.deep_law_laid (by kernel_rfl) (m:=2) (by omega) (of_decide_eq_true (by kernel_rfl)) (by kernel_rfl) (by kernel_rfl)) (by kernel_rfl)
def keyB (t:TypeId):Bool:=Nat.beq t 53 || Nat.beq t 164
theorem keyB_ok (t:TypeId) (h:keyB t = true):Go.Eng.KeyT Tryd.prog t:=by
 simp only [keyB,Bool.or_eq_true] at h
 rcases h with h | h
 ·have:=Nat.eq_of_beq_eq_true h; subst this; exact keyed53
 ·have:=Nat.eq_of_beq_eq_true h; subst this; exact keyed164
def codes:List (Option C):=[none,none,some .i64,some .i64,some .bool,some .u8,some .u8,none,none,some .str,some .str,some .str,some .u64,none,none,none,none,none,none,none,none,some .i32,some .l_Contact,none,some .i64,none,none,none,none,some .Fault,some .Fault,none,none,none,none,some .l_i64,none,none,some .l_Outc,none,none,none,none,none,none,none,none,none,none,some .u64,some .ID,some .ID,some .Outc,some .Outc,none,some .l_Mrk,none,none,none,none,none,none,none,none,none,none,none,none,some .EID,some .EID,none,none,none,none,some .l_EID,none,none,none,none,none,none,none,some .Contact,some .Contact,none,none,none,none,some .l_u8,some .a6_i64,none,none,some .l_Row,none,none,some .l_Word,some .Row,some .Row,none,none,some .Word,some .Word,none,none,none,none,none,none,none,none,none,none,none,none,none,none,none,none,none,none,none,none,none,none,none,none,none,none,none,some .Mrk,some .Mrk,none,none,none,none,none,none,none,none,none,none,none,none,none,none,none,some .Cursor,some .Cursor,none,none,none,none,none,none,none,none,none,none,some .l_str,none,none,none,none,some .Pair,some .Pair,none,none,none,none,none,none,none,none,none,none,none,some .a7_i64,none,none,none,none,some .Face,some .Face,none,some .i64,some .i64,some .i64,none,some .ID,some .i64,none,none,none,none,none,none,none,some .l_Face,none,none,none,none,none,none,none,none,none,none,none,none,some .a17_bool,some .a17_bool,none,none,none,none,none,none,none,none,none,none,none,none,none,some .Scanner,some .Scanner,none,none,none,none,none,none,some .W3,some .W3,some .l_W3,none,none,none,some .W3,none,none,some .u64,none,none,none,none,none,none,none,none,none,none,none,none,none,none,none,none,none,none,none,none,none,none,none,none,none,none,none,none,some .u32,none,none,none,none,none,none,none,none,none,none,none,none,none,none,none,none,none,none,none,none,none,none,none,none,some .u8,some .u8,none,some .i32,some .i32,none,none,none]
noncomputable def ctx (wr:Nat) (l:List (XSpec Tryd.prog)):XCtx Tryd.prog:={ code:=fun t=>(codes[t]?).getD none,wr:=wr,key:=keyB,keyed:=keyB_ok,known:=l }
noncomputable def internal_stringslite_HasPrefix:((List UInt8) × (List UInt8))→Option Bool :=
 fun (s_1,prefix_2) =>
 br (decide ((prefix_2.length:Int) ≤ (s_1.length:Int)))
  ((slc s_1 (0:Int) (prefix_2.length:Int)).bind fun x_3 =>
  some (x_3 == prefix_2))
  (some false)
def internal_stringslite_HasPrefix.ann:Ann:=.no
set_option maxRecDepth 100000 in
theorem internal_stringslite_HasPrefix.fn:FnT Tryd.prog 175 [.d .str,.d .str] [.bool] internal_stringslite_HasPrefix :=
 FnT.of (X:=ctx 0 []) Tryd.mixed internal_stringslite_HasPrefix.ann Tryd.func175 rfl (by kernel_rfl) (Nat.le_of_ble_eq_true rfl) (fun x=>by kernel_rfl)
noncomputable def internal_stringslite_HasPrefix.spec:XSpec Tryd.prog:=XSpec.t 175 [.d .str,.d .str] [.bool] internal_stringslite_HasPrefix (by kernel_rfl) internal_stringslite_HasPrefix.fn
noncomputable def internal_stringslite_CutPrefix:((List UInt8) × (List UInt8))→Option ((List UInt8) × Bool) :=
 fun (s_1,prefix_2) =>
 (internal_stringslite_HasPrefix (s_1,prefix_2)).bind fun x_3 =>
 br (!x_3)
  (some (s_1,false))
  ((slc s_1 (prefix_2.length:Int) (s_1.length:Int)).bind fun x_4 =>
  some (x_4,true))
def internal_stringslite_CutPrefix.ann:Ann:=.no
set_option maxRecDepth 100000 in
theorem internal_stringslite_CutPrefix.fn:FnT Tryd.prog 174 [.d .str,.d .str] [.str,.bool] internal_stringslite_CutPrefix :=
 FnT.of (X:=ctx 0 [internal_stringslite_HasPrefix.spec]) Tryd.mixed internal_stringslite_CutPrefix.ann Tryd.func174 rfl (by kernel_rfl) (Nat.le_of_ble_eq_true rfl) (fun x=>by kernel_rfl)
noncomputable def internal_stringslite_CutPrefix.spec:XSpec Tryd.prog:=XSpec.t 174 [.d .str,.d .str] [.str,.bool] internal_stringslite_CutPrefix (by kernel_rfl) internal_stringslite_CutPrefix.fn
noncomputable def strings_CutPrefix:((List UInt8) × (List UInt8))→Option ((List UInt8) × Bool) :=
 fun (s_1,prefix_2) =>
 (internal_stringslite_CutPrefix (s_1,prefix_2)).bind fun (x_3,x_4) =>
 some (x_3,x_4)
def strings_CutPrefix.ann:Ann:=.no
set_option maxRecDepth 100000 in
theorem strings_CutPrefix.fn:FnT Tryd.prog 150 [.d .str,.d .str] [.str,.bool] strings_CutPrefix :=
 FnT.of (X:=ctx 0 [internal_stringslite_CutPrefix.spec]) Tryd.mixed strings_CutPrefix.ann Tryd.func150 rfl (by kernel_rfl) (Nat.le_of_ble_eq_true rfl) (fun x=>by kernel_rfl)
noncomputable def strings_CutPrefix.spec:XSpec Tryd.prog:=XSpec.t 150 [.d .str,.d .str] [.str,.bool] strings_CutPrefix (by kernel_rfl) strings_CutPrefix.fn
noncomputable def eid_cursor_skip:(Cursor × (List UInt8))→Option Cursor :=
 fun (c_1,s_2) =>
 (strings_CutPrefix (c_1.left,s_2)).bind fun (x_3,x_4) =>
 br c_1.ok
  (some (⟨x_3,x_4⟩:Cursor))
  (some (⟨x_3,false⟩:Cursor))
def eid_cursor_skip.ann:Ann:=.no
set_option maxRecDepth 100000 in
theorem eid_cursor_skip.fn:FnT Tryd.prog 103 [.d .Cursor,.d .str] [.Cursor] eid_cursor_skip :=
 FnT.of (X:=ctx 0 [strings_CutPrefix.spec]) Tryd.mixed eid_cursor_skip.ann Tryd.func103 rfl (by kernel_rfl) (Nat.le_of_ble_eq_true rfl) (fun x=>by kernel_rfl)
noncomputable def eid_cursor_skip.spec:XSpec Tryd.prog:=XSpec.t 103 [.d .Cursor,.d .str] [.Cursor] eid_cursor_skip (by kernel_rfl) eid_cursor_skip.fn
noncomputable def strings_HasPrefix:((List UInt8) × (List UInt8))→Option Bool :=
 fun (s_1,prefix_2) =>
 (internal_stringslite_HasPrefix (s_1,prefix_2)).bind fun x_3 =>
 some x_3
def strings_HasPrefix.ann:Ann:=.no
set_option maxRecDepth 100000 in
theorem strings_HasPrefix.fn:FnT Tryd.prog 151 [.d .str,.d .str] [.bool] strings_HasPrefix :=
 FnT.of (X:=ctx 0 [internal_stringslite_HasPrefix.spec]) Tryd.mixed strings_HasPrefix.ann Tryd.func151 rfl (by kernel_rfl) (Nat.le_of_ble_eq_true rfl) (fun x=>by kernel_rfl)
noncomputable def strings_HasPrefix.spec:XSpec Tryd.prog:=XSpec.t 151 [.d .str,.d .str] [.bool] strings_HasPrefix (by kernel_rfl) strings_HasPrefix.fn
noncomputable def eid_cursor_sees:(Cursor × (List UInt8))→Option Bool :=
 fun (c_1,s_2) =>
 (strings_HasPrefix (c_1.left,s_2)).bind fun x_3 =>
 some x_3
def eid_cursor_sees.ann:Ann:=.no
set_option maxRecDepth 100000 in
theorem eid_cursor_sees.fn:FnT Tryd.prog 104 [.d .Cursor,.d .str] [.bool] eid_cursor_sees :=
 FnT.of (X:=ctx 0 [strings_HasPrefix.spec]) Tryd.mixed eid_cursor_sees.ann Tryd.func104 rfl (by kernel_rfl) (Nat.le_of_ble_eq_true rfl) (fun x=>by kernel_rfl)
noncomputable def eid_cursor_sees.spec:XSpec Tryd.prog:=XSpec.t 104 [.d .Cursor,.d .str] [.bool] eid_cursor_sees (by kernel_rfl) eid_cursor_sees.fn
noncomputable def eid_Check:EID→Option Int :=
 fun e_1 =>
 br (decide (e_1.Low < (1:Int)))
  (some (2:Int))
  (br (decide (e_1.High < e_1.Low))
   (some (2:Int))
   (br (decide ((16:Int) < e_1.High))
    (some (2:Int))
    (br (decide (e_1.Service < (-1:Int)))
     (some (2:Int))
     (br (decide ((999:Int) < e_1.Service))
      (some (2:Int))
      (some (0:Int))))))
def eid_Check.ann:Ann:=.no
set_option maxRecDepth 100000 in
theorem eid_Check.fn:FnT Tryd.prog 41 [.d .EID] [.i64] eid_Check :=
 FnT.of (X:=ctx 0 []) Tryd.mixed eid_Check.ann Tryd.func41 rfl (by kernel_rfl) (Nat.le_of_ble_eq_true rfl) (fun x=>by kernel_rfl)
noncomputable def eid_Check.spec:XSpec Tryd.prog:=XSpec.t 41 [.d .EID] [.i64] eid_Check (by kernel_rfl) eid_Check.fn
noncomputable def words_Number:List UInt8→Option (Int × Bool) :=
 fun s_1 =>
 br (s_1 == ([]:List UInt8))
  (some ((0:Int),false))
  ((idxS s_1 (0:Int)).bind fun x_2 =>
  br (x_2 == (48:Int))
   (br (decide ((1:Int) < (s_1.length:Int)))
    (some ((0:Int),false))
    ((iter (σ:=Int × Int) (ρ:=(Int × Bool) ⊕ (Int)) (fun (n_3,x_4) =>
     br (decide (x_4 < ((bytesI s_1).length:Int)))
      ((idx (bytesI s_1) x_4).bind fun x_5 =>
      br (decide (x_5 < (48:Int)))
       (some (.done (.inl ((0:Int),false))))
       (br (decide ((57:Int) < x_5))
        (some (.done (.inl ((0:Int),false))))
        ((mulI .u64 (10:Int) n_3).bind fun x_6 =>
        (subI .u8 x_5 (48:Int)).bind fun x_7 =>
        (addI .u64 x_6 (Go.IntKind.wrap .u64 x_7)).bind fun x_8 =>
        br (decide ((1125899906842624:Int) < x_8))
         (some (.done (.inl ((0:Int),false))))
         ((addI .i64 x_4 (1:Int)).bind fun x_9 =>
         some (.next (x_8,x_9))))))
      (some (.done (.inr n_3)))) ((0:Int),(0:Int))).bind fun x_13 =>
    Sum.elim
     (fun (x_10,x_11) =>
     some (x_10,x_11))
     (fun n_12 =>
     some (n_12,true)) x_13))
   ((iter (σ:=Int × Int) (ρ:=(Int × Bool) ⊕ (Int)) (fun (n_14,x_15) =>
    br (decide (x_15 < ((bytesI s_1).length:Int)))
     ((idx (bytesI s_1) x_15).bind fun x_16 =>
     br (decide (x_16 < (48:Int)))
      (some (.done (.inl ((0:Int),false))))
      (br (decide ((57:Int) < x_16))
       (some (.done (.inl ((0:Int),false))))
       ((mulI .u64 (10:Int) n_14).bind fun x_17 =>
       (subI .u8 x_16 (48:Int)).bind fun x_18 =>
       (addI .u64 x_17 (Go.IntKind.wrap .u64 x_18)).bind fun x_19 =>
       br (decide ((1125899906842624:Int) < x_19))
        (some (.done (.inl ((0:Int),false))))
        ((addI .i64 x_15 (1:Int)).bind fun x_20 =>
        some (.next (x_19,x_20))))))
     (some (.done (.inr n_14)))) ((0:Int),(0:Int))).bind fun x_24 =>
   Sum.elim
    (fun (x_21,x_22) =>
    some (x_21,x_22))
    (fun n_23 =>
    some (n_23,true)) x_24))
def words_Number.ann:Ann:=(.two .no (.two .no (.two .no (.two (.two .no (.loop [2,3,4,6,22,23,24,25,26,27,28,29,30,31,32,33,34,35,36,37,38,39,40] [] [.slot 4 .u64 none,.slot 22 .i64 none] [(.ret,[.slot 2 .u64 none,.slot 3 .bool none]),(.exit 0,[.slot 4 .u64 none])] .no)) .no))))
set_option maxRecDepth 100000 in
theorem words_Number.fn:FnT Tryd.prog 122 [.d .str] [.u64,.bool] words_Number :=
 FnT.of (X:=ctx 0 []) Tryd.mixed words_Number.ann Tryd.func122 rfl (by kernel_rfl) (Nat.le_of_ble_eq_true rfl) (fun x=>by kernel_rfl)
noncomputable def words_Number.spec:XSpec Tryd.prog:=XSpec.t 122 [.d .str] [.u64,.bool] words_Number (by kernel_rfl) words_Number.fn
noncomputable def eid_cursor_number:Cursor→EID→Option ((Cursor) × (EID)) :=
 fun c_1 x_2 =>
 (strings_TrimLeft (c_1.left,([48,49,50,51,52,53,54,55,56,57]:List UInt8))).bind fun x_3 =>
 (subI .i64 (c_1.left.length:Int) (x_3.length:Int)).bind fun x_4 =>
 (slc c_1.left (0:Int) x_4).bind fun x_5 =>
 (words_Number x_5).bind fun (x_6,x_7) =>
 br c_1.ok
  (some ((⟨x_3,x_7⟩:Cursor),(⟨x_2.Low,x_2.High,Go.IntKind.wrap .i64 x_6⟩:EID)))
  (some ((⟨x_3,false⟩:Cursor),(⟨x_2.Low,x_2.High,Go.IntKind.wrap .i64 x_6⟩:EID)))
def eid_cursor_number.ann:Ann:=.no
set_option maxRecDepth 100000 in
theorem eid_cursor_number.fn:FnB Tryd.prog 105 [.d .Cursor,.l 0 2] [(.EID,69)] [.Cursor] eid_cursor_number :=
 FnB.of (X:=ctx 0 [strings_TrimLeft.spec,words_Number.spec]) Tryd.mixed eid_cursor_number.ann Tryd.func105 rfl (by kernel_rfl) (Nat.le_of_ble_eq_true rfl) (fun x y=>by kernel_rfl)
noncomputable def eid_cursor_number.spec:XSpec Tryd.prog:=XSpec.b 105 [.d .Cursor,.l 0 2] [(.EID,69)] [.Cursor] eid_cursor_number (by kernel_rfl) eid_cursor_number.fn
noncomputable def eid_cursor_number_2:Cursor→EID→Option ((Cursor) × (EID)) :=
 fun c_1 x_2 =>
 (strings_TrimLeft (c_1.left,([48,49,50,51,52,53,54,55,56,57]:List UInt8))).bind fun x_3 =>
 (subI .i64 (c_1.left.length:Int) (x_3.length:Int)).bind fun x_4 =>
 (slc c_1.left (0:Int) x_4).bind fun x_5 =>
 (words_Number x_5).bind fun (x_6,x_7) =>
 br c_1.ok
  (some ((⟨x_3,x_7⟩:Cursor),(⟨Go.IntKind.wrap .i64 x_6,x_2.High,x_2.Service⟩:EID)))
  (some ((⟨x_3,false⟩:Cursor),(⟨Go.IntKind.wrap .i64 x_6,x_2.High,x_2.Service⟩:EID)))
def eid_cursor_number_2.ann:Ann:=.no
set_option maxRecDepth 100000 in
theorem eid_cursor_number_2.fn:FnB Tryd.prog 105 [.d .Cursor,.l 0 0] [(.EID,69)] [.Cursor] eid_cursor_number_2 :=
 FnB.of (X:=ctx 0 [strings_TrimLeft.spec,words_Number.spec]) Tryd.mixed eid_cursor_number_2.ann Tryd.func105 rfl (by kernel_rfl) (Nat.le_of_ble_eq_true rfl) (fun x y=>by kernel_rfl)
noncomputable def eid_cursor_number_2.spec:XSpec Tryd.prog:=XSpec.b 105 [.d .Cursor,.l 0 0] [(.EID,69)] [.Cursor] eid_cursor_number_2 (by kernel_rfl) eid_cursor_number_2.fn
noncomputable def eid_cursor_number_3:Cursor→EID→Option ((Cursor) × (EID)) :=
 fun c_1 x_2 =>
 (strings_TrimLeft (c_1.left,([48,49,50,51,52,53,54,55,56,57]:List UInt8))).bind fun x_3 =>
 (subI .i64 (c_1.left.length:Int) (x_3.length:Int)).bind fun x_4 =>
 (slc c_1.left (0:Int) x_4).bind fun x_5 =>
 (words_Number x_5).bind fun (x_6,x_7) =>
 br c_1.ok
  (some ((⟨x_3,x_7⟩:Cursor),(⟨x_2.Low,Go.IntKind.wrap .i64 x_6,x_2.Service⟩:EID)))
  (some ((⟨x_3,false⟩:Cursor),(⟨x_2.Low,Go.IntKind.wrap .i64 x_6,x_2.Service⟩:EID)))
def eid_cursor_number_3.ann:Ann:=.no
set_option maxRecDepth 100000 in
theorem eid_cursor_number_3.fn:FnB Tryd.prog 105 [.d .Cursor,.l 0 1] [(.EID,69)] [.Cursor] eid_cursor_number_3 :=
 FnB.of (X:=ctx 0 [strings_TrimLeft.spec,words_Number.spec]) Tryd.mixed eid_cursor_number_3.ann Tryd.func105 rfl (by kernel_rfl) (Nat.le_of_ble_eq_true rfl) (fun x y=>by kernel_rfl)
noncomputable def eid_cursor_number_3.spec:XSpec Tryd.prog:=XSpec.b 105 [.d .Cursor,.l 0 1] [(.EID,69)] [.Cursor] eid_cursor_number_3 (by kernel_rfl) eid_cursor_number_3.fn
noncomputable def eid_Parse:List UInt8→Option (EID × Int) :=
 fun s_1 =>
 (eid_cursor_skip ((⟨s_1,true⟩:Cursor),([110]:List UInt8))).bind fun x_2 =>
 (eid_cursor_sees (x_2,([42]:List UInt8))).bind fun x_3 =>
 br x_3
  ((eid_cursor_skip (x_2,([42]:List UInt8))).bind fun x_4 =>
  (eid_cursor_sees (x_4,([46,42]:List UInt8))).bind fun x_5 =>
  br x_5
   ((eid_cursor_skip (x_4,([46,42]:List UInt8))).bind fun x_6 =>
   br (!x_6.ok)
    (some ((⟨(0:Int),(0:Int),(0:Int)⟩:EID),(3:Int)))
    (br (!(x_6.left == ([]:List UInt8)))
     (some ((⟨(0:Int),(0:Int),(0:Int)⟩:EID),(3:Int)))
     ((eid_Check (⟨(1:Int),(16:Int),(-1:Int)⟩:EID)).bind fun x_7 =>
     br (x_7 != (0:Int))
      (some ((⟨(0:Int),(0:Int),(0:Int)⟩:EID),x_7))
      (some ((⟨(1:Int),(16:Int),(-1:Int)⟩:EID),(0:Int))))))
   ((eid_cursor_sees (x_4,([46]:List UInt8))).bind fun x_8 =>
   br x_8
    ((eid_cursor_skip (x_4,([46]:List UInt8))).bind fun x_9 =>
    (eid_cursor_number x_9 (⟨(1:Int),(16:Int),(0:Int)⟩:EID)).bind fun (x_10,x_11) =>
    br (!x_10.ok)
     (some ((⟨(0:Int),(0:Int),(0:Int)⟩:EID),(3:Int)))
     (br (!(x_10.left == ([]:List UInt8)))
      (some ((⟨(0:Int),(0:Int),(0:Int)⟩:EID),(3:Int)))
      ((eid_Check x_11).bind fun x_12 =>
      br (x_12 != (0:Int))
       (some ((⟨(0:Int),(0:Int),(0:Int)⟩:EID),x_12))
       (some (x_11,(0:Int))))))
    (br (!x_4.ok)
     (some ((⟨(0:Int),(0:Int),(0:Int)⟩:EID),(3:Int)))
     (br (!(x_4.left == ([]:List UInt8)))
      (some ((⟨(0:Int),(0:Int),(0:Int)⟩:EID),(3:Int)))
      ((eid_Check (⟨(1:Int),(16:Int),(0:Int)⟩:EID)).bind fun x_13 =>
      br (x_13 != (0:Int))
       (some ((⟨(0:Int),(0:Int),(0:Int)⟩:EID),x_13))
       (some ((⟨(1:Int),(16:Int),(0:Int)⟩:EID),(0:Int))))))))
  ((eid_cursor_number_2 x_2 (⟨(1:Int),(16:Int),(0:Int)⟩:EID)).bind fun (x_14,x_15) =>
  (eid_cursor_sees (x_14,([45]:List UInt8))).bind fun x_16 =>
  br x_16
   ((eid_cursor_skip (x_14,([45]:List UInt8))).bind fun x_17 =>
   (eid_cursor_number_3 x_17 (⟨x_15.Low,x_15.Low,x_15.Service⟩:EID)).bind fun (x_18,x_19) =>
   (eid_cursor_sees (x_18,([46,42]:List UInt8))).bind fun x_20 =>
   br x_20
    ((eid_cursor_skip (x_18,([46,42]:List UInt8))).bind fun x_21 =>
    br (!x_21.ok)
     (some ((⟨(0:Int),(0:Int),(0:Int)⟩:EID),(3:Int)))
     (br (!(x_21.left == ([]:List UInt8)))
      (some ((⟨(0:Int),(0:Int),(0:Int)⟩:EID),(3:Int)))
      ((eid_Check (⟨x_19.Low,x_19.High,(-1:Int)⟩:EID)).bind fun x_22 =>
      br (x_22 != (0:Int))
       (some ((⟨(0:Int),(0:Int),(0:Int)⟩:EID),x_22))
       (some ((⟨x_19.Low,x_19.High,(-1:Int)⟩:EID),(0:Int))))))
    ((eid_cursor_sees (x_18,([46]:List UInt8))).bind fun x_23 =>
    br x_23
     ((eid_cursor_skip (x_18,([46]:List UInt8))).bind fun x_24 =>
     (eid_cursor_number x_24 x_19).bind fun (x_25,x_26) =>
     br (!x_25.ok)
      (some ((⟨(0:Int),(0:Int),(0:Int)⟩:EID),(3:Int)))
      (br (!(x_25.left == ([]:List UInt8)))
       (some ((⟨(0:Int),(0:Int),(0:Int)⟩:EID),(3:Int)))
       ((eid_Check x_26).bind fun x_27 =>
       br (x_27 != (0:Int))
        (some ((⟨(0:Int),(0:Int),(0:Int)⟩:EID),x_27))
        (some (x_26,(0:Int))))))
     (br (!x_18.ok)
      (some ((⟨(0:Int),(0:Int),(0:Int)⟩:EID),(3:Int)))
      (br (!(x_18.left == ([]:List UInt8)))
       (some ((⟨(0:Int),(0:Int),(0:Int)⟩:EID),(3:Int)))
       ((eid_Check x_19).bind fun x_28 =>
       br (x_28 != (0:Int))
        (some ((⟨(0:Int),(0:Int),(0:Int)⟩:EID),x_28))
        (some (x_19,(0:Int))))))))
   ((eid_cursor_sees (x_14,([46,42]:List UInt8))).bind fun x_29 =>
   br x_29
    ((eid_cursor_skip (x_14,([46,42]:List UInt8))).bind fun x_30 =>
    br (!x_30.ok)
     (some ((⟨(0:Int),(0:Int),(0:Int)⟩:EID),(3:Int)))
     (br (!(x_30.left == ([]:List UInt8)))
      (some ((⟨(0:Int),(0:Int),(0:Int)⟩:EID),(3:Int)))
      ((eid_Check (⟨x_15.Low,x_15.Low,(-1:Int)⟩:EID)).bind fun x_31 =>
      br (x_31 != (0:Int))
       (some ((⟨(0:Int),(0:Int),(0:Int)⟩:EID),x_31))
       (some ((⟨x_15.Low,x_15.Low,(-1:Int)⟩:EID),(0:Int))))))
    ((eid_cursor_sees (x_14,([46]:List UInt8))).bind fun x_32 =>
    br x_32
     ((eid_cursor_skip (x_14,([46]:List UInt8))).bind fun x_33 =>
     (eid_cursor_number x_33 (⟨x_15.Low,x_15.Low,x_15.Service⟩:EID)).bind fun (x_34,x_35) =>
     br (!x_34.ok)
      (some ((⟨(0:Int),(0:Int),(0:Int)⟩:EID),(3:Int)))
      (br (!(x_34.left == ([]:List UInt8)))
       (some ((⟨(0:Int),(0:Int),(0:Int)⟩:EID),(3:Int)))
       ((eid_Check x_35).bind fun x_36 =>
       br (x_36 != (0:Int))
        (some ((⟨(0:Int),(0:Int),(0:Int)⟩:EID),x_36))
        (some (x_35,(0:Int))))))
     (br (!x_14.ok)
      (some ((⟨(0:Int),(0:Int),(0:Int)⟩:EID),(3:Int)))
      (br (!(x_14.left == ([]:List UInt8)))
       (some ((⟨(0:Int),(0:Int),(0:Int)⟩:EID),(3:Int)))
       ((eid_Check (⟨x_15.Low,x_15.Low,x_15.Service⟩:EID)).bind fun x_37 =>
       br (x_37 != (0:Int))
        (some ((⟨(0:Int),(0:Int),(0:Int)⟩:EID),x_37))
        (some ((⟨x_15.Low,x_15.Low,x_15.Service⟩:EID),(0:Int)))))))))
def eid_Parse.ann:Ann:=.no
set_option maxRecDepth 100000 in
theorem eid_Parse.fn:FnT Tryd.prog 45 [.d .str] [.EID,.i64] eid_Parse :=
 FnT.of (X:=ctx 0 [eid_cursor_skip.spec,eid_cursor_sees.spec,eid_Check.spec,eid_cursor_number.spec,eid_cursor_number_2.spec,eid_cursor_number_3.spec]) Tryd.mixed eid_Parse.ann Tryd.func45 rfl (by kernel_rfl) (Nat.le_of_ble_eq_true rfl) (fun x=>by kernel_rfl)
noncomputable def eid_Parse.spec:XSpec Tryd.prog:=XSpec.t 45 [.d .str] [.EID,.i64] eid_Parse (by kernel_rfl) eid_Parse.fn
noncomputable def eid_Text:EID→Option ((List UInt8) × Int) :=
 fun e_1 =>
 (eid_Check e_1).bind fun x_2 =>
 br (x_2 != (0:Int))
  (some (([]:List UInt8),x_2))
  (br (e_1.Low == (1:Int))
   (br (e_1.High == (16:Int))
    ((catS ([110]:List UInt8) ([42]:List UInt8)).bind fun x_3 =>
    br (e_1.Service == (0:Int))
     (some (x_3,(0:Int)))
     (br (e_1.Service == (-1:Int))
      ((catS x_3 ([46,42]:List UInt8)).bind fun x_4 =>
      some (x_4,(0:Int)))
      ((strconv_Itoa e_1.Service).bind fun x_5 =>
      (catS ([46]:List UInt8) x_5).bind fun x_6 =>
      (catS x_3 x_6).bind fun x_7 =>
      some (x_7,(0:Int)))))
    (br (e_1.Low == e_1.High)
     ((strconv_Itoa e_1.Low).bind fun x_8 =>
     (catS ([110]:List UInt8) x_8).bind fun x_9 =>
     br (e_1.Service == (0:Int))
      (some (x_9,(0:Int)))
      (br (e_1.Service == (-1:Int))
       ((catS x_9 ([46,42]:List UInt8)).bind fun x_10 =>
       some (x_10,(0:Int)))
       ((strconv_Itoa e_1.Service).bind fun x_11 =>
       (catS ([46]:List UInt8) x_11).bind fun x_12 =>
       (catS x_9 x_12).bind fun x_13 =>
       some (x_13,(0:Int)))))
     ((strconv_Itoa e_1.Low).bind fun x_14 =>
     (catS x_14 ([45]:List UInt8)).bind fun x_15 =>
     (strconv_Itoa e_1.High).bind fun x_16 =>
     (catS x_15 x_16).bind fun x_17 =>
     (catS ([110]:List UInt8) x_17).bind fun x_18 =>
     br (e_1.Service == (0:Int))
      (some (x_18,(0:Int)))
      (br (e_1.Service == (-1:Int))
       ((catS x_18 ([46,42]:List UInt8)).bind fun x_19 =>
       some (x_19,(0:Int)))
       ((strconv_Itoa e_1.Service).bind fun x_20 =>
       (catS ([46]:List UInt8) x_20).bind fun x_21 =>
       (catS x_18 x_21).bind fun x_22 =>
       some (x_22,(0:Int)))))))
   (br (e_1.Low == e_1.High)
    ((strconv_Itoa e_1.Low).bind fun x_23 =>
    (catS ([110]:List UInt8) x_23).bind fun x_24 =>
    br (e_1.Service == (0:Int))
     (some (x_24,(0:Int)))
     (br (e_1.Service == (-1:Int))
      ((catS x_24 ([46,42]:List UInt8)).bind fun x_25 =>
      some (x_25,(0:Int)))
      ((strconv_Itoa e_1.Service).bind fun x_26 =>
      (catS ([46]:List UInt8) x_26).bind fun x_27 =>
      (catS x_24 x_27).bind fun x_28 =>
      some (x_28,(0:Int)))))
    ((strconv_Itoa e_1.Low).bind fun x_29 =>
    (catS x_29 ([45]:List UInt8)).bind fun x_30 =>
    (strconv_Itoa e_1.High).bind fun x_31 =>
    (catS x_30 x_31).bind fun x_32 =>
    (catS ([110]:List UInt8) x_32).bind fun x_33 =>
    br (e_1.Service == (0:Int))
     (some (x_33,(0:Int)))
     (br (e_1.Service == (-1:Int))
      ((catS x_33 ([46,42]:List UInt8)).bind fun x_34 =>
      some (x_34,(0:Int)))
      ((strconv_Itoa e_1.Service).bind fun x_35 =>
      (catS ([46]:List UInt8) x_35).bind fun x_36 =>
      (catS x_33 x_36).bind fun x_37 =>
      some (x_37,(0:Int)))))))
def eid_Text.ann:Ann:=.no
set_option maxRecDepth 100000 in
theorem eid_Text.fn:FnT Tryd.prog 43 [.d .EID] [.str,.i64] eid_Text :=
 FnT.of (X:=ctx 0 [eid_Check.spec,strconv_Itoa.spec]) Tryd.mixed eid_Text.ann Tryd.func43 rfl (by kernel_rfl) (Nat.le_of_ble_eq_true rfl) (fun x=>by kernel_rfl)
noncomputable def eid_Text.spec:XSpec Tryd.prog:=XSpec.t 43 [.d .EID] [.str,.i64] eid_Text (by kernel_rfl) eid_Text.fn
end Go.Proofs.YtjcbpfhlgebgdaaDoor
