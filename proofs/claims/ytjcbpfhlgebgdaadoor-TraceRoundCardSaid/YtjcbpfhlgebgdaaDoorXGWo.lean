import Derived.Test.YtjcbpfhlgebgdaaDoorXTw
import Derived.Test.YtjcbpfhlgebgdaaDoorX9
import Derived.Test.YtjcbpfhlgebgdaaDoorChecked
import Derived.KernelRfl
set_option linter.unusedSimpArgs false
set_option linter.unusedVariables false
namespace Go.Proofs.YtjcbpfhlgebgdaaDoor
open Go.X Go.Eng
theorem keyed53:Go.Eng.KeyT Tryd.prog 53:=Go.Eng.KeyT.struct (n:=24) (Go.deep_law_laid (by kernel_rfl) (m:=4) (by omega) (of_decide_eq_true (by kernel_rfl)) (by kernel_rfl) (by kernel_rfl)) Tryd.underlying53 (by kernel_rfl) (show Go.Eng.keyT Tryd.prog 53 = some (true,[.int .i64,.int .i64,.int .i64,.int .i64,.int .u64,.int .i64,.int .i64]) by kernel_rfl) (by kernel_rfl) (by kernel_rfl) (by kernel_rfl)
theorem keyed164:Go.Eng.KeyT Tryd.prog 164:=Go.Eng.KeyT.pair (e:=3) (q:=.i64) ⟨by kernel_rfl,by kernel_rfl,by kernel_rfl,by kernel_rfl⟩ (by kernel_rfl) ⟨303,by kernel_rfl⟩ (Go.deep_law_laid (by kernel_rfl) (m:=2) (by omega) (of_decide_eq_true (by kernel_rfl)) (by kernel_rfl) (by kernel_rfl)) (by kernel_rfl)
def keyB (t:TypeId):Bool:=Nat.beq t 53 || Nat.beq t 164
theorem keyB_ok (t:TypeId) (h:keyB t = true):Go.Eng.KeyT Tryd.prog t:=by
 simp only [keyB,Bool.or_eq_true] at h
 rcases h with h | h
 ·have:=Nat.eq_of_beq_eq_true h; subst this; exact keyed53
 ·have:=Nat.eq_of_beq_eq_true h; subst this; exact keyed164
def codes:List (Option C):=[none,none,some .i64,some .i64,some .bool,some .u8,some .u8,none,none,some .str,some .str,some .str,some .u64,none,none,none,none,none,none,none,none,some .i32,none,none,some .i64,none,none,none,none,some .Fault,some .Fault,none,none,none,none,some .l_i64,none,none,some .l_Outc,none,none,none,none,none,none,none,none,none,none,some .u64,some .ID,some .ID,some .Outc,some .Outc,none,none,none,none,none,none,none,none,none,none,none,none,none,none,none,none,none,none,none,none,none,none,none,none,none,none,none,none,none,none,none,none,none,none,some .l_u8,none,none,none,some .l_Row,none,none,some .l_Word,some .Row,some .Row,none,none,some .Word,some .Word,none,none,none,none,none,none,none,none,none,none,none,none,none,none,none,none,none,none,none,none,none,none,none,none,none,none,none,none,none,none,none,none,none,none,none,none,none,none,none,none,none,none,none,none,none,none,none,none,none,none,none,none,none,none,none,none,some .l_str,none,none,none,none,some .Pair,some .Pair,none,none,none,none,none,none,none,none,none,none,none,none,none,none,none,none,some .Face,some .Face,none,some .i64,some .i64,some .i64,some .l_iv,some .ID,some .i64,some .iv,some .iv,none,none,none,none,none,some .l_Face,none,none,none,none,none,none,none,none,none,none,none,none,none,none,none,none,none,none,none,none,none,none,none,none,none,none,none,some .Scanner,some .Scanner,none,none,none,none,none,none,some .W3,some .W3,some .l_W3,none,none,none,some .W3,none,none,some .u64,none,none,none,none,none,none,none,none,none,none,none,none,none,none,none,none,none,none,none,none,none,none,none,none,none,none,none,none,some .u32,none,none,none,none,none,none,none,none,none,none,none,none,none,none,none,none,none,none,none,none,none,none,none,none,some .u8,some .u8,none,some .i32,some .i32,none,none,none]
noncomputable def ctx (wr:Nat) (l:List (XSpec Tryd.prog)):XCtx Tryd.prog:={ code:=fun t=>(codes[t]?).getD none,wr:=wr,key:=keyB,keyed:=keyB_ok,known:=l }
noncomputable def ctxO (wr:Nat) (l:List (XSpec Tryd.prog)) (s:List (XSort Tryd.prog)) (w:List (XOwn Tryd.prog)):XCtx Tryd.prog:={ code:=fun t=>(codes[t]?).getD none,wr:=wr,key:=keyB,keyed:=keyB_ok,known:=l,sorts:=s,owned:=w }
noncomputable def words_scanner_more:Unit→Scanner→Option ((Bool) × (Scanner)) :=
 fun _ x_1 =>
 some (decide (x_1.pos < (x_1.s.length:Int)),x_1)
def words_scanner_more.ann:Ann:=.no
set_option maxRecDepth 100000 in
theorem words_scanner_more.fn:FnB Tryd.prog 161 [.l 0 0] [(.Scanner,226)] [.bool] words_scanner_more :=
 FnB.of (X:=ctx 0 []) Tryd.mixed words_scanner_more.ann Tryd.func161 rfl (by kernel_rfl) (Nat.le_of_ble_eq_true rfl) (fun x y=>by kernel_rfl)
noncomputable def words_scanner_more.spec:XSpec Tryd.prog:=XSpec.b 161 [.l 0 0] [(.Scanner,226)] [.bool] words_scanner_more (by kernel_rfl) words_scanner_more.fn
noncomputable def words_scanner_next:Unit→Scanner→Option ((Int) × (Scanner)) :=
 fun _ x_1 =>
 (words_scanner_more () x_1).bind fun (x_2,x_3) =>
 br (!x_2)
  (some ((0:Int),x_3))
  ((addI .i64 x_3.pos (1:Int)).bind fun x_4 =>
  (subI .i64 x_4 (1:Int)).bind fun x_5 =>
  (idxS x_3.s x_5).bind fun x_6 =>
  some (x_6,(⟨x_3.s,x_4⟩:Scanner)))
def words_scanner_next.ann:Ann:=.no
set_option maxRecDepth 100000 in
theorem words_scanner_next.fn:FnB Tryd.prog 220 [.l 0 0] [(.Scanner,226)] [.u8] words_scanner_next :=
 FnB.of (X:=ctx 0 [words_scanner_more.spec]) Tryd.mixed words_scanner_next.ann Tryd.func220 rfl (by kernel_rfl) (Nat.le_of_ble_eq_true rfl) (fun x y=>by kernel_rfl)
noncomputable def words_scanner_next.spec:XSpec Tryd.prog:=XSpec.b 220 [.l 0 0] [(.Scanner,226)] [.u8] words_scanner_next (by kernel_rfl) words_scanner_next.fn
noncomputable def words_scanner_escape:Unit→Scanner→Option ((Int × Bool) × (Scanner)) :=
 fun _ x_1 =>
 (words_scanner_next () x_1).bind fun (x_2,x_3) =>
 br (x_2 == (110:Int))
  (some (((10:Int),true),x_3))
  (br (x_2 == (34:Int))
   (some ((x_2,true),x_3))
   (br (x_2 == (92:Int))
    (some ((x_2,true),x_3))
    (br (x_2 == (120:Int))
     ((words_scanner_next () x_3).bind fun (x_4,x_5) =>
     (words_scanner_next () x_5).bind fun (x_6,x_7) =>
     (strings_IndexByte (([48,49,50,51,52,53,54,55,56,57,97,98,99,100,101,102]:List UInt8),x_4)).bind fun x_8 =>
     (strings_IndexByte (([48,49,50,51,52,53,54,55,56,57,97,98,99,100,101,102]:List UInt8),x_6)).bind fun x_9 =>
     (mulI .i64 (16:Int) x_8).bind fun x_10 =>
     (addI .i64 x_10 x_9).bind fun x_11 =>
     br (decide ((0:Int) ≤ x_8))
      (some ((Go.IntKind.wrap .u8 x_11,decide ((0:Int) ≤ x_9)),x_7))
      (some ((Go.IntKind.wrap .u8 x_11,false),x_7)))
     (some (((0:Int),false),x_3)))))
def words_scanner_escape.ann:Ann:=.no
set_option maxRecDepth 100000 in
theorem words_scanner_escape.fn:FnB Tryd.prog 219 [.l 0 0] [(.Scanner,226)] [.u8,.bool] words_scanner_escape :=
 FnB.of (X:=ctx 0 [words_scanner_next.spec,strings_IndexByte.spec]) Tryd.mixed words_scanner_escape.ann Tryd.func219 rfl (by kernel_rfl) (Nat.le_of_ble_eq_true rfl) (fun x y=>by kernel_rfl)
noncomputable def words_scanner_escape.spec:XSpec Tryd.prog:=XSpec.b 219 [.l 0 0] [(.Scanner,226)] [.u8,.bool] words_scanner_escape (by kernel_rfl) words_scanner_escape.fn
noncomputable def words_Name:List UInt8→Option Bool :=
 fun s_1 =>
 (iter (σ:=Int) (ρ:=(Bool) ⊕ (Unit)) (fun x_2 =>
  br (decide (x_2 < ((bytesI s_1).length:Int)))
   ((idx (bytesI s_1) x_2).bind fun x_3 =>
   br (decide ((97:Int) ≤ x_3))
    (br (!(decide (x_3 ≤ (122:Int))))
     (br (x_2 == (0:Int))
      (some (.done (.inl false)))
      (br (x_3 != (45:Int))
             (br (decide (x_3 < (48:Int)))
              (some (.done (.inl false)))
              (br (decide ((57:Int) < x_3))
               (some (.done (.inl false)))
               ((addI .i64 x_2 (1:Int)).bind fun x_4 =>
               some (.next x_4))))
             ((addI .i64 x_2 (1:Int)).bind fun x_5 =>
             some (.next x_5))))
     ((addI .i64 x_2 (1:Int)).bind fun x_6 =>
     some (.next x_6)))
    (br (x_2 == (0:Int))
     (some (.done (.inl false)))
     (br (x_3 != (45:Int))
      (br (decide (x_3 < (48:Int)))
             (some (.done (.inl false)))
             (br (decide ((57:Int) < x_3))
              (some (.done (.inl false)))
              ((addI .i64 x_2 (1:Int)).bind fun x_7 =>
              some (.next x_7))))
      ((addI .i64 x_2 (1:Int)).bind fun x_8 =>
      some (.next x_8)))))
   (some (.done (.inr ())))) (0:Int)).bind fun x_10 =>
 Sum.elim
  (fun x_9 =>
  some x_9)
  (fun _ =>
  br (decide ((1:Int) ≤ (s_1.length:Int)))
   (some (decide ((s_1.length:Int) ≤ (20:Int))))
   (some false)) x_10
def words_Name.ann:Ann:=(.two .no (.two (.two .no (.loop [2,3,4,5,9,10,11,12,13,14,15,16,17,18,19,20,21,22,23,24,25,26,27,28,29,30,31,32,33,34,35,36,37,38] [] [.slot 9 .i64 none] [(.ret,[.slot 2 .bool none]),(.exit 0,[])] .no)) .no))
set_option maxRecDepth 100000 in
theorem words_Name.fn:FnT Tryd.prog 189 [.d .str] [.bool] words_Name :=
 FnT.of (X:=ctx 0 []) Tryd.mixed words_Name.ann Tryd.func189 rfl (by kernel_rfl) (Nat.le_of_ble_eq_true rfl) (fun x=>by kernel_rfl)
noncomputable def words_Name.spec:XSpec Tryd.prog:=XSpec.t 189 [.d .str] [.bool] words_Name (by kernel_rfl) words_Name.fn
noncomputable def words_plain:Int→Option Bool :=
 fun c_1 =>
 br (c_1 == (34:Int))
  (some false)
  (br (c_1 == (61:Int))
   (some false)
   (br (c_1 == (92:Int))
    (some false)
    (br (decide ((32:Int) < c_1))
     (some (decide (c_1 < (127:Int))))
     (some false))))
def words_plain.ann:Ann:=.no
set_option maxRecDepth 100000 in
theorem words_plain.fn:FnT Tryd.prog 208 [.d .u8] [.bool] words_plain :=
 FnT.of (X:=ctx 0 []) Tryd.mixed words_plain.ann Tryd.func208 rfl (by kernel_rfl) (Nat.le_of_ble_eq_true rfl) (fun x=>by kernel_rfl)
noncomputable def words_plain.spec:XSpec Tryd.prog:=XSpec.t 208 [.d .u8] [.bool] words_plain (by kernel_rfl) words_plain.fn
noncomputable def words_bare:List UInt8→Option Bool :=
 fun s_1 =>
 (iter (σ:=Int) (ρ:=(Bool) ⊕ (Unit)) (fun x_2 =>
  br (decide (x_2 < ((bytesI s_1).length:Int)))
   ((idx (bytesI s_1) x_2).bind fun x_3 =>
   (words_plain x_3).bind fun x_4 =>
   br (!x_4)
    (some (.done (.inl false)))
    ((addI .i64 x_2 (1:Int)).bind fun x_5 =>
    some (.next x_5)))
   (some (.done (.inr ())))) (0:Int)).bind fun x_8 =>
 Sum.elim
  (fun x_6 =>
  some x_6)
  (fun _ =>
  br (!(s_1 == ([]:List UInt8)))
   ((idxS s_1 (0:Int)).bind fun x_7 =>
   some (x_7 != (35:Int)))
   (some false)) x_8
def words_bare.ann:Ann:=(.two .no (.two (.two .no (.loop [2,4,8,9,10,11,12,13,14,15] [] [.slot 8 .i64 none] [(.ret,[.slot 2 .bool none]),(.exit 0,[])] .no)) .no))
set_option maxRecDepth 100000 in
theorem words_bare.fn:FnT Tryd.prog 209 [.d .str] [.bool] words_bare :=
 FnT.of (X:=ctx 0 [words_plain.spec]) Tryd.mixed words_bare.ann Tryd.func209 rfl (by kernel_rfl) (Nat.le_of_ble_eq_true rfl) (fun x=>by kernel_rfl)
noncomputable def words_bare.spec:XSpec Tryd.prog:=XSpec.t 209 [.d .str] [.bool] words_bare (by kernel_rfl) words_bare.fn
end Go.Proofs.YtjcbpfhlgebgdaaDoor
