import Derived.Test.YtjcbpfhlgebgdaaDoorX4T
import Derived.Test.YtjcbpfhlgebgdaaDoorPLayT
import Derived.Shelf.Strings.SlTrimAscii
set_option linter.unusedSimpArgs false
set_option linter.unusedVariables false
namespace Go.Proofs.YtjcbpfhlgebgdaaDoor
open Go Go.X Go.Eng Go.RowKit Go.Proofs Go.Shelf
theorem _root_.Go.Proofs.Tryd.mixed:Tryd.prog.follows .mixedOrders = true:=by kernel_rfl
theorem pow10_is (w : World) (pr : Nat → Nat → Prop) (h : HL w pr) : Go.Lib.TabIs Tryd.prog w "internal/strconv.uint64pow10" .u64 Go.Lib.pow10Tab := by
 obtain ⟨⟨ty,h1⟩,_⟩:=h.glob 1 G0 (if_pos rfl)
 unfold Go.Lib.TabIs World.var?
 have hg : Tryd.prog.globalNamed "internal/strconv.uint64pow10" = some 1 := by kernel_rfl
 rw [hg]
 simp only [Option.bind_some,h1]
 have:G0 = Go.Lib.pow10Tab.map fun z=>Value.int .u64 z:=by unfold G0; kernel_rfl
 rw [this]
noncomputable def strconv_Itoa:Int→Option (List UInt8):=itoaX
noncomputable def strconv_Itoa.spec:XSpec Tryd.prog:=XSpec.t 101 [.d .i64] [.str] strconv_Itoa (by kernel_rfl) (itoa_fnT Tryd.itoaI pow10_is)
noncomputable def strings_Join:List (List UInt8) × List UInt8→Option (List UInt8):=joinX
theorem join_extra:Go.Proofs.Builder.Extra Tryd.prog Tryd.joinI_ren where
 sizeBuilder:=by kernel_rfl
 liesBuilder:=by kernel_rfl
 t5:=Tryd.underlying5
 a5:=Tryd.isAgg5
 z5:=Tryd.sizeOf5
 v5:=Tryd.zeroValue5
 infoByte:=by kernel_rfl
 cellsByte:=by kernel_rfl
 sizeByte:=by kernel_rfl
 neB5:=by decide
noncomputable def strings_Join.spec:XSpec Tryd.prog:=XSpec.t 110 [.d .l_str,.d .str] [.str] strings_Join (by kernel_rfl) (join_fnT Tryd.joinI join_extra)
def strings_TrimLeft (a:List UInt8 × List UInt8):Option (List UInt8):=if a.2.length < 4294967281∧a.2.all (fun b=>decide (b.toNat < 128)) = true then some (Lib.trimLeftS a.1 a.2) else none
theorem strings_TrimLeft.fn:FnT Tryd.prog 152 [.d .str,.d .str] [.str] strings_TrimLeft:=by
 intro x r h
 unfold strings_TrimLeft at h
 split at h
 case isFalse=>cases h
 rename_i hr
 cases h
 obtain ⟨s,cut⟩:=x
 refine fn_below fun w pr lam cargs hl hargs=>?_
 simp only [buildA,reflC,dataOf,refl,refl_str,toVL,toV,RL,R] at hargs
 obtain ⟨y,ys,e,⟨rfl,hs⟩,y2,ys2,rfl,⟨rfl,hc⟩,rfl⟩:=hargs
 have hc':cargs = #[.string ⟨s.toArray⟩,.string ⟨cut.toArray⟩]:=by rw [← Array.toList_inj]; simpa using e
 subst hc'
 have hr1:cut.length < 4294967281:=hr.1
 refine (Any.strings_TrimLeft_laid Tryd.trimI (by kernel_rfl) ⟨s.toArray⟩ ⟨cut.toArray⟩ w (by rw [show (⟨cut.toArray⟩:ByteArray).size = cut.length from List.size_toArray]; exact hr1) (ascii_of_all (by simpa using hr.2))).mono ?_
 rintro en w' ⟨rfl,hb⟩
 refine ⟨_,rfl,fun E=>?_,hb⟩
 have hle:(Lib.trimLeftS s cut).length ≤ s.length:=by unfold Lib.trimLeftS; exact (List.dropWhile_suffix _).length_le
 show R E (.str (Lib.trimLeftS s cut)) _
 simp only [R]
 exact ⟨trivial,Nat.le_trans hle hs⟩
noncomputable def strings_TrimLeft.spec:XSpec Tryd.prog:=XSpec.t 152 [.d .str,.d .str] [.str] strings_TrimLeft (by kernel_rfl) strings_TrimLeft.fn
end Go.Proofs.YtjcbpfhlgebgdaaDoor
