import Derived.Test.YtjcbpfhlgebgdaaDoorXTw
import Derived.Test.YtjcbpfhlgebgdaaDoorPLayB
import Derived.Test.YtjcbpfhlgebgdaaDoorXGPk
import Derived.Lib.AppendIntMem
import Derived.Lib.ItoaMem
import Derived.Lib.Walk
set_option linter.unusedSimpArgs false
set_option linter.unusedVariables false
namespace Go.Proofs.YtjcbpfhlgebgdaaDoor
open Go Go.Eng Go.RowKit Go.X Go.Shelf Go.Proofs Go.Sort
set_option maxHeartbeats 6400000 in
set_option maxRecDepth 100000 in
theorem fu_small (u:Nat) (h:u < 100) (w:World):Calls Tryd.prog 194 #[.int .u64 u,.int .i64 10] w fun e w'=>e = .returned (.string ⟨(Lib.decDigits u).toArray⟩)∧Below w.heap.size w w':=by
 have mixed:Tryd.prog.follows .mixedOrders = true:=by kernel_rfl
 have hu:(u:Int) < 100:=by omega
 have hw1:wrap64 (u:Int) = (u:Int):=IntWalk.wrap64_in _ (by omega)
 go_enter Tryd.func194,Tryd.ntmps194
 go_wp2_with (go_at_call 184; refine (Any.internal_strconv_small { Tryd.itoaI with } u h _).mono ?_; rintro e w' ⟨rfl,rfl⟩)
 go_ret
 exact ⟨rfl,Below.refl _ _⟩
set_option maxHeartbeats 6400000 in
set_option maxRecDepth 100000 in
theorem fu_big (u : Nat) (h : 100 ≤ u) (hu64 : u < 18446744073709551616) (w : World) (htab : Lib.TabIs Tryd.prog w "internal/strconv.uint64pow10" .u64 Lib.pow10Tab) :
  Calls Tryd.prog 194 #[.int .u64 u,.int .i64 10] w fun e w'=>e = .returned (.string ⟨(Lib.decDigits u).toArray⟩)∧Below w.heap.size w w':=by
 have mixed:Tryd.prog.follows .mixedOrders = true:=by kernel_rfl
 have h1:1 ≤ u:=by omega
 have hnd:Lib.nDigits u ≤ 20:=by have:=Lib.numDigits_eq u h1 hu64; split at this <;> omega
 have ta:Tryd.prog.underlying 254 = some (.array 24 5):=by kernel_rfl
 have tb:Tryd.prog.underlying 88 = some (.slice 5):=by kernel_rfl
 have tc:Tryd.prog.underlying 5 = some (.int .u8):=by kernel_rfl
 have td:Tryd.prog.underlying 9 = some .string:=by kernel_rfl
 have hsl:∀ W,(Instr.sliceAt 254 (.pointer (some ⟨w.heap.size,0,none⟩)) none (some (.int .i64 (Lib.nDigits u:Int))) none).run Tryd.prog W = .ok (.slice (some ⟨w.heap.size,0,none⟩) (Lib.nDigits u) 24) W:=fun W=>by
  have hal:Tryd.prog.arrayLen 254 = 24:=by simp [Program.arrayLen,ta]
  rw [run_sliceAt_array_h W 254 ⟨w.heap.size,0,none⟩ (by simp [Program.arrayLen,Program.elem,ta]) .i64 (Lib.nDigits u:Int) (by omega) (by rw [hal]; omega)]
  go_simp
 have hz:=Lib.holds_zero0 w 254 (Lib.nDigits u) (by omega)
 have hfmt:=Any.internal_strconv_formatBase10 { Tryd.itoaI with } w.heap.size 0 24 u (Array.replicate (Lib.nDigits u) 0) (w.alloc (.cells Lib.zeros24 254)) hz (by rw [Array.size_replicate]; exact Lib.lt_pow_nDigits u) hu64 (by rw [Array.size_replicate]; omega)
 rw [Array.size_replicate] at hfmt
 have hzs:=Lib.hid hz
 have hu:¬ (u:Int) < 100:=by omega
 clear hz
 go_enter Tryd.func194,Tryd.ntmps194
 go_wp2_with (go_at_call 185; refine (Any.internal_strconv_numDigits { Tryd.itoaI with } u h1 hu64 _ (Lib.tabIs_alloc htab _)).mono ?_; rintro e w' ⟨rfl,rfl⟩)
 go_at_call 186
 refine hfmt.mono ?_
 rintro e w' ⟨rfl,k,v',dk,rfl,hF⟩
 have hcv:(convert 88 9 (.slice (some ⟨w.heap.size,0,none⟩) (Lib.nDigits u) 24)).run Tryd.prog ((putRow (fun (b:UInt8)=>Value.int .u8 (b.toNat:Int)) (w.alloc (.cells Lib.zeros24 254)) w.heap.size 0 dk).drewN k) = .ok (.string ⟨(Lib.decDigits u).toArray⟩) ((putRow (fun (b:UInt8)=>Value.int .u8 (b.toNat:Int)) (w.alloc (.cells Lib.zeros24 254)) w.heap.size 0 dk).drewN k):=by
  have hb:=run_convert_bytes_back (P:=Tryd.prog) ((putRow (fun (b:UInt8)=>Value.int .u8 (b.toNat:Int)) (w.alloc (.cells Lib.zeros24 254)) w.heap.size 0 dk).drewN k) 88 9 5 ⟨w.heap.size,0,none⟩ 24 (Lib.decDigits u) tb tc td (fun j hj=>by
   have hd:j < dk.size:=by rw [hF.size]; rw [Lib.decDigits_length] at hj; exact hj
   rw [Lib.row_is_numeral hF j hj,Lib.add_plain,World.cell?_drewN]
   exact cell?_putRow _ _ w.heap.size 0 _ dk hzs.out (by rw [hF.size,Array.size_replicate]) j hd)
  rw [Lib.decDigits_length] at hb
  exact hb
 obtain ⟨os,eo⟩:=Lib.fin_at w (.cells Lib.zeros24 254) dk k 0
 have hbl:Shut (Below w.heap.size w ((putRow (fun (b:UInt8)=>Value.int .u8 (b.toNat:Int)) (w.alloc (.cells Lib.zeros24 254)) w.heap.size 0 dk).drewN k)):=by
  show Below _ _ _
  rw [eo]; exact Lib.below_grow w.heap.size w (Nat.le_refl _) k os
 clear eo hzs hfmt htab
 go_wp2
 go_ret
 exact ⟨rfl,hbl.out⟩
theorem fu_call (u : Nat) (hu64 : u < 18446744073709551616) (w : World) (htab : Lib.TabIs Tryd.prog w "internal/strconv.uint64pow10" .u64 Lib.pow10Tab) :
  Calls Tryd.prog 169 #[.int .u64 u,.int .i64 10] w fun e w'=>e = .returned (.string ⟨(Lib.decDigits u).toArray⟩)∧Below w.heap.size w w':=by
 have mixed:Tryd.prog.follows .mixedOrders = true:=by kernel_rfl
 have hin:Calls Tryd.prog 194 #[.int .u64 u,.int .i64 10] w fun e w'=>e = .returned (.string ⟨(Lib.decDigits u).toArray⟩)∧Below w.heap.size w w':=by
  by_cases h:u < 100
  ·exact fu_small u h w
  ·exact fu_big u (by omega) hu64 w htab
 go_enter Tryd.func169,Tryd.ntmps169
 go_wp2_with (go_at_call 194; refine hin.mono ?_; rintro e w' ⟨rfl,hb⟩)
 go_ret
 exact ⟨rfl,hb⟩
open Go Go.Eng Go.RowKit Go.X Go.Shelf Go.Proofs
theorem pow10_is (w : World) (pr : Nat → Nat → Prop) (h : HL w pr) : Go.Lib.TabIs Tryd.prog w "internal/strconv.uint64pow10" .u64 Go.Lib.pow10Tab := by
 obtain ⟨⟨ty,h1⟩,_⟩:=h.glob 1 G0 (if_pos rfl)
 unfold Go.Lib.TabIs World.var?
 have hg : Tryd.prog.globalNamed "internal/strconv.uint64pow10" = some 1 := by kernel_rfl
 rw [hg]
 simp only [Option.bind_some,h1]
 have:G0 = Go.Lib.pow10Tab.map fun z=>Value.int .u64 z:=by unfold G0; kernel_rfl
 rw [this]
def strconv_FormatUint (x:Int × Int):Option (List UInt8):=if 0 ≤ x.1∧x.1 < 18446744073709551616∧x.2 = 10 then some (Lib.decDigits x.1.toNat) else none
theorem decDigits_len20 {u:Nat} (hu:u < 18446744073709551616):(Lib.decDigits u).length ≤ 20:=by
 rcases Nat.eq_zero_or_pos u with rfl | h1
 ·rw [Lib.decDigits,dif_pos (by omega)]; simp
 ·rw [Lib.decDigits_length]
  have:=Lib.numDigits_eq u h1 hu; split at this <;> omega
theorem strconv_FormatUint.fn:FnT Tryd.prog 169 [.d .u64,.d .i64] [.str] strconv_FormatUint:=by
 intro x r h
 obtain ⟨n,b⟩:=x
 unfold strconv_FormatUint at h
 dsimp only at h
 split at h
 case isFalse=>cases h
 rename_i hr
 obtain ⟨h0,h1,rfl⟩:=hr
 cases h
 refine fn_below fun w pr lam cargs hl hargs=>?_
 have hc:cargs = #[.int .u64 n,.int .i64 10]:=by
  rw [← Array.toList_inj]
  simp only [buildA,reflC,dataOf,refl,refl_u64,refl_i64,toVL,toV,RL,R] at hargs
  obtain ⟨y,ys,e,rfl,y2,ys2,rfl,rfl,rfl⟩:=hargs
  exact e
 subst hc
 obtain ⟨u,rfl⟩:=Int.eq_ofNat_of_zero_le h0
 refine (fu_call u (by omega) w (pow10_is w pr hl)).mono ?_
 rintro en w' ⟨rfl,hb⟩
 refine ⟨_,rfl,fun E=>?_,hb⟩
 show R E (.str (Lib.decDigits u)) _
 simp only [R]
 refine ⟨by first | rfl | trivial,?_⟩
 have:=decDigits_len20 (u:=u) (by omega)
 unfold maxLen; omega
noncomputable def strconv_FormatUint.spec:XSpec Tryd.prog:=XSpec.t 169 [.d .u64,.d .i64] [.str] strconv_FormatUint (by kernel_rfl) strconv_FormatUint.fn
noncomputable def strconv_Itoa:Int→Option (List UInt8):=itoaX
noncomputable def strconv_Itoa.spec:XSpec Tryd.prog:=XSpec.t 101 [.d .i64] [.str] strconv_Itoa (by kernel_rfl) (itoa_fnT Tryd.itoaI pow10_is)
end Go.Proofs.YtjcbpfhlgebgdaaDoor
