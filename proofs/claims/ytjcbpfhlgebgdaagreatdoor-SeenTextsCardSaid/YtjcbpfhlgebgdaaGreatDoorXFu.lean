import Derived.Test.YtjcbpfhlgebgdaaGreatDoorXTw
import Derived.Test.YtjcbpfhlgebgdaaGreatDoorPLayP
import Derived.Test.YtjcbpfhlgebgdaaGreatDoorXGPk
import Derived.Lib.AppendIntMem
import Derived.Lib.ItoaMem
import Derived.Lib.Walk
set_option linter.unusedSimpArgs false
set_option linter.unusedVariables false
namespace Go.Proofs.YtjcbpfhlgebgdaaGreatDoor
open Go Go.Eng Go.RowKit Go.X Go.Shelf Go.Proofs Go.Sort
set_option maxHeartbeats 6400000 in
set_option maxRecDepth 100000 in
theorem zqw (u:Nat) (h:u < 100) (w:World):Calls Tryz.prog 112 #[.int .u64 u,.int .i64 10] w fun e w'=>e = .returned (.string ⟨(Lib.decDigits u).toArray⟩)/\Below w.heap.size w w':=by
 have mixed:Tryz.prog.follows .mixedOrders = true:=by kernel_rfl
 have hu:(u:Int) < 100:=by omega
 have hw1:wrap64 (u:Int) = (u:Int):=IntWalk.wrap64_in _ (by omega)
 go_enter Tryz.func112,Tryz.ntmps112
 go_wp2_with (go_at_call 130; refine (Any.internal_strconv_small { Tryz.itoaI with } u h _).mono ?_; rintro e w' ⟨rfl,rfl⟩)
 go_ret
 exact ⟨rfl,Below.refl _ _⟩
set_option maxHeartbeats 6400000 in
set_option maxRecDepth 100000 in
theorem zs2 (u : Nat) (h : 100 <= u) (hu64 : u < 18446744073709551616) (w : World) (htab : Lib.TabIs Tryz.prog w "internal/strconv.uint64pow10" .u64 Lib.pow10Tab) :
  Calls Tryz.prog 112 #[.int .u64 u,.int .i64 10] w fun e w'=>e = .returned (.string ⟨(Lib.decDigits u).toArray⟩)/\Below w.heap.size w w':=by
 have mixed:Tryz.prog.follows .mixedOrders = true:=by kernel_rfl
 have h1:1 <= u:=by omega
 have hnd:Lib.nDigits u <= 20:=by have:=Lib.numDigits_eq u h1 hu64; split at this <;> omega
 have ta:Tryz.prog.underlying 198 = some (.array 24 5):=by kernel_rfl
 have tb:Tryz.prog.underlying 49 = some (.slice 5):=by kernel_rfl
 have tc:Tryz.prog.underlying 5 = some (.int .u8):=by kernel_rfl
 have td:Tryz.prog.underlying 9 = some .string:=by kernel_rfl
 have hsl:∀ W,(Instr.sliceAt 198 (.pointer (some ⟨w.heap.size,0,none⟩)) none (some (.int .i64 (Lib.nDigits u:Int))) none).run Tryz.prog W = .ok (.slice (some ⟨w.heap.size,0,none⟩) (Lib.nDigits u) 24) W:=fun W=>by
  have hal:Tryz.prog.arrayLen 198 = 24:=by simp [Program.arrayLen,ta]
  rw [run_sliceAt_array_h W 198 ⟨w.heap.size,0,none⟩ (by simp [Program.arrayLen,Program.elem,ta]) .i64 (Lib.nDigits u:Int) (by omega) (by rw [hal]; omega)]
  go_simp
 have hz:=Lib.holds_zero0 w 198 (Lib.nDigits u) (by omega)
 have hfmt:=Any.internal_strconv_formatBase10 { Tryz.itoaI with } w.heap.size 0 24 u (Array.replicate (Lib.nDigits u) 0) (w.alloc (.cells Lib.zeros24 198)) hz (by rw [Array.size_replicate]; exact Lib.lt_pow_nDigits u) hu64 (by rw [Array.size_replicate]; omega)
 rw [Array.size_replicate] at hfmt
 have hzs:=Lib.hid hz
 have hu:¬ (u:Int) < 100:=by omega
 clear hz
 go_enter Tryz.func112,Tryz.ntmps112
 go_wp2_with (go_at_call 131; refine (Any.internal_strconv_numDigits { Tryz.itoaI with } u h1 hu64 _ (Lib.tabIs_alloc htab _)).mono ?_; rintro e w' ⟨rfl,rfl⟩)
 go_at_call 132
 refine hfmt.mono ?_
 rintro e w' ⟨rfl,k,v',dk,rfl,hF⟩
 have hcv:(convert 49 9 (.slice (some ⟨w.heap.size,0,none⟩) (Lib.nDigits u) 24)).run Tryz.prog ((putRow (fun (b:UInt8)=>Value.int .u8 (b.toNat:Int)) (w.alloc (.cells Lib.zeros24 198)) w.heap.size 0 dk).drewN k) = .ok (.string ⟨(Lib.decDigits u).toArray⟩) ((putRow (fun (b:UInt8)=>Value.int .u8 (b.toNat:Int)) (w.alloc (.cells Lib.zeros24 198)) w.heap.size 0 dk).drewN k):=by
  have hb:=run_convert_bytes_back (P:=Tryz.prog) ((putRow (fun (b:UInt8)=>Value.int .u8 (b.toNat:Int)) (w.alloc (.cells Lib.zeros24 198)) w.heap.size 0 dk).drewN k) 49 9 5 ⟨w.heap.size,0,none⟩ 24 (Lib.decDigits u) tb tc td (fun j hj=>by
   have hd:j < dk.size:=by rw [hF.size]; rw [Lib.decDigits_length] at hj; exact hj
   rw [Lib.row_is_numeral hF j hj,Lib.add_plain,World.cell?_drewN]
   exact cell?_putRow _ _ w.heap.size 0 _ dk hzs.out (by rw [hF.size,Array.size_replicate]) j hd)
  rw [Lib.decDigits_length] at hb
  exact hb
 obtain ⟨os,eo⟩:=Lib.fin_at w (.cells Lib.zeros24 198) dk k 0
 have hbl:Shut (Below w.heap.size w ((putRow (fun (b:UInt8)=>Value.int .u8 (b.toNat:Int)) (w.alloc (.cells Lib.zeros24 198)) w.heap.size 0 dk).drewN k)):=by
  show Below _ _ _
  rw [eo]; exact Lib.below_grow w.heap.size w (Nat.le_refl _) k os
 clear eo hzs hfmt htab
 go_wp2
 go_ret
 exact ⟨rfl,hbl.out⟩
theorem zrM (u : Nat) (hu64 : u < 18446744073709551616) (w : World) (htab : Lib.TabIs Tryz.prog w "internal/strconv.uint64pow10" .u64 Lib.pow10Tab) :
  Calls Tryz.prog 82 #[.int .u64 u,.int .i64 10] w fun e w'=>e = .returned (.string ⟨(Lib.decDigits u).toArray⟩)/\Below w.heap.size w w':=by
 have mixed:Tryz.prog.follows .mixedOrders = true:=by kernel_rfl
 have hin:Calls Tryz.prog 112 #[.int .u64 u,.int .i64 10] w fun e w'=>e = .returned (.string ⟨(Lib.decDigits u).toArray⟩)/\Below w.heap.size w w':=by
  by_cases h:u < 100
  ·exact zqw u h w
  ·exact zs2 u (by omega) hu64 w htab
 go_enter Tryz.func82,Tryz.ntmps82
 go_wp2_with (go_at_call 112; refine hin.mono ?_; rintro e w' ⟨rfl,hb⟩)
 go_ret
 exact ⟨rfl,hb⟩
open Go Go.Eng Go.RowKit Go.X Go.Shelf Go.Proofs
theorem zgT (w : World) (pr : Nat -> Nat -> Prop) (h : HL w pr) : Go.Lib.TabIs Tryz.prog w "internal/strconv.uint64pow10" .u64 Go.Lib.pow10Tab := by
 obtain ⟨⟨ty,h1⟩,_⟩:=h.glob 1 G0 (if_pos rfl)
 unfold Go.Lib.TabIs World.var?
 have hg : Tryz.prog.globalNamed "internal/strconv.uint64pow10" = some 1 := by kernel_rfl
 rw [hg]
 simp only [Option.bind_some,h1]
 have:G0 = Go.Lib.pow10Tab.map fun z=>Value.int .u64 z:=by unfold G0; kernel_rfl
 rw [this]
def yx (x:Int × Int):Option (List UInt8):=if 0 <= x.1/\x.1 < 18446744073709551616/\x.2 = 10 then some (Lib.decDigits x.1.toNat) else none
theorem zfb {u:Nat} (hu:u < 18446744073709551616):(Lib.decDigits u).length <= 20:=by
 rcases Nat.eq_zero_or_pos u with rfl | h1
 ·rw [Lib.decDigits,dif_pos (by omega)]; simp
 ·rw [Lib.decDigits_length]
  have:=Lib.numDigits_eq u h1 hu; split at this <;> omega
theorem yx.fn:FnT Tryz.prog 82 [.d .u64,.d .i64] [.str] yx:=by
 intro x r h
 obtain ⟨n,b⟩:=x
 unfold yx at h
 dsimp only at h
 split at h
 case isFalse=>cases h
 rename_i hr
 obtain ⟨h0,h1,rfl⟩:=hr
 cases h
 refine zbY fun w pr lam cargs hl hargs=>?_
 have hc:cargs = #[.int .u64 n,.int .i64 10]:=by
  rw [<- Array.toList_inj]
  simp only [yr,qT,qa,refl,zgr,zbH,zg,toV,RL,R] at hargs
  obtain ⟨y,ys,e,rfl,y2,ys2,rfl,rfl,rfl⟩:=hargs
  exact e
 subst hc
 obtain ⟨u,rfl⟩:=Int.eq_ofNat_of_zero_le h0
 refine (zrM u (by omega) w (zgT w pr hl)).mono ?_
 rintro en w' ⟨rfl,hb⟩
 refine ⟨_,rfl,fun E=>?_,hb⟩
 show R E (.str (Lib.decDigits u)) _
 simp only [R]
 refine ⟨by first | rfl | trivial,?_⟩
 have:=zfb (u:=u) (by omega)
 unfold maxLen; omega
noncomputable def yx.spec:ze Tryz.prog:=ze.t 82 [.d .u64,.d .i64] [.str] yx (by kernel_rfl) yx.fn
noncomputable def strconv_Itoa:Int->Option (List UInt8):=znK
noncomputable def strconv_Itoa.spec:ze Tryz.prog:=ze.t 44 [.d .i64] [.str] strconv_Itoa (by kernel_rfl) (zlf Tryz.itoaI zgT)
end Go.Proofs.YtjcbpfhlgebgdaaGreatDoor
