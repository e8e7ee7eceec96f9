import Derived.Shelf.Strconv.Itoa3
import Derived.Shelf.Strings.OnBuilder
import Derived.Shelf.SlGeneric
import Derived.Lib.ItoaLen
import Derived.Test.YtgpccllhdcggdaaGreatDoorXM
import Derived.Lib.AppendIntMem
import Derived.Deep.RegionHeld
set_option linter.unusedSimpArgs false
set_option linter.unusedVariables false
noncomputable section
namespace Go.Proofs
open Go.Shelf
def Tryz.itoaI_ren:Go.Shelf.Ren:=⟨fun | 171=>103 | 243=>126 | 246=>143 | 283=>122 | 284=>123 | 285=>124 | 286=>125 | 129=>139 | 317=>138 | 318=>140 | 319=>141 | 320=>142 | 337=>152 | 338=>153 | n=>n,fun | 3=>3 | 9=>9 | 2=>2 | 4=>4 | 171=>220 | 0=>0 | 53=>42 | 37=>63 | 5=>5 | 173=>223 | 212=>238 | 51=>239 | 20=>20 | 213=>240 | 46=>241 | 232=>255 | 233=>256 | n=>n,fun | 17=>3 | 18=>7 | 19=>8 | n=>n⟩
theorem Tryz.itoaI:Go.Proofs.LaysM.n171 Tryz.prog Tryz.itoaI_ren:={
 mixed:=by kernel_rfl
 f129:=Tryz.func139.trans (congrArg some (by kernel_rfl))
 f171:=Tryz.func103.trans (congrArg some (by kernel_rfl))
 f243:=Tryz.func126.trans (congrArg some (by kernel_rfl))
 f246:=Tryz.func143.trans (congrArg some (by kernel_rfl))
 f283:=Tryz.func122.trans (congrArg some (by kernel_rfl))
 f284:=Tryz.func123.trans (congrArg some (by kernel_rfl))
 f285:=Tryz.func124.trans (congrArg some (by kernel_rfl))
 f286:=Tryz.func125.trans (congrArg some (by kernel_rfl))
 f317:=Tryz.func138.trans (congrArg some (by kernel_rfl))
 f318:=Tryz.func140.trans (congrArg some (by kernel_rfl))
 f319:=Tryz.func141.trans (congrArg some (by kernel_rfl))
 f320:=Tryz.func142.trans (congrArg some (by kernel_rfl))
 f337:=Tryz.func152.trans (congrArg some (by kernel_rfl))
 f338:=Tryz.func153.trans (congrArg some (by kernel_rfl))
 t0:=Tryz.underlying0
 a0:=Tryz.isAgg0
 z0:=Tryz.sizeOf0
 v0:=Tryz.zeroValue0
 t2:=Tryz.underlying2
 a2:=Tryz.isAgg2
 z2:=Tryz.sizeOf2
 v2:=Tryz.zeroValue2
 t3:=Tryz.underlying3
 a3:=Tryz.isAgg3
 z3:=Tryz.sizeOf3
 v3:=Tryz.zeroValue3
 t4:=Tryz.underlying4
 a4:=Tryz.isAgg4
 z4:=Tryz.sizeOf4
 v4:=Tryz.zeroValue4
 t5:=Tryz.underlying5
 a5:=Tryz.isAgg5
 z5:=Tryz.sizeOf5
 v5:=Tryz.zeroValue5
 t9:=Tryz.underlying9
 a9:=Tryz.isAgg9
 z9:=Tryz.sizeOf9
 v9:=Tryz.zeroValue9
 t20:=Tryz.underlying20
 a20:=Tryz.isAgg20
 z20:=Tryz.sizeOf20
 v20:=Tryz.zeroValue20
 t37:=Tryz.underlying63
 a37:=Tryz.isAgg63
 z37:=Tryz.sizeOf63
 v37:=Tryz.zeroValue63
 t46:=Tryz.underlying241
 a46:=Tryz.isAgg241
 z46:=Tryz.sizeOf241
 v46:=Tryz.zeroValue241
 t51:=Tryz.underlying239
 a51:=Tryz.isAgg239
 z51:=Tryz.sizeOf239
 v51:=Tryz.zeroValue239
 t53:=Tryz.underlying42
 a53:=Tryz.isAgg42
 z53:=Tryz.sizeOf42
 v53:=Tryz.zeroValue42
 t171:=Tryz.underlying220
 a171:=Tryz.isAgg220
 z171:=Tryz.sizeOf220
 v171:=Tryz.zeroValue220
 t173:=Tryz.underlying223
 a173:=Tryz.isAgg223
 z173:=Tryz.sizeOf223
 v173:=Tryz.zeroValue223
 t212:=Tryz.underlying238
 a212:=Tryz.isAgg238
 z212:=Tryz.sizeOf238
 v212:=Tryz.zeroValue238
 t213:=Tryz.underlying240
 a213:=Tryz.isAgg240
 z213:=Tryz.sizeOf240
 t232:=Tryz.underlying255
 a232:=Tryz.isAgg255
 z232:=Tryz.sizeOf255
 v232:=Tryz.zeroValue255
 t233:=Tryz.underlying256
 a233:=Tryz.isAgg256
 z233:=Tryz.sizeOf256
 v233:=Tryz.zeroValue256
 g17:=by kernel_rfl
 g18:=by kernel_rfl
 g19:=by kernel_rfl
 i0:=by kernel_rfl
 i2:=by kernel_rfl
 i3:=by kernel_rfl
 i4:=by kernel_rfl
 i5:=by kernel_rfl
 i9:=by kernel_rfl
 i20:=by kernel_rfl
 i37:=by kernel_rfl
 i46:=by kernel_rfl
 i51:=by kernel_rfl
 i53:=by kernel_rfl
 i171:=by kernel_rfl
 i173:=by kernel_rfl
 i212:=by kernel_rfl
 i232:=by kernel_rfl
 i233:=by kernel_rfl
 m17:=by kernel_rfl
 m18:=by kernel_rfl
 m19:=by kernel_rfl }
def Tryz.joinI_ren:Go.Shelf.Ren:=⟨fun | 156=>64 | 165=>100 | 166=>29 | 169=>34 | 240=>65 | 241=>121 | 276=>101 | 277=>137 | n=>n,fun | 31=>117 | 9=>9 | 3=>3 | 4=>4 | 0=>0 | 20=>20 | 72=>65 | 76=>73 | 70=>62 | 37=>63 | 75=>72 | 127=>138 | 164=>157 | 5=>5 | 80=>49 | n=>n,fun | n=>n⟩
theorem Tryz.joinI:Go.Proofs.Lays.n156 Tryz.prog Tryz.joinI_ren:={
 mixed:=by kernel_rfl
 f156:=Tryz.func64.trans (congrArg some (by kernel_rfl))
 f165:=Tryz.func100.trans (congrArg some (by kernel_rfl))
 f166:=Tryz.func29.trans (congrArg some (by kernel_rfl))
 f169:=Tryz.func34.trans (congrArg some (by kernel_rfl))
 f240:=Tryz.func65.trans (congrArg some (by kernel_rfl))
 f241:=Tryz.func121.trans (congrArg some (by kernel_rfl))
 f276:=Tryz.func101.trans (congrArg some (by kernel_rfl))
 f277:=Tryz.func137.trans (congrArg some (by kernel_rfl))
 t0:=Tryz.underlying0
 a0:=Tryz.isAgg0
 z0:=Tryz.sizeOf0
 v0:=Tryz.zeroValue0
 t3:=Tryz.underlying3
 a3:=Tryz.isAgg3
 z3:=Tryz.sizeOf3
 v3:=Tryz.zeroValue3
 t4:=Tryz.underlying4
 a4:=Tryz.isAgg4
 z4:=Tryz.sizeOf4
 v4:=Tryz.zeroValue4
 t9:=Tryz.underlying9
 a9:=Tryz.isAgg9
 z9:=Tryz.sizeOf9
 v9:=Tryz.zeroValue9
 t20:=Tryz.underlying20
 a20:=Tryz.isAgg20
 z20:=Tryz.sizeOf20
 v20:=Tryz.zeroValue20
 t31:=Tryz.underlying117
 a31:=Tryz.isAgg117
 z31:=Tryz.sizeOf117
 v31:=Tryz.zeroValue117
 t37:=Tryz.underlying63
 a37:=Tryz.isAgg63
 z37:=Tryz.sizeOf63
 v37:=Tryz.zeroValue63
 t70:=Tryz.underlying62
 a70:=Tryz.isAgg62
 z70:=Tryz.sizeOf62
 v70:=Tryz.zeroValue62
 t72:=Tryz.underlying65
 a72:=Tryz.isAgg65
 z72:=Tryz.sizeOf65
 v72:=Tryz.zeroValue65
 t75:=Tryz.underlying72
 a75:=Tryz.isAgg72
 z75:=Tryz.sizeOf72
 v75:=Tryz.zeroValue72
 t76:=Tryz.underlying73
 a76:=Tryz.isAgg73
 z76:=Tryz.sizeOf73
 v76:=Tryz.zeroValue73
 t127:=Tryz.underlying138
 a127:=Tryz.isAgg138
 z127:=Tryz.sizeOf138
 v127:=Tryz.zeroValue138
 t164:=Tryz.underlying157
 a164:=Tryz.isAgg157
 z164:=Tryz.sizeOf157
 v164:=Tryz.zeroValue157 }
end Go.Proofs
namespace Go.X
open Go.Eng
open Go.RowKit Go.Proofs Go.Shelf Go.Lib Go.Sort
variable {P:Program} {ρ:Ren}
theorem zaI {f:FuncId} {args:List V} {res:V}
  (h:∀ (w:World) (pr:Nat->Nat->Prop) (lam:Nat->Option Nat) (cargs:Array Value),HL w pr->RL ⟨w,pr,lam⟩ args cargs.toList ->
   Calls P f cargs w fun en w'=>∃ v,en = .returned v/\(∀ E,R E res v)/\Below w.heap.size w w'):Go.Eng.Fn P f args [] res []:=by
 intro w pr lam cargs hl hargs _ _ _
 refine (h w pr lam cargs hl hargs).mono ?_
 rintro en w' ⟨v,rfl,hr,hb⟩
 exact ⟨v,pr,rfl,hr _,fun i B hB=>by simp at hB,⟨hb.os,hb.tape,hb.output,DLE.any _ _,hb.size,fun k hk _=>hb.block k hk,fun _ _ h=>h,fun _ _ h=>.inl h⟩⟩
theorem below_grow (w:World) (q:Nat) (os:Array Obj):Below w.heap.size w (grow (w.drewN q) os):=by
 refine ⟨rfl,rfl,rfl,?_,fun k hk=>?_⟩
 ·rw [Go.Sort.size_grow]; exact Nat.le_add_right _ _
 ·exact heap_grow_old _ _ hk
def zqP (n:Int):Option (List UInt8):=if -9223372036854775808 <= n/\n <= 9223372036854775807 then some (Lib.itoa n) else none
theorem zuH (L : LaysM.n171 P ρ) (hT : ∀ w pr, HL w pr -> Lib.TabIs P w "internal/strconv.uint64pow10" .u64 Lib.pow10Tab) : FnT P (ρ.f 171) [.d .i64] [.str] zqP := by
 intro (x:Int) r h
 unfold zqP at h
 split at h
 case isFalse=>cases h
 rename_i hr
 cases h
 have hr':-9223372036854775808 <= x/\x <= 9223372036854775807:=hr
 refine zaI fun w pr lam cargs hl hargs=>?_
 have hc:cargs = #[.int .i64 x]:=by
  rw [<- Array.toList_inj]
  simp only [buildA,ZW,Zq,refl,zdX,zi,toV,RL,R] at hargs
  obtain ⟨y,ys,e,rfl,rfl⟩:=hargs
  simpa using e
 subst hc
 refine (Any.strconv_Itoa L x hr'.1 hr'.2 w (hT w pr hl)).mono ?_
 rintro en w' ⟨rfl,k,os,rfl⟩
 refine ⟨_,rfl,fun E=>?_,below_grow w k os⟩
 have hlen:=Lib.itoa_length_le x hr'.1 hr'.2
 show R E (.str (Lib.itoa x)) _
 simp only [R]
 exact ⟨trivial,Nat.le_trans hlen (by decide)⟩
def znL (a:List (List UInt8) × List UInt8):Option (List UInt8):=if a.1.length <= 140737488355328/\(Lib.join a.1 a.2).length <= 140737488355328 then some (Lib.join a.1 a.2) else none
theorem zuI (L:Lays.n156 P ρ) (X:Builder.Extra P ρ):FnT P (ρ.f 156) [.d .l_str,.d .str] [.str] znL:=by
 intro x r h
 unfold znL at h
 split at h
 case isFalse=>cases h
 rename_i hr
 cases h
 obtain ⟨xs,sep⟩:=x
 refine zaI fun w pr lam cargs hl hargs=>?_
 simp only [buildA,ZW,Zq,refl,zc3,zbV,zi,toV,RL,R] at hargs
 obtain ⟨y,ys,hc,⟨base,cap,rfl,hle,hm,hrow⟩,y2,ys2,rfl,⟨rfl,hsl⟩,rfl⟩:=hargs
 have hc':cargs = #[.slice base (xs.map (enc .str)).length cap,.string ⟨sep.toArray⟩]:=by rw [<- Array.toList_inj]; simpa using hc
 subst hc'
 simp only [List.length_map] at hle hr ⊢
 have hres:∀ E,R E (.str (Lib.join xs sep)) (.string ⟨(Lib.join xs sep).toArray⟩):=fun E=>by
  simp only [R]
  exact ⟨trivial,Nat.le_trans hr.2 (by decide)⟩
 by_cases hx:xs = []
 ·subst hx
  refine (Any.strings_Join_none L X base cap ⟨sep.toArray⟩ w).mono ?_
  rintro en w' ⟨rfl,rfl⟩
  exact ⟨_,rfl,hres,Below.refl _ _⟩
 ·rcases hrow with ⟨h,_⟩ | ⟨b,o,k,rfl,hrr⟩
  ·exact absurd (by simpa using h) hx
  have hpos:0 < xs.length:=List.length_pos_iff.2 hx
  have hk:k = 1:=by
   obtain ⟨y,p1,p2,_⟩:=hrr.get 0 (enc .str xs[0]) (by simp [hpos])
   simp only [enc,zdU,R] at p1
   obtain ⟨rfl,_⟩:=p1
   simpa [Value.cells] using p2.symm
  subst hk
  have hcell:∀ (j:Nat) z,(xs.map fun s=>(⟨s.toArray⟩:ByteArray))[j]? = some z->w.cell? ⟨b,o + j,none⟩ = some (.string z)/\pr b (o + j):=by
   intro j z hz
   rw [List.getElem?_map] at hz
   cases hj:xs[j]? with
   | none=>rw [hj] at hz; cases hz
   | some s =>
    rw [hj] at hz
    cases hz
    obtain ⟨y,p1,p2,p3⟩:=hrr.get j (enc .str s) (by simp [hj])
    simp only [enc,zdU,R] at p1
    obtain ⟨rfl,_⟩:=p1
    obtain ⟨p4,_⟩:=p3 0 (.string ⟨s.toArray⟩) (by simp [Value.cells])
    have e1:o + j * 1 + 0 = o + j:=by omega
    rw [e1] at p4
    exact p4
  have hbk:b < w.heap.size:=by
   obtain ⟨_,h2⟩:=hcell 0 ⟨xs[0].toArray⟩ (by simp [hpos])
   exact hl.lt _ _ h2
  have hmm:(xs.map fun s=>(⟨s.toArray⟩:ByteArray)).map (·.data.toList) = xs:=by
   rw [List.map_map]
   conv=>rhs; rw [<- List.map_id xs]
   exact List.map_congr_left fun s _=>by simp
  have:=Any.strings_Join L X b o cap (xs.map fun s=>(⟨s.toArray⟩:ByteArray)) ⟨sep.toArray⟩ w (fun j z hz=>(hcell j z hz).1) hbk (by simpa using hr.1) (by simpa using hle) (by rw [hmm]; simpa using hr.2)
  rw [hmm,List.length_map] at this
  refine this.mono ?_
  rintro en w' ⟨rfl,hb⟩
  exact ⟨_,rfl,hres,hb⟩
end Go.X
namespace Go.Proofs.YtgpccllhdcggdaaGreatDoor
open Go Go.Eng Go.RowKit Go.X Go.Shelf Go.Proofs Go.Sort
set_option maxHeartbeats 6400000 in
set_option maxRecDepth 100000 in
theorem zuJ (u:Nat) (h:u < 100) (w:World):Calls Tryz.prog 102 #[.int .u64 u,.int .i64 10] w fun e w'=>e = .returned (.string ⟨(Lib.decDigits u).toArray⟩)/\Below w.heap.size w w':=by
 have mixed:Tryz.prog.follows .mixedOrders = true:=by kernel_rfl
 have hu:(u:Int) < 100:=by omega
 have hw1:wrap64 (u:Int) = (u:Int):=IntWalk.wrap64_in _ (by omega)
 go_enter Tryz.func102,Tryz.ntmps102
 go_wp2_with (go_at_call 122; refine (Any.internal_strconv_small { Tryz.itoaI with } u h _).mono ?_; rintro e w' ⟨rfl,rfl⟩)
 go_ret
 exact ⟨rfl,Below.refl _ _⟩
set_option maxHeartbeats 6400000 in
set_option maxRecDepth 100000 in
theorem zxi (u : Nat) (h : 100 <= u) (hu64 : u < 18446744073709551616) (w : World) (htab : Lib.TabIs Tryz.prog w "internal/strconv.uint64pow10" .u64 Lib.pow10Tab) :
  Calls Tryz.prog 102 #[.int .u64 u,.int .i64 10] w fun e w'=>e = .returned (.string ⟨(Lib.decDigits u).toArray⟩)/\Below w.heap.size w w':=by
 have mixed:Tryz.prog.follows .mixedOrders = true:=by kernel_rfl
 have h1:1 <= u:=by omega
 have hnd:Lib.nDigits u <= 20:=by have:=Lib.numDigits_eq u h1 hu64; split at this <;> omega
 have ta:Tryz.prog.underlying 220 = some (.array 24 5):=by kernel_rfl
 have tb:Tryz.prog.underlying 63 = some (.slice 5):=by kernel_rfl
 have tc:Tryz.prog.underlying 5 = some (.int .u8):=by kernel_rfl
 have td:Tryz.prog.underlying 9 = some .string:=by kernel_rfl
 have hsl:∀ W,(Instr.sliceAt 220 (.pointer (some ⟨w.heap.size,0,none⟩)) none (some (.int .i64 (Lib.nDigits u:Int))) none).run Tryz.prog W = .ok (.slice (some ⟨w.heap.size,0,none⟩) (Lib.nDigits u) 24) W:=fun W=>by
  have hal:Tryz.prog.arrayLen 220 = 24:=by simp [Program.arrayLen,ta]
  rw [run_sliceAt_array_h W 220 ⟨w.heap.size,0,none⟩ (by simp [Program.arrayLen,Program.elem,ta]) .i64 (Lib.nDigits u:Int) (by omega) (by rw [hal]; omega)]
  go_simp
 have hz:=Lib.holds_zero0 w 220 (Lib.nDigits u) (by omega)
 have hfmt:=Any.internal_strconv_formatBase10 { Tryz.itoaI with } w.heap.size 0 24 u (Array.replicate (Lib.nDigits u) 0) (w.alloc (.cells Lib.zeros24 220)) hz (by rw [Array.size_replicate]; exact Lib.lt_pow_nDigits u) hu64 (by rw [Array.size_replicate]; omega)
 rw [Array.size_replicate] at hfmt
 have hzs:=Lib.hid hz
 have hu:¬ (u:Int) < 100:=by omega
 clear hz
 go_enter Tryz.func102,Tryz.ntmps102
 go_wp2_with (go_at_call 123; refine (Any.internal_strconv_numDigits { Tryz.itoaI with } u h1 hu64 _ (Lib.tabIs_alloc htab _)).mono ?_; rintro e w' ⟨rfl,rfl⟩)
 go_at_call 124
 refine hfmt.mono ?_
 rintro e w' ⟨rfl,k,v',dk,rfl,hF⟩
 have hcv:(convert 63 9 (.slice (some ⟨w.heap.size,0,none⟩) (Lib.nDigits u) 24)).run Tryz.prog ((putRow (fun (b:UInt8)=>Value.int .u8 (b.toNat:Int)) (w.alloc (.cells Lib.zeros24 220)) w.heap.size 0 dk).drewN k) = .ok (.string ⟨(Lib.decDigits u).toArray⟩) ((putRow (fun (b:UInt8)=>Value.int .u8 (b.toNat:Int)) (w.alloc (.cells Lib.zeros24 220)) w.heap.size 0 dk).drewN k):=by
  have hb:=run_convert_bytes_back (P:=Tryz.prog) ((putRow (fun (b:UInt8)=>Value.int .u8 (b.toNat:Int)) (w.alloc (.cells Lib.zeros24 220)) w.heap.size 0 dk).drewN k) 63 9 5 ⟨w.heap.size,0,none⟩ 24 (Lib.decDigits u) tb tc td (fun j hj=>by
   have hd:j < dk.size:=by rw [hF.size]; rw [Lib.decDigits_length] at hj; exact hj
   rw [Lib.row_is_numeral hF j hj,Lib.add_plain,World.cell?_drewN]
   exact cell?_putRow _ _ w.heap.size 0 _ dk hzs.out (by rw [hF.size,Array.size_replicate]) j hd)
  rw [Lib.decDigits_length] at hb
  exact hb
 obtain ⟨os,eo⟩:=Lib.fin_at w (.cells Lib.zeros24 220) dk k 0
 have hbl:Shut (Below w.heap.size w ((putRow (fun (b:UInt8)=>Value.int .u8 (b.toNat:Int)) (w.alloc (.cells Lib.zeros24 220)) w.heap.size 0 dk).drewN k)):=by
  show Below _ _ _
  rw [eo]; exact Lib.below_grow w.heap.size w (Nat.le_refl _) k os
 clear eo hzs hfmt htab
 go_wp2
 go_ret
 exact ⟨rfl,hbl.out⟩
theorem zvN (u : Nat) (hu64 : u < 18446744073709551616) (w : World) (htab : Lib.TabIs Tryz.prog w "internal/strconv.uint64pow10" .u64 Lib.pow10Tab) :
  Calls Tryz.prog 68 #[.int .u64 u,.int .i64 10] w fun e w'=>e = .returned (.string ⟨(Lib.decDigits u).toArray⟩)/\Below w.heap.size w w':=by
 have mixed:Tryz.prog.follows .mixedOrders = true:=by kernel_rfl
 have hin:Calls Tryz.prog 102 #[.int .u64 u,.int .i64 10] w fun e w'=>e = .returned (.string ⟨(Lib.decDigits u).toArray⟩)/\Below w.heap.size w w':=by
  by_cases h:u < 100
  ·exact zuJ u h w
  ·exact zxi u (by omega) hu64 w htab
 go_enter Tryz.func68,Tryz.ntmps68
 go_wp2_with (go_at_call 102; refine hin.mono ?_; rintro e w' ⟨rfl,hb⟩)
 go_ret
 exact ⟨rfl,hb⟩
open Go Go.Eng Go.RowKit Go.X Go.Shelf Go.Proofs
theorem zil (w : World) (pr : Nat -> Nat -> Prop) (h : HL w pr) : Go.Lib.TabIs Tryz.prog w "internal/strconv.uint64pow10" .u64 Go.Lib.pow10Tab := by
 obtain ⟨⟨ty,h1⟩,_⟩:=h.glob 3 G1 (by kernel_rfl)
 unfold Go.Lib.TabIs World.var?
 have hg : Tryz.prog.globalNamed "internal/strconv.uint64pow10" = some 3 := by kernel_rfl
 rw [hg]
 simp only [Option.bind_some,h1]
 have:G1 = Go.Lib.pow10Tab.map fun z=>Value.int .u64 z:=by unfold G1; kernel_rfl
 rw [this]
def zD (x:Int × Int):Option (List UInt8):=if 0 <= x.1/\x.1 < 18446744073709551616/\x.2 = 10 then some (Lib.decDigits x.1.toNat) else none
theorem zf8 {u:Nat} (hu:u < 18446744073709551616):(Lib.decDigits u).length <= 20:=by
 rcases Nat.eq_zero_or_pos u with rfl | h1
 ·rw [Lib.decDigits,dif_pos (by omega)]; simp
 ·rw [Lib.decDigits_length]
  have:=Lib.numDigits_eq u h1 hu; split at this <;> omega
theorem zD.fn:FnT Tryz.prog 68 [.d .u64,.d .i64] [.str] zD:=by
 intro x r h
 obtain ⟨n,b⟩:=x
 unfold zD at h
 dsimp only at h
 split at h
 case isFalse=>cases h
 rename_i hr
 obtain ⟨h0,h1,rfl⟩:=hr
 cases h
 refine zaI fun w pr lam cargs hl hargs=>?_
 have hc:cargs = #[.int .u64 n,.int .i64 10]:=by
  rw [<- Array.toList_inj]
  simp only [buildA,ZW,Zq,refl,zhL,zdX,zi,toV,RL,R] at hargs
  obtain ⟨y,ys,e,rfl,y2,ys2,rfl,rfl,rfl⟩:=hargs
  exact e
 subst hc
 obtain ⟨u,rfl⟩:=Int.eq_ofNat_of_zero_le h0
 refine (zvN u (by omega) w (zil w pr hl)).mono ?_
 rintro en w' ⟨rfl,hb⟩
 refine ⟨_,rfl,fun E=>?_,hb⟩
 show R E (.str (Lib.decDigits u)) _
 simp only [R]
 refine ⟨by first | rfl | trivial,?_⟩
 have:=zf8 (u:=u) (by omega)
 unfold maxLen; omega
def zD.spec:XSpec Tryz.prog:=XSpec.t 68 [.d .u64,.d .i64] [.str] zD (by kernel_rfl) zD.fn
def strconv_Itoa:Int->Option (List UInt8):=zqP
def strconv_Itoa.spec:XSpec Tryz.prog:=XSpec.t 103 [.d .i64] [.str] strconv_Itoa (by kernel_rfl) (zuH Tryz.itoaI zil)
def strings_Join:List (List UInt8) × List UInt8->Option (List UInt8):=znL
theorem zpY:Go.Proofs.Builder.Extra Tryz.prog Tryz.joinI_ren where
 sizeBuilder:=by kernel_rfl
 liesBuilder:=by kernel_rfl
 t5:=Tryz.underlying5
 a5:=Tryz.isAgg5
 z5:=Tryz.sizeOf5
 v5:=Tryz.zeroValue5
 infoByte:=by kernel_rfl
 cellsByte:=by kernel_rfl
 sizeByte:=by kernel_rfl
 neB5:=by decide
def strings_Join.spec:XSpec Tryz.prog:=XSpec.t 64 [.d .l_str,.d .str] [.str] strings_Join (by kernel_rfl) (zuI Tryz.joinI zpY)
end Go.Proofs.YtgpccllhdcggdaaGreatDoor
