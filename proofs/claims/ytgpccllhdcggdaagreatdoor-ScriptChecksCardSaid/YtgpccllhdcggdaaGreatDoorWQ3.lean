import Derived.Shelf.Strings.BuilderK
import Derived.Test.YtgpccllhdcggdaaGreatDoorBC2
import Derived.OwnWalkIn
import Derived.TacticsInMore
import Derived.LoopNIn
import Derived.LoopIn
open List renaming append_assoc -> zyI
open List renaming length_append -> zyQ
set_option linter.unusedSimpArgs false
set_option linter.unusedVariables false
noncomputable section
namespace Go.Proofs
open Go.Shelf
def Tryz.wbI_ren:Go.Shelf.Ren:=⟨fun | 167=>99 | 240=>65 | 276=>101 | n=>n,fun | 31=>117 | 9=>9 | 3=>3 | 4=>4 | 0=>0 | 20=>20 | 72=>65 | 76=>73 | 70=>62 | 37=>63 | 75=>72 | 127=>138 | 164=>157 | 5=>5 | 80=>49 | n=>n,fun | n=>n⟩
theorem Tryz.wbI:Go.Proofs.Lays.n167 Tryz.prog Tryz.wbI_ren:={
 mixed:=by kernel_rfl
 f167:=Tryz.func99.trans (congrArg some (by kernel_rfl))
 f240:=Tryz.func65.trans (congrArg some (by kernel_rfl))
 f276:=Tryz.func101.trans (congrArg some (by kernel_rfl))
 t0:=Tryz.underlying0
 a0:=Tryz.isAgg0
 z0:=Tryz.sizeOf0
 v0:=Tryz.zeroValue0
 t4:=Tryz.underlying4
 a4:=Tryz.isAgg4
 z4:=Tryz.sizeOf4
 v4:=Tryz.zeroValue4
 t5:=Tryz.underlying5
 a5:=Tryz.isAgg5
 z5:=Tryz.sizeOf5
 v5:=Tryz.zeroValue5
 t9:=Tryz.underlying9
 a9:=Tryz.isAgg9
 z9:=Tryz.sizeOf9
 v9:=Tryz.zeroValue9
 t20:=Tryz.underlying20
 a20:=Tryz.isAgg20
 z20:=Tryz.sizeOf20
 v20:=Tryz.zeroValue20
 t37:=Tryz.underlying63
 a37:=Tryz.isAgg63
 z37:=Tryz.sizeOf63
 v37:=Tryz.zeroValue63
 t70:=Tryz.underlying62
 a70:=Tryz.isAgg62
 z70:=Tryz.sizeOf62
 v70:=Tryz.zeroValue62
 t72:=Tryz.underlying65
 a72:=Tryz.isAgg65
 z72:=Tryz.sizeOf65
 v72:=Tryz.zeroValue65
 t75:=Tryz.underlying72
 a75:=Tryz.isAgg72
 z75:=Tryz.sizeOf72
 v75:=Tryz.zeroValue72
 t164:=Tryz.underlying157
 a164:=Tryz.isAgg157
 z164:=Tryz.sizeOf157
 v164:=Tryz.zeroValue157 }
def Tryz.wsI_ren:Go.Shelf.Ren:=⟨fun | 166=>29 | 240=>65 | 276=>101 | n=>n,fun | 31=>117 | 9=>9 | 3=>3 | 4=>4 | 0=>0 | 20=>20 | 72=>65 | 76=>73 | 70=>62 | 37=>63 | 75=>72 | 127=>138 | 164=>157 | 5=>5 | 80=>49 | n=>n,fun | n=>n⟩
theorem Tryz.wsI:Go.Proofs.Lays.n166 Tryz.prog Tryz.wsI_ren:={
 mixed:=by kernel_rfl
 f166:=Tryz.func29.trans (congrArg some (by kernel_rfl))
 f240:=Tryz.func65.trans (congrArg some (by kernel_rfl))
 f276:=Tryz.func101.trans (congrArg some (by kernel_rfl))
 t0:=Tryz.underlying0
 a0:=Tryz.isAgg0
 z0:=Tryz.sizeOf0
 v0:=Tryz.zeroValue0
 t3:=Tryz.underlying3
 a3:=Tryz.isAgg3
 z3:=Tryz.sizeOf3
 v3:=Tryz.zeroValue3
 t4:=Tryz.underlying4
 a4:=Tryz.isAgg4
 z4:=Tryz.sizeOf4
 v4:=Tryz.zeroValue4
 t9:=Tryz.underlying9
 a9:=Tryz.isAgg9
 z9:=Tryz.sizeOf9
 v9:=Tryz.zeroValue9
 t20:=Tryz.underlying20
 a20:=Tryz.isAgg20
 z20:=Tryz.sizeOf20
 v20:=Tryz.zeroValue20
 t37:=Tryz.underlying63
 a37:=Tryz.isAgg63
 z37:=Tryz.sizeOf63
 v37:=Tryz.zeroValue63
 t70:=Tryz.underlying62
 a70:=Tryz.isAgg62
 z70:=Tryz.sizeOf62
 v70:=Tryz.zeroValue62
 t72:=Tryz.underlying65
 a72:=Tryz.isAgg65
 z72:=Tryz.sizeOf65
 v72:=Tryz.zeroValue65
 t75:=Tryz.underlying72
 a75:=Tryz.isAgg72
 z75:=Tryz.sizeOf72
 v75:=Tryz.zeroValue72
 t164:=Tryz.underlying157
 a164:=Tryz.isAgg157
 z164:=Tryz.sizeOf157
 v164:=Tryz.zeroValue157 }
def Tryz.bsI_ren:Go.Shelf.Ren:=⟨fun | 169=>34 | n=>n,fun | 31=>117 | 9=>9 | 3=>3 | 4=>4 | 0=>0 | 20=>20 | 72=>65 | 76=>73 | 70=>62 | 37=>63 | 75=>72 | 127=>138 | 164=>157 | 5=>5 | 80=>49 | n=>n,fun | n=>n⟩
theorem Tryz.bsI:Go.Proofs.Lays.n169 Tryz.prog Tryz.bsI_ren:={
 mixed:=by kernel_rfl
 f169:=Tryz.func34.trans (congrArg some (by kernel_rfl))
 t0:=Tryz.underlying0
 a0:=Tryz.isAgg0
 z0:=Tryz.sizeOf0
 v0:=Tryz.zeroValue0
 t3:=Tryz.underlying3
 a3:=Tryz.isAgg3
 z3:=Tryz.sizeOf3
 v3:=Tryz.zeroValue3
 t9:=Tryz.underlying9
 a9:=Tryz.isAgg9
 z9:=Tryz.sizeOf9
 v9:=Tryz.zeroValue9
 t37:=Tryz.underlying63
 a37:=Tryz.isAgg63
 z37:=Tryz.sizeOf63
 v37:=Tryz.zeroValue63
 t70:=Tryz.underlying62
 a70:=Tryz.isAgg62
 z70:=Tryz.sizeOf62
 v70:=Tryz.zeroValue62
 t72:=Tryz.underlying65
 a72:=Tryz.isAgg65
 z72:=Tryz.sizeOf65
 v72:=Tryz.zeroValue65
 t127:=Tryz.underlying138
 a127:=Tryz.isAgg138
 z127:=Tryz.sizeOf138
 v127:=Tryz.zeroValue138 }
end Go.Proofs
namespace Go.Proofs.YtgpccllhdcggdaaGreatDoor
open Go.X Go.Eng
set_option maxRecDepth 100000
def qH:Int->Option Bool :=
 fun c_1 =>
 br (c_1 == (34:Int))
  (some false)
  (br (c_1 == (61:Int))
   (some false)
   (br (c_1 == (92:Int))
    (some false)
    (br (decide ((32:Int) < c_1))
     (some (decide (c_1 < (127:Int))))
     (some false))))
theorem qH.fn:FnT Tryz.prog 120 [.d .u8] [.bool] qH:=zo (ctx 0 []) .no Tryz.func120 rfl
def qH.spec:=zg qH.fn
def qM:List UInt8->Option Bool :=
 fun s_1 =>
 (qQ (σ:=Int) (ρ:=(Bool) ⊕ (Unit)) (fun x_2 =>
  br (decide (x_2 < ((zY s_1).length:Int)))
   ((idx (zY s_1) x_2).bind fun x_3 =>
   (qH x_3).bind fun x_4 =>
   br (!x_4)
    (some (.done (.inl false)))
    ((yj .i64 x_2 (1:Int)).bind fun x_5 =>
    some (.next x_5)))
   (some (.done (.inr ())))) (0:Int)).bind fun x_8 =>
 Sum.elim
  (fun x_6 =>
  some x_6)
  (fun _ =>
  br (!(s_1 == ([]:Bs)))
   ((za7 s_1 (0:Int)).bind fun x_7 =>
   some (x_7 != (35:Int)))
   (some false)) x_8
theorem qM.fn:FnT Tryz.prog 98 [.d .str] [.bool] qM:=zo (ctx 0 [qH.spec]) (.two .no (.two (.two .no (.loop [2,4,8,9,10,11,12,13,14,15] [] [.slot 8 .i64 none] [(.ret,[.slot 2 .bool none]),(.exit 0,[])] .no)) .no)) Tryz.func98 rfl
def qM.spec:=zg qM.fn
end Go.Proofs.YtgpccllhdcggdaaGreatDoor
namespace Go.Proofs
open Go Go.RowKit Go.Shelf
variable {P:Program} {ρ:Ren}
theorem zm0 (L:Lays.n240 P ρ) (X:Builder.X72 P ρ) (B b:Nat) (bs:List Value) (w:World) (h:Lib.IsBuilder (ρ.t 72) (ρ.t 5) B b bs w) :
  Calls P (ρ.f 240) #[.pointer (some ⟨b,0,none⟩)] w fun e w'=>e = .returned (.tuple #[])/\(Lib.BuilderAt (ρ.t 72) (ρ.t 5) B b (.pointer (some ⟨b,0,none⟩)) bs w'/\Below B w w')/\∀ k,k ≠ b->w'.heap[k]? = w.heap[k]?:=by
 rcases h with h | h
 ·refine (Any.Builder_copyCheck_fresh L X b w h.cell0 h.shape h.frozen0).mono ?_
  rintro e w' ⟨rfl,rfl⟩
  exact ⟨rfl,⟨h.used _,(Below.refl B w).setCell (p:=⟨b,0,none⟩) h.1 _⟩,fun k hk=>Below.heap_setCell _ _ _ _ hk⟩
 ·refine (Any.Builder_copyCheck_used L X b w h.cell0).mono ?_
  rintro e w' ⟨rfl,rfl⟩
  exact ⟨rfl,⟨h,Below.refl B _⟩,fun k hk=>rfl⟩
theorem zqt {w:World} {B:Nat} {e:TypeId} {v:Value} {n:Nat} {bs:List Value} (h:w.ownsRow B e 1 v n bs) {M k:Nat} {cs:Array Value} {ty:TypeId} (hM:w.heap[M]? = some (.cells cs ty (k,k + 1))):v.ownBlock ≠ some M:=by
 intro hv
 rcases h.2 with ⟨rfl,_⟩ | ⟨g,cap,cur,rfl,_,hg,_⟩
 ·cases hv
 ·have:g = M:=by simpa [Value.ownBlock] using hv
  subst this
  rw [hM] at hg
  cases hg
set_option maxHeartbeats 2000000 in
set_option maxRecDepth 100000 in
theorem zm1 (L:Lays.n167 P ρ) (X:Builder.Extra P ρ) (B b:Nat) (bs:List Value) (c:Int) (w:World) (h:Lib.IsBuilder (ρ.t 72) (ρ.t 5) B b bs w) (hlen:bs.length + 1 <= 140737488355328) (hBw:B <= w.heap.size) :
  Calls P (ρ.f 167) #[.pointer (some ⟨b,0,none⟩),.int .u8 c] w fun e w'=>e = .returned .nilIface/\(Lib.BuilderAt (ρ.t 72) (ρ.t 5) B b (.pointer (some ⟨b,0,none⟩)) (bs++[.int .u8 c]) w'/\Below B w w') /\
   ∀ M k cs ty,M ≠ b->w.heap[M]? = some (.cells cs ty (k,k + 1))->w'.heap[M]? = some (.cells cs ty (k,k + 1)):=by
 obtain ⟨i0,hi,hz0,hz1,hz2⟩:=info_parts X.infoByte
 have mixed:=L.mixed
 have t72:=L.t72; have a72:=L.a72; have z72:=L.z72; have v72:=L.v72; have u72:=run_underlying L.t72
 have t70:=L.t70; have a70:=L.a70; have z70:=L.z70; have v70:=L.v70; have u70:=run_underlying L.t70
 have t5:=L.t5; have a5:=L.a5; have z5:=L.z5; have v5:=L.v5; have u5:=run_underlying L.t5
 have t37:=L.t37; have a37:=L.a37; have z37:=L.z37; have v37:=L.v37; have u37:=run_underlying L.t37
 have t9:=L.t9; have a9:=L.a9; have z9:=L.z9; have v9:=L.v9; have u9:=run_underlying L.t9
 have t4:=L.t4; have a4:=L.a4; have z4:=L.z4; have v4:=L.v4; have u4:=run_underlying L.t4
 have t164:=L.t164; have a164:=L.a164; have z164:=L.z164; have v164:=L.v164; have u164:=run_underlying L.t164
 have e240:∀ args w,(callFunc (ρ.f 240) args).run P w = .ok (.enter (ρ.f 240) args) w:=enters_of L.f240 (by kernel_rfl) rfl
 go_enter L.f167,Body.n167_ntmps ρ
 go_wp2_with (go_at_fn (ρ.f 240); refine (zm0 { L with } X.toX72 B b bs _ h).mono ?_)
 rintro e w1 ⟨rfl,⟨h1,hb1⟩,hk1⟩
 obtain ⟨hB,v,hbk,hown,hne⟩:=h1
 have c0:w1.cell? ⟨b,0,none⟩ = some (.pointer (some ⟨b,0,none⟩)):=by rw [Lib.cell_of_heap hbk]; rfl
 have c1:w1.cell? ⟨b,1,none⟩ = some v:=by rw [Lib.cell_of_heap hbk]; rfl
 go_wp2_with (at_builtin; refine wpList_append_own _ rfl _ _ (ρ.t 37) rfl B (ρ.t 5) i0 (.int .u8 0) 1 1 L.t37 hi hz0 hz1 hz2 rfl (by decide) _ _ _ rfl (hown.alloc _) ⟨w1.heap.size,0,none⟩ 1 1 [.int .u8 c] rfl rfl ?c1 ?c2 ?c3 ?c4 ?c5 ?_)
 case c1 =>
  intro j u hj
  match j,hj with
  | 0,hj=>simp at hj; subst hj; simp [Addr.add]
 case c2=>intro u hu; simp at hu; subst hu; rfl
 case c3=>unfold maxLen; omega
 case c4=>omega
 case c5=>have:=hb1.size; simp; omega
 intro v' w2 hown' hgrow _
 have hlt:b < w1.heap.size:=(Array.getElem?_eq_some_iff.1 hbk).1
 have hb2:w2.heap[b]? = some (.cells #[.pointer (some ⟨b,0,none⟩),v] (ρ.t 72) (0,0)):=by
  rw [hgrow.block b (by simp; omega) (fun e=>hne e.symm),Lib.alloc_old w1 _ b hlt]
  exact hbk
 have d0:w2.cell? ⟨b,0,none⟩ = some (.pointer (some ⟨b,0,none⟩)):=by rw [Lib.cell_of_heap hb2]; rfl
 have d1:w2.cell? ⟨b,1,none⟩ = some v:=by rw [Lib.cell_of_heap hb2]; rfl
 have f1:w2.frozen? ⟨b,1,none⟩ = false:=Lib.frozen_of_heap hb2 1
 obtain ⟨g,cap,rfl⟩:∃ g cap,v' = .slice (some ⟨g,0,none⟩) (bs.length + 1) cap:=by
  rcases hown'.2 with ⟨_,h0⟩ | ⟨g,cap,cur,hv,_⟩
  ·omega
  ·exact ⟨g,cap,hv⟩
 have hkeep:∀ M k cs ty,M ≠ b->w.heap[M]? = some (.cells cs ty (k,k + 1))->w2.heap[M]? = some (.cells cs ty (k,k + 1)):=fun M k cs ty hMb hM=>by
  have hM1:w1.heap[M]? = some (.cells cs ty (k,k + 1)):=(hk1 M hMb).trans hM
  have hlt1:=(Array.getElem?_eq_some_iff.1 hM1).1
  rw [hgrow.block M (by simp; omega) (fun e=>zqt hown hM1 e.symm),Lib.alloc_old w1 _ M hlt1]
  exact hM1
 go_wp2
 go_ret
 refine ⟨rfl,⟨?_,?_⟩,fun M k cs ty hMb hM=>(Below.heap_setCell _ _ _ _ hMb).trans (hkeep M k cs ty hMb hM)⟩
 ·exact Lib.BuilderAt.put (T:=(ρ.t 72)) (e:=(ρ.t 5)) hB hb2 (bs':=bs++[.int .u8 c]) (by simpa using hown') X.neB5
 ·exact ((hb1.alloc (by have:=hb1.size; omega) _).grown hgrow (by have:=hb1.size; simp; omega) (fun k hk=>(hown.lt k hk).1)).setCell (p:=⟨b,1,none⟩) hB _
set_option maxHeartbeats 2000000 in
set_option maxRecDepth 100000 in
theorem zt3 (L:Lays.n166 P ρ) (X:Builder.Extra P ρ) (B b:Nat) (bs:List Value) (s:ByteArray) (w:World) (h:Lib.IsBuilder (ρ.t 72) (ρ.t 5) B b bs w) (hlen:bs.length + s.size <= 140737488355328) (hBw:B <= w.heap.size) :
  Calls P (ρ.f 166) #[.pointer (some ⟨b,0,none⟩),.string s] w fun e w'=>e = .returned (.tuple #[.int .i64 s.size,.nilIface])/\(Lib.BuilderAt (ρ.t 72) (ρ.t 5) B b (.pointer (some ⟨b,0,none⟩)) (bs++Lib.strCells s) w'/\Below B w w') /\
   ∀ M k cs ty,M ≠ b->w.heap[M]? = some (.cells cs ty (k,k + 1))->w'.heap[M]? = some (.cells cs ty (k,k + 1)):=by
 obtain ⟨i0,hi,hz0,hz1,hz2⟩:=info_parts X.infoByte
 have mixed:=L.mixed
 have t72:=L.t72; have a72:=L.a72; have z72:=L.z72; have v72:=L.v72; have u72:=run_underlying L.t72
 have t70:=L.t70; have a70:=L.a70; have z70:=L.z70; have v70:=L.v70; have u70:=run_underlying L.t70
 have t37:=L.t37; have a37:=L.a37; have z37:=L.z37; have v37:=L.v37; have u37:=run_underlying L.t37
 have t3:=L.t3; have a3:=L.a3; have z3:=L.z3; have v3:=L.v3; have u3:=run_underlying L.t3
 have t9:=L.t9; have a9:=L.a9; have z9:=L.z9; have v9:=L.v9; have u9:=run_underlying L.t9
 have t4:=L.t4; have a4:=L.a4; have z4:=L.z4; have v4:=L.v4; have u4:=run_underlying L.t4
 have t164:=L.t164; have a164:=L.a164; have z164:=L.z164; have v164:=L.v164; have u164:=run_underlying L.t164
 have t5:=X.t5; have a5:=X.a5; have z5:=X.z5; have v5:=X.v5; have u5:=run_underlying X.t5
 have e240:∀ args w,(callFunc (ρ.f 240) args).run P w = .ok (.enter (ρ.f 240) args) w:=enters_of L.f240 (by kernel_rfl) rfl
 go_enter L.f166,Body.n166_ntmps ρ
 go_wp2_with (go_at_fn (ρ.f 240); refine (zm0 { L with } X.toX72 B b bs _ h).mono ?_)
 rintro e w1 ⟨rfl,⟨h1,hb1⟩,hk1⟩
 obtain ⟨hB,v,hbk,hown,hne⟩:=h1
 have c0:w1.cell? ⟨b,0,none⟩ = some (.pointer (some ⟨b,0,none⟩)):=by rw [Lib.cell_of_heap hbk]; rfl
 have c1:w1.cell? ⟨b,1,none⟩ = some v:=by rw [Lib.cell_of_heap hbk]; rfl
 go_wp2_with (at_builtin; refine Lib.wpList_append_own_string _ rfl _ _ (ρ.t 37) (ρ.t 9) rfl B (ρ.t 5) i0 L.t37 L.t9 hi hz0 hz1 hz2 _ _ _ rfl hown s rfl ?c3 ?c4 ?c5 ?_)
 case c3=>unfold maxLen; omega
 case c4=>omega
 case c5=>have:=hb1.size; omega
 intro v' w2 hown' hgrow _
 have hlt:b < w1.heap.size:=(Array.getElem?_eq_some_iff.1 hbk).1
 have hb2:w2.heap[b]? = some (.cells #[.pointer (some ⟨b,0,none⟩),v] (ρ.t 72) (0,0)):=by
  rw [hgrow.block b hlt (fun e=>hne e.symm)]
  exact hbk
 have d0:w2.cell? ⟨b,0,none⟩ = some (.pointer (some ⟨b,0,none⟩)):=by rw [Lib.cell_of_heap hb2]; rfl
 have d1:w2.cell? ⟨b,1,none⟩ = some v:=by rw [Lib.cell_of_heap hb2]; rfl
 have f1:w2.frozen? ⟨b,1,none⟩ = false:=Lib.frozen_of_heap hb2 1
 obtain ⟨ao,n',cap,rfl⟩:∃ ao n' cap,v' = .slice ao n' cap:=by
  rcases hown'.2 with ⟨hv,_⟩ | ⟨g,cap,cur,hv,_⟩
  ·exact ⟨_,_,_,hv⟩
  ·exact ⟨_,_,_,hv⟩
 have hkeep:∀ M k cs ty,M ≠ b->w.heap[M]? = some (.cells cs ty (k,k + 1))->w2.heap[M]? = some (.cells cs ty (k,k + 1)):=fun M k cs ty hMb hM=>by
  have hM1:w1.heap[M]? = some (.cells cs ty (k,k + 1)):=(hk1 M hMb).trans hM
  have hlt1:=(Array.getElem?_eq_some_iff.1 hM1).1
  rw [hgrow.block M hlt1 (fun e=>zqt hown hM1 e.symm)]
  exact hM1
 go_wp2
 go_ret2
 refine ⟨rfl,⟨?_,?_⟩,fun M k cs ty hMb hM=>(Below.heap_setCell _ _ _ _ hMb).trans (hkeep M k cs ty hMb hM)⟩
 ·exact Lib.BuilderAt.put (T:=(ρ.t 72)) (e:=(ρ.t 5)) hB hb2 (bs':=bs++Lib.strCells s) (by simpa [Lib.strCells_length] using hown') X.neB5
 ·exact (hb1.grown hgrow (by have:=hb1.size; omega) (fun k hk=>(hown.lt k hk).1)).setCell (p:=⟨b,1,none⟩) hB _
end Go.Proofs
namespace Go.Proofs.YtgpccllhdcggdaaGreatDoor
open Go Go.Eng Go.RowKit Go.X Go.Shelf Go.Proofs
theorem zm2:Go.Proofs.Builder.Extra Tryz.prog Tryz.wbI_ren where
 sizeBuilder:=by kernel_rfl
 liesBuilder:=by kernel_rfl
 t5:=Tryz.underlying5
 a5:=Tryz.isAgg5
 z5:=Tryz.sizeOf5
 v5:=Tryz.zeroValue5
 infoByte:=by kernel_rfl
 cellsByte:=by kernel_rfl
 sizeByte:=by kernel_rfl
 neB5:=by decide
theorem zhB:Go.Proofs.Builder.Extra Tryz.prog Tryz.wsI_ren where
 sizeBuilder:=by kernel_rfl
 liesBuilder:=by kernel_rfl
 t5:=Tryz.underlying5
 a5:=Tryz.isAgg5
 z5:=Tryz.sizeOf5
 v5:=Tryz.zeroValue5
 infoByte:=by kernel_rfl
 cellsByte:=by kernel_rfl
 sizeByte:=by kernel_rfl
 neB5:=by decide
theorem zm3:Go.Proofs.Builder.Extra Tryz.prog Tryz.bsI_ren where
 sizeBuilder:=by kernel_rfl
 liesBuilder:=by kernel_rfl
 t5:=Tryz.underlying5
 a5:=Tryz.isAgg5
 z5:=Tryz.sizeOf5
 v5:=Tryz.zeroValue5
 infoByte:=by kernel_rfl
 cellsByte:=by kernel_rfl
 sizeByte:=by kernel_rfl
 neB5:=by decide
def ziL:List UInt8:=[48,49,50,51,52,53,54,55,56,57,97,98,99,100,101,102]
def Yi (c:UInt8):List UInt8:=if c.toNat = 10 then [92,110] else if c.toNat = 34 ∨ c.toNat = 92 then [92,c] else if 32 <= c.toNat/\c.toNat < 127 then [c] else [92,120,ziL.getD (c.toNat / 16) 0,ziL.getD (c.toNat % 16) 0]
def QM (s:List UInt8):List UInt8:=34 :: (s.flatMap Yi++[34])
theorem zt4 (c:UInt8):(Yi c).length <= 4:=by
 unfold Yi; split; decide; split; simp; split; simp; simp
structure QI (N M:Nat) (w1:World) (S:List UInt8) (acc:List UInt8) (W:World):Prop where
 isb:Lib.IsBuilder 65 5 N N (Lib.byteCells acc) W
 bel:Below N w1 W
 row:∃ cs k,W.heap[M]? = some (.cells cs 5 (k,k + 1))/\∀ i,i < S.length->cs[i]? = some (.int .u8 ((S.getD i 0).toNat:Int))
 nm:N < M
 sz:M < W.heap.size
theorem zpi {N:Nat} {bs:List Value} {A B:World} (h:Lib.IsBuilder 65 5 N N bs A) (hf:Below A.heap.size A B):Lib.IsBuilder 65 5 N N bs B:=by
 have key:∀ p,Lib.BuilderAt 65 5 N N p bs A->Lib.BuilderAt 65 5 N N p bs B:=by
  rintro p ⟨h1,v,h2,⟨hl,h0 | ⟨g,cap,cur,hv,hb,hg,r⟩⟩,h4⟩
  ·exact ⟨h1,v,(hf.block N (Array.getElem?_eq_some_iff.1 h2).1).trans h2,⟨hl,.inl h0⟩,h4⟩
  ·exact ⟨h1,v,(hf.block N (Array.getElem?_eq_some_iff.1 h2).1).trans h2,⟨hl,.inr ⟨g,cap,cur,hv,hb,(hf.block g (Array.getElem?_eq_some_iff.1 hg).1).trans hg,r⟩⟩,h4⟩
 exact h.imp (key _) (key _)
theorem QI.put {N M:Nat} {w1 W W':World} {S acc acc':List UInt8} (h:QI N M w1 S acc W) (hb:Lib.BuilderAt 65 5 N N (.pointer (some ⟨N,0,none⟩)) (Lib.byteCells acc') W') (hl:Below N W W')
  (hk:∀ M k cs ty,M ≠ N->W.heap[M]? = some (.cells cs ty (k,k + 1))->W'.heap[M]? = some (.cells cs ty (k,k + 1))):QI N M w1 S acc' W':=by
 obtain ⟨cs,k,h1,h2⟩:=h.row
 exact ⟨.inr hb,h.bel.trans hl,⟨cs,k,hk M k cs 5 (by have:=h.nm; omega) h1,h2⟩,h.nm,Nat.lt_of_lt_of_le h.sz hl.size⟩
theorem QI.cell {N M:Nat} {w1 W:World} {S acc:List UInt8} (h:QI N M w1 S acc W) {i:Nat} (hi:i < S.length):W.cell? ⟨M,i,none⟩ = some (.int .u8 ((S.getD i 0).toNat:Int)):=by
 obtain ⟨cs,k,h1,h2⟩:=h.row
 simp only [World.cell?,h1]
 exact h2 i hi
theorem zah (a b:List UInt8):Lib.byteCells (a++b) = Lib.byteCells a++Lib.byteCells b:=by simp [Lib.byteCells]
theorem byteCells_one (c:UInt8):Lib.byteCells [c] = [.int .u8 (c.toNat:Int)]:=rfl
theorem zcE {N M:Nat} {w1 W:World} {S acc:List UInt8} (h:QI N M w1 S acc W) (hlen:acc.length <= 1000000000) (c:UInt8) (x:Int) (hx:x = (c.toNat:Int)) :
  Calls Tryz.prog 99 #[.pointer (some ⟨N,0,none⟩),.int .u8 x] W fun e W'=>e = .returned .nilIface/\QI N M w1 S (acc++[c]) W':=by
 subst hx
 refine (zm1 Tryz.wbI zm2 N N (Lib.byteCells acc) (c.toNat:Int) W h.isb (by rw [Lib.byteCells_length]; omega) (by have:=h.nm; have:=h.sz; omega)).mono ?_
 rintro e W' ⟨rfl,⟨v1,v2⟩,v3⟩
 exact ⟨rfl,h.put (by rw [zah,byteCells_one]; exact v1) v2 v3⟩
theorem strCells_eq (t:List UInt8):Lib.strCells ⟨t.toArray⟩ = Lib.byteCells t:=by
 simp [Lib.strCells,Lib.byteCells]
theorem zt5 {N M:Nat} {w1 W:World} {S acc:List UInt8} (h:QI N M w1 S acc W) (hlen:acc.length <= 1000000000) (t:List UInt8) (ht:t.length <= 10) (x:ByteArray) (hx:x = ⟨t.toArray⟩) :
  Calls Tryz.prog 29 #[.pointer (some ⟨N,0,none⟩),.string x] W fun e W'=>e = .returned (.tuple #[.int .i64 x.size,.nilIface])/\QI N M w1 S (acc++t) W':=by
 subst hx
 refine (zt3 Tryz.wsI zhB N N (Lib.byteCells acc) ⟨t.toArray⟩ W h.isb (by rw [Lib.byteCells_length,show (⟨t.toArray⟩:ByteArray).size = t.length from List.size_toArray]; omega) (by have:=h.nm; have:=h.sz; omega)).mono ?_
 rintro e W' ⟨rfl,⟨v1,v2⟩,v3⟩
 exact ⟨rfl,h.put (by rw [zah]; rw [strCells_eq] at v1; exact v1) v2 v3⟩
open Go Go.Eng Go.RowKit Go.X Go.Shelf Go.Proofs
theorem zfv (w:World) (s:ByteArray):Below w.heap.size w (Lib.bytesWorld w 5 s):=by
 refine ⟨?_,?_,?_,by rw [Lib.bytesWorld_size]; omega,fun k hk=>Lib.bytesWorld_at_old w 5 s k hk⟩ <;>
 ·unfold Lib.bytesWorld World.freeze
  rw [if_neg (by decide)]
  rfl
theorem zt6 {w1 w2:World} {S:List UInt8} (hb:Lib.BuilderAt 65 5 w1.heap.size w1.heap.size (.pointer (some ⟨w1.heap.size,0,none⟩)) (Lib.byteCells [34]) w2)
  (hl:Below w1.heap.size (w1.alloc (.cells #[.pointer none,.slice none 0 0] 65)) w2):QI w1.heap.size w2.heap.size w1 S [34] (Lib.bytesWorld w2 5 ⟨S.toArray⟩):=by
 have h0:Below w1.heap.size w1 (w1.alloc (.cells #[.pointer none,.slice none 0 0] 65)):=(Below.refl _ _).alloc (Nat.le_refl _) _
 have hs:=Qt w1 (.cells #[.pointer none,.slice none 0 0] 65)
 have hz:=hl.size
 refine ⟨zpi (.inr hb) (zfv w2 _),(h0.trans hl).trans ((zfv w2 _).mono (by omega)),⟨_,_,Lib.bytesWorld_at_new w2 5 ⟨S.toArray⟩,fun i hi=>?_⟩,by omega,by rw [Lib.bytesWorld_size]; omega⟩
 unfold Lib.bytesCells
 rw [Array.getElem?_append_left (by simpa using hi)]
 simp [List.getD,hi]
theorem zyc {i n:Nat} (h:i < n):(i:Int) < n:=by omega
theorem zxP {i n:Nat} (h:¬ i < n):¬ (i:Int) < n:=by omega
theorem zyd {i:Nat} (h:i <= 1000000):wrap64 ((i:Int) + 1) = i + 1:=IntWalk.wrap64_in _ (by omega)
theorem zw0 {S:List UInt8} {i:Nat} (hi:i < S.length):S.take (i + 1) = S.take i++[S.getD i 0]:=by
 rw [List.take_add_one,List.getElem?_eq_getElem hi]
 simp [List.getD,hi]
theorem zw1 {S:List UInt8} {i:Nat} (hi:i < S.length):34 :: (S.take (i + 1)).flatMap Yi = (34 :: (S.take i).flatMap Yi)++Yi (S.getD i 0):=by
 rw [zw0 hi,List.flatMap_append]
 simp
theorem zt7 (S:List UInt8):(S.flatMap Yi).length <= 4 * S.length:=by
 induction S with
 | nil=>simp
 | cons a l ih =>
  have:=zt4 a
  simp only [List.flatMap_cons,zyQ,List.length_cons]
  omega
theorem zvy {S:List UInt8} (hS:S.length <= 1000000) (i:Nat):(34 :: (S.take i).flatMap Yi).length <= 4000001:=by
 have:=zt7 (S.take i)
 have h2:(S.take i).length <= S.length:=by simp; omega
 simp only [List.length_cons]
 omega
theorem zai {k n:Nat} (h:k < n):((n:Int) - intOf (.int .i64 ((k:Int) + 1))).toNat < ((n:Int) - intOf (.int .i64 (k:Int))).toNat:=by simp only [intOf]; omega
theorem zvz {A p:List UInt8} (h:A.length <= 4000001) (hp:p.length <= 10):(A++p).length <= 1000000000:=by rw [zyQ]; omega
theorem zxQ {A p q:List UInt8} (h:A.length <= 4000001) (hp:p.length <= 10) (hq:q.length <= 1):(A++p++q).length <= 1000000000:=by rw [zyQ,zyQ]; omega
theorem zla (n:Nat) (hn:n < 16) (h:n < (⟨#[48,49,50,51,52,53,54,55,56,57,97,98,99,100,101,102]⟩:ByteArray).size):((⟨#[48,49,50,51,52,53,54,55,56,57,97,98,99,100,101,102]⟩:ByteArray)[n].toNat:Int) = ((ziL.getD n 0).toNat:Int):=by
 match n,hn with
 | 0,_=>rfl
 | 1,_=>rfl
 | 2,_=>rfl
 | 3,_=>rfl
 | 4,_=>rfl
 | 5,_=>rfl
 | 6,_=>rfl
 | 7,_=>rfl
 | 8,_=>rfl
 | 9,_=>rfl
 | 10,_=>rfl
 | 11,_=>rfl
 | 12,_=>rfl
 | 13,_=>rfl
 | 14,_=>rfl
 | 15,_=>rfl
 | k + 16,hk=>exact absurd hk (by omega)
set_option maxHeartbeats 8000000 in
set_option maxRecDepth 20000 in
theorem zt8 (S:List UInt8) (hS:S.length <= 1000000) (w:World)
  (hB:Calls Tryz.prog 98 #[.string ⟨S.toArray⟩] w fun e W'=>e = .returned (.bool false)/\Below w.heap.size w W') :
  Calls Tryz.prog 62 #[.string ⟨S.toArray⟩] w fun e W'=>e = .returned (.string ⟨(QM S).toArray⟩)/\Below w.heap.size w W':=by
 have mixed:Tryz.prog.follows .mixedOrders = true:=by kernel_rfl
 have hcv:∀ W,(convert 9 63 (.string ⟨S.toArray⟩)).run Tryz.prog W = .ok (.slice (some ⟨W.heap.size,0,none⟩) S.length (grownCap W S.length 0 5)) (Lib.bytesWorld W 5 ⟨S.toArray⟩):=fun W =>
  Lib.run_convert_string_bytes W 9 63 5 ⟨S.toArray⟩ (u:=.string) (by kernel_rfl) (by kernel_rfl) (by kernel_rfl)
 go_enter Tryz.func62,Tryz.ntmps62
 go_wp2_with (first
  | (go_at_call 98; refine hB.mono ?_; rintro e w1 ⟨rfl,x1⟩)
  | (go_at_call 99; refine (zm1 Tryz.wbI zm2 w1.heap.size w1.heap.size [] 34 _ (Lib.fresh_isBuilder _ _ w1) (by decide) (by simp)).mono ?_; rintro e w2 ⟨rfl,⟨v1,v2⟩,_⟩; have q0:=zt6 (S:=S) v1 v2))
 clear hB hcv v1 v2
 generalize w2.heap.size = M at q0 ⊢
 go_loopw [13] (fun v13 wr=>∃ i:Nat,v13 = .int .i64 (i:Int)/\i <= S.length/\QI w1.heap.size M w1 S (34 :: (S.take i).flatMap Yi) wr)
  (fun v13 wr=>((S.length:Int) - intOf v13).toNat)
 case atStart=>exact ⟨0,rfl,Nat.zero_le _,by simpa using q0⟩
 case round =>
  clear q0
  obtain ⟨i,rfl,hi,hq⟩:=hrel
  have hal:=zvy hS i
  by_cases hil:i < S.length
  ·have hc:=hq.cell hil
   have bl:=zyc hil
   have wri:=zyd (show i <= 1000000 by omega)
   have hst:=zw1 hil
   generalize S.getD i 0 = c at hc hst
   by_cases h10:c.toNat = 10
   ·have k1:((c.toNat:Int) == 10) = true:=beq_iff_eq.2 (by omega)
    have he:Yi c = [92,110]:=by unfold Yi; rw [if_pos h10]
    go_wp2_with (go_at_call 29; refine (zt5 hq (by omega) [92,110] (by decide) _ (by rfl)).mono ?_; rintro e W1 ⟨rfl,q1⟩)
    go_roundw
    case rel=>exact ⟨i + 1,rfl,hil,by rw [hst,he]; exact q1⟩
    case measure=>exact zai hil
   ·have k1:((c.toNat:Int) == 10) = false:=beq_eq_false_iff_ne.2 (by omega)
    by_cases h34:c.toNat = 34
    ·have k2:((c.toNat:Int) == 34) = true:=beq_iff_eq.2 (by omega)
     have he:Yi c = [92,c]:=by unfold Yi; rw [if_neg h10,if_pos (.inl h34)]
     go_wp2_with (first
      | (go_at_call 99; refine (zcE hq (by omega) 92 _ (by rfl)).mono ?_; rintro e W1 ⟨rfl,q1⟩; clear hq)
      | (go_at_call 99; refine (zcE q1 (zvz hal (by decide)) c _ (by omega)).mono ?_; rintro e W2 ⟨rfl,q2⟩))
     go_roundw
     case rel=>exact ⟨i + 1,rfl,hil,by rw [hst,he]; rw [zyI] at q2; exact q2⟩
     case measure=>exact zai hil
    ·have k2:((c.toNat:Int) == 34) = false:=beq_eq_false_iff_ne.2 (by omega)
     by_cases h92:c.toNat = 92
     ·have k3:((c.toNat:Int) == 92) = true:=beq_iff_eq.2 (by omega)
      have he:Yi c = [92,c]:=by unfold Yi; rw [if_neg h10,if_pos (.inr h92)]
      go_wp2_with (first
       | (go_at_call 99; refine (zcE hq (by omega) 92 _ (by rfl)).mono ?_; rintro e W1 ⟨rfl,q1⟩; clear hq)
       | (go_at_call 99; refine (zcE q1 (zvz hal (by decide)) c _ (by omega)).mono ?_; rintro e W2 ⟨rfl,q2⟩))
      go_roundw
      case rel=>exact ⟨i + 1,rfl,hil,by rw [hst,he]; rw [zyI] at q2; exact q2⟩
      case measure=>exact zai hil
     ·have k3:((c.toNat:Int) == 92) = false:=beq_eq_false_iff_ne.2 (by omega)
      by_cases hp:32 <= c.toNat/\c.toNat < 127
      ·have he:Yi c = [c]:=by unfold Yi; rw [if_neg h10,if_neg (by omega),if_pos hp]
       have k4:(32:Int) <= (c.toNat:Int):=by omega
       have k5:(c.toNat:Int) < 127:=by omega
       go_wp2_with (go_at_call 99; refine (zcE hq (by omega) c _ (by rfl)).mono ?_; rintro e W1 ⟨rfl,q1⟩)
       go_roundw
       case rel=>exact ⟨i + 1,rfl,hil,by rw [hst,he]; exact q1⟩
       case measure=>exact zai hil
      ·have he:Yi c = [92,120,ziL.getD (c.toNat / 16) 0,ziL.getD (c.toNat % 16) 0]:=by unfold Yi; rw [if_neg h10,if_neg (by omega),if_neg hp]
       have kd:0 <= (c.toNat:Int) / 16 % 256/\(c.toNat:Int) / 16 % 256 < 16:=by have:=c.toNat_lt; omega
       have ke:0 <= (c.toNat:Int) % 16 % 256/\(c.toNat:Int) % 16 % 256 < 16:=by omega
       have b1:c.toNat / 16 < 16:=by have:=c.toNat_lt; omega
       have b2:c.toNat % 16 < 16:=by omega
       by_cases h32:32 <= c.toNat
       ·have k4:(32:Int) <= (c.toNat:Int):=by omega
        have k5:¬ (c.toNat:Int) < 127:=by omega
        go_wp2_with (first
         | (go_at_call 29; refine (zt5 hq (by omega) [92,120] (by decide) _ (by rfl)).mono ?_; rintro e W1 ⟨rfl,q1⟩; clear hq)
         | (go_at_call 99; refine (zcE q1 (zvz hal (by decide)) (ziL.getD (c.toNat / 16) 0) _ (zla _ b1 _)).mono ?_; rintro e W2 ⟨rfl,q2⟩; clear q1)
         | (go_at_call 99; refine (zcE q2 (zxQ hal (by decide) (Nat.le_refl 1)) (ziL.getD (c.toNat % 16) 0) _ (zla _ b2 _)).mono ?_; rintro e W3 ⟨rfl,q3⟩))
        go_roundw
        case rel=>exact ⟨i + 1,rfl,hil,by rw [hst,he]; rw [zyI,zyI] at q3; exact q3⟩
        case measure=>exact zai hil
       ·have k4:¬ (32:Int) <= (c.toNat:Int):=by omega
        go_wp2_with (first
         | (go_at_call 29; refine (zt5 hq (by omega) [92,120] (by decide) _ (by rfl)).mono ?_; rintro e W1 ⟨rfl,q1⟩; clear hq)
         | (go_at_call 99; refine (zcE q1 (zvz hal (by decide)) (ziL.getD (c.toNat / 16) 0) _ (zla _ b1 _)).mono ?_; rintro e W2 ⟨rfl,q2⟩; clear q1)
         | (go_at_call 99; refine (zcE q2 (zxQ hal (by decide) (Nat.le_refl 1)) (ziL.getD (c.toNat % 16) 0) _ (zla _ b2 _)).mono ?_; rintro e W3 ⟨rfl,q3⟩))
        go_roundw
        case rel=>exact ⟨i + 1,rfl,hil,by rw [hst,he]; rw [zyI,zyI] at q3; exact q3⟩
        case measure=>exact zai hil
  ·have hie:i = S.length:=by omega
   subst hie
   have bl:=zxP hil
   rw [List.take_length] at hq hal
   go_wp2_with (first
    | (go_at_call 99; refine (zcE hq (by omega) 34 _ (by rfl)).mono ?_; rintro e W1 ⟨rfl,q1⟩; clear hq)
    | (go_at_call 34; refine (Any.Builder_String_any_k Tryz.bsI zm3 w1.heap.size w1.heap.size _ W1 (Lib.IsBuilderF.of q1.isb) (by have:=q1.nm; have:=q1.sz; omega)).mono ?_; rintro e W3 ⟨rfl,y1,y2,y3⟩))
   go_ret
   refine ⟨rfl,?_⟩
   exact x1.trans ((q1.bel.trans y2).mono x1.size)
open Go Go.Eng Go.RowKit Go.X Go.Shelf Go.Proofs
theorem zro {W:World} {pr:Nat->Nat->Prop} (hl:HL W pr) {l:List UInt8} (hle:l.length <= maxLen) {b:Bool} (h:qM l = some b) :
  Calls Tryz.prog 98 #[.string ⟨l.toArray⟩] W fun e W'=>e = .returned (.bool b)/\Below W.heap.size W W':=by
 have hfn:=qM.fn _ _ h W pr (fun _=>none) #[.string ⟨l.toArray⟩] hl (by
  simp only [buildA,ZW,Zq,refl,zbV,zi,toV,RL,R]
  exact ⟨_,_,rfl,⟨rfl,hle⟩,rfl⟩) (fun i B h=>by simp at h) (fun i j b h=>by cases h) (fun _ _=>rfl)
 refine hfn.mono ?_
 rintro en W' ⟨v,pr',rfl,hr,_,hk⟩
 refine ⟨?_,⟨hk.os,hk.tape,hk.output,hk.size,fun k h=>hk.block k h (fun i e=>by cases e)⟩⟩
 change R _ (.bool b) v at hr
 simp only [R] at hr
 rw [hr]
set_option maxHeartbeats 8000000 in
set_option maxRecDepth 20000 in
theorem zpj (S:List UInt8) (w:World)
  (hB:Calls Tryz.prog 98 #[.string ⟨S.toArray⟩] w fun e W'=>e = .returned (.bool true)/\Below w.heap.size w W') :
  Calls Tryz.prog 62 #[.string ⟨S.toArray⟩] w fun e W'=>e = .returned (.string ⟨S.toArray⟩)/\Below w.heap.size w W':=by
 have mixed:Tryz.prog.follows .mixedOrders = true:=by kernel_rfl
 go_enter Tryz.func62,Tryz.ntmps62
 go_wp2_with (go_at_call 98; refine hB.mono ?_; rintro e w1 ⟨rfl,x1⟩)
 go_ret
 exact ⟨rfl,x1⟩
def qu (S:List UInt8):Option (List UInt8):=if S.length <= 1000000 then (qM S).bind fun b=>some (if b = true then S else QM S) else none
theorem qu.fn:FnT Tryz.prog 62 [.d .str] [.str] qu:=by
 intro (S:List UInt8) r h
 unfold qu at h
 split at h
 case isFalse=>cases h
 rename_i hS
 simp only [Option.bind_eq_some_iff,Option.some.injEq] at h
 obtain ⟨b,h1,rfl⟩:=h
 refine zaI fun w pr lam cargs hl hargs=>?_
 simp only [buildA,ZW,Zq,refl,zbV,zi,toV,RL,R] at hargs
 obtain ⟨y,ys,e,⟨rfl,hs⟩,rfl⟩:=hargs
 have hc:cargs = #[.string ⟨S.toArray⟩]:=by rw [<- Array.toList_inj]; simpa using e
 subst hc
 have hb:=zro hl hs h1
 cases b with
 | true =>
  refine (zpj S w hb).mono ?_
  rintro en w' ⟨rfl,hbl⟩
  refine ⟨_,rfl,fun E=>?_,hbl⟩
  show R E (.str S) _
  simp only [R]
  exact ⟨by first | rfl | trivial,hs⟩
 | false =>
  refine (zt8 S hS w hb).mono ?_
  rintro en w' ⟨rfl,hbl⟩
  refine ⟨_,rfl,fun E=>?_,hbl⟩
  show R E (.str (QM S)) _
  simp only [R]
  refine ⟨by first | rfl | trivial,?_⟩
  have:=zt7 S
  unfold QM maxLen
  simp only [List.length_cons,zyQ,List.length_nil]
  omega
def qu.spec:XSpec Tryz.prog:=XSpec.t 62 [.d .str] [.str] qu (by kernel_rfl) qu.fn
end Go.Proofs.YtgpccllhdcggdaaGreatDoor
