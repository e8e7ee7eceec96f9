import Derived.Test.YtgpccllhdcggdaaGreatDoorXFs
import Derived.Test.YtgpccllhdcggdaaGreatDoorXGRa
import Derived.LaidMore
set_option linter.unusedSimpArgs false
set_option linter.unusedVariables false
noncomputable section
namespace Go.Proofs.YtgpccllhdcggdaaGreatDoor
open Go.X Go.Eng
set_option maxRecDepth 100000
def yP:List W3->Option Bool :=
 fun l_1 =>
 (qQ (σ:=Int) (ρ:=(Bool) ⊕ (Unit)) (fun x_2 =>
  br (decide (x_2 < (l_1.length:Int)))
   ((idx l_1 x_2).bind fun x_3 =>
   br (decide (x_3.a < x_3.b))
    (some (.done (.inl false)))
    (br (decide (x_3.c < x_3.a))
     (some (.done (.inl false)))
     ((yj .i64 x_2 (1:Int)).bind fun x_4 =>
     some (.next x_4))))
   (some (.done (.inr ())))) (0:Int)).bind fun x_6 =>
 Sum.elim
  (fun x_5 =>
  some x_5)
  (fun _ =>
  some true) x_6
theorem yP.fn:FnT Tryz.prog 117 [.d .l_W3] [.bool] yP:=zo (ctx 0 []) (.two .no (.two (.two .no (.loop [2,4,7,8,9,10,11,12,13,14,15,16,17,18,19,20,21,22,23] [] [.slot 7 .i64 none] [(.ret,[.slot 2 .bool none]),(.exit 0,[])] .no)) .no)) Tryz.func117 rfl
def yP.spec:=zg yP.fn
def yi:ID->Option Int :=
 fun id_1 =>
 (yP ([(⟨id_1.Node,(1:Int),(16:Int)⟩:W3),(⟨id_1.Off,(0:Int),(19999:Int)⟩:W3)]:List W3)).bind fun x_2 =>
 br (!x_2)
  (some (2:Int))
  (br (decide ((1099511627776:Int) < id_1.Seq))
   (some (2:Int))
   (some (0:Int)))
theorem yi.fn:FnT Tryz.prog 105 [.d .ID] [.i64] yi:=zo (ctx 0 [yP.spec]) .no Tryz.func105 rfl
def yi.spec:=zg yi.fn
def ZD:ID->Option ((List UInt8) × Int) :=
 fun id_1 =>
 (yi id_1).bind fun x_2 =>
 br (x_2 != (0:Int))
  (some (([]:Bs),x_2))
  ((strconv_Itoa id_1.Node).bind fun x_3 =>
  (zO x_3 ([46]:Bs)).bind fun x_4 =>
  (zD (id_1.Seq,(10:Int))).bind fun x_5 =>
  (zO x_4 x_5).bind fun x_6 =>
  (zO x_6 ([46]:Bs)).bind fun x_7 =>
  (strconv_Itoa id_1.Off).bind fun x_8 =>
  (zO x_7 x_8).bind fun x_9 =>
  some (x_9,(0:Int)))
theorem ZD.fn:FnT Tryz.prog 74 [.d .ID] [.str,.i64] ZD:=zo (ctx 0 [yi.spec,strconv_Itoa.spec,zD.spec]) .no Tryz.func74 rfl
def ZD.spec:=zg ZD.fn
def qJ:List UInt8->Option Bool :=
 fun s_1 =>
 (qQ (σ:=Int) (ρ:=(Bool) ⊕ (Unit)) (fun x_2 =>
  br (decide (x_2 < ((zY s_1).length:Int)))
   ((idx (zY s_1) x_2).bind fun x_3 =>
   br (decide ((97:Int) <= x_3))
    (br (!(decide (x_3 <= (122:Int))))
     (br (x_2 == (0:Int))
      (some (.done (.inl false)))
      (br (x_3 != (45:Int))
             (br (decide (x_3 < (48:Int)))
              (some (.done (.inl false)))
              (br (decide ((57:Int) < x_3))
               (some (.done (.inl false)))
               ((yj .i64 x_2 (1:Int)).bind fun x_4 =>
               some (.next x_4))))
             ((yj .i64 x_2 (1:Int)).bind fun x_5 =>
             some (.next x_5))))
     ((yj .i64 x_2 (1:Int)).bind fun x_6 =>
     some (.next x_6)))
    (br (x_2 == (0:Int))
     (some (.done (.inl false)))
     (br (x_3 != (45:Int))
      (br (decide (x_3 < (48:Int)))
             (some (.done (.inl false)))
             (br (decide ((57:Int) < x_3))
              (some (.done (.inl false)))
              ((yj .i64 x_2 (1:Int)).bind fun x_7 =>
              some (.next x_7))))
      ((yj .i64 x_2 (1:Int)).bind fun x_8 =>
      some (.next x_8)))))
   (some (.done (.inr ())))) (0:Int)).bind fun x_10 =>
 Sum.elim
  (fun x_9 =>
  some x_9)
  (fun _ =>
  br (decide ((1:Int) <= (s_1.length:Int)))
   (some (decide ((s_1.length:Int) <= (20:Int))))
   (some false)) x_10
theorem qJ.fn:FnT Tryz.prog 63 [.d .str] [.bool] qJ:=zo (ctx 0 []) (.two .no (.two (.two .no (.loop [2,3,4,5,9,10,11,12,13,14,15,16,17,18,19,20,21,22,23,24,25,26,27,28,29,30,31,32,33,34,35,36,37,38] [] [.slot 9 .i64 none] [(.ret,[.slot 2 .bool none]),(.exit 0,[])] .no)) .no)) Tryz.func63 rfl
def qJ.spec:=zg qJ.fn
def yl:Script->Option Bool :=
 fun s_1 =>
 (qQ (σ:=Int) (ρ:=(Bool) ⊕ (Unit)) (fun i_2 =>
  br (decide (i_2 < (s_1.Commands.length:Int)))
   (br (decide (i_2 < (406:Int)))
    ((idx s_1.Commands i_2).bind fun x_3 =>
    br (decide ((1010:Int) < (x_3.Bundle.Data.length:Int)))
     (some (.done (.inl true)))
     ((yj .i64 i_2 (1:Int)).bind fun x_4 =>
     some (.next x_4)))
    (some (.done (.inr ()))))
   (some (.done (.inr ())))) (0:Int)).bind fun x_6 =>
 Sum.elim
  (fun x_5 =>
  some x_5)
  (fun _ =>
  br (decide ((18:Int) < (s_1.Configs.length:Int)))
   (some true)
   (br (decide ((20:Int) < (s_1.Plan.length:Int)))
    (br (decide ((s_1.Plan.length:Int) < (199:Int)))
     (some true)
     (br (decide ((205:Int) < (s_1.Plan.length:Int)))
      (some true)
      (br (decide ((40:Int) < (s_1.Commands.length:Int)))
       (br (decide ((s_1.Commands.length:Int) < (399:Int)))
        (some true)
        (some (decide ((405:Int) < (s_1.Commands.length:Int)))))
       (some (decide ((405:Int) < (s_1.Commands.length:Int)))))))
    (br (decide ((205:Int) < (s_1.Plan.length:Int)))
     (some true)
     (br (decide ((40:Int) < (s_1.Commands.length:Int)))
      (br (decide ((s_1.Commands.length:Int) < (399:Int)))
       (some true)
       (some (decide ((405:Int) < (s_1.Commands.length:Int)))))
      (some (decide ((405:Int) < (s_1.Commands.length:Int)))))))) x_6
theorem yl.fn:FnT Tryz.prog 4 [.d .Script] [.bool] yl:=zo (ctx 0 []) (.two .no (.two (.two .no (.loop [2,3,4,5,6,7,8,9,10,11,12,13,14,15,16,17,18,19,20,21,22,23] [] [.slot 3 .i64 none] [(.ret,[.slot 2 .bool none]),(.exit 0,[])] .no)) .no)) Tryz.func4 rfl
def yl.spec:=zg yl.fn
def yY:Int->Option Bool :=
 fun n_1 =>
 br (decide ((1:Int) <= n_1))
  (some (decide (n_1 <= (16:Int))))
  (some false)
theorem yY.fn:FnT Tryz.prog 48 [.d .i64] [.bool] yY:=zo (ctx 0 []) .no Tryz.func48 rfl
def yY.spec:=zg yY.fn
def yQ:(Int × Int × Int)->Option Bool :=
 fun (x_1,low_2,high_3) =>
 br (decide (high_3 < (0:Int)))
  (some true)
  (br (decide (low_2 <= x_1))
   (some (decide (x_1 <= high_3)))
   (some false))
theorem yQ.fn:FnT Tryz.prog 87 [.d .i64,.d .i64,.d .i64] [.bool] yQ:=zo (ctx 0 []) .no Tryz.func87 rfl
def yQ.spec:=zg yQ.fn
open Go Go.Eng Go.RowKit Go.X Go.Shelf
theorem Qs {w W:World} {pr:Nat->Nat->Prop} (h:HL w pr) (hb:Below w.heap.size w W):HL W pr :=
 ⟨fun b o hp=>Nat.lt_of_lt_of_le (h.lt b o hp) hb.size,fun g vs hg=>by
  obtain ⟨⟨ty,h1⟩,h2⟩:=h.glob g vs hg
  exact ⟨⟨ty,(hb.block g (Array.getElem?_eq_some_iff.1 h1).1).trans h1⟩,h2⟩,fun g hg=>by
  obtain ⟨b,h1,h2⟩:=h.tab g hg
  exact ⟨b,h1.keep (fun q=>hb.block g q) (fun q=>hb.block b q),h2⟩⟩
theorem zpZ {W:World} {pr:Nat->Nat->Prop} (hl:HL W pr) {M:Nat} (hM:M < W.heap.size):HL W (fun b o=>pr b o ∨ b = M) :=
 ⟨fun b o h=>by rcases h with h | rfl; exact hl.lt b o h; exact hM,fun g vs hg=>by
  obtain ⟨h1,h2⟩:=hl.glob g vs hg
  exact ⟨h1,fun i hi=>.inl (h2 i hi)⟩,fun g hg=>by
  obtain ⟨b,h1,h2,h3⟩:=hl.tab g hg
  exact ⟨b,h1,.inl h2,.inl h3⟩⟩
def zlQ (a b c:Int):Value:=.agg #[.int .i64 a,.int .u64 b,.int .i64 c]
theorem zdc {W:World} {pr:Nat->Nat->Prop} (hl:HL W pr) {a b c e:Int} (h:yi ⟨a,b,c⟩ = some e) :
  Calls Tryz.prog 105 #[zlQ a b c] W fun en W'=>en = .returned (.int .i64 e)/\Below W.heap.size W W':=by
 have hfn:=yi.fn _ _ h W pr (fun _=>none) #[zlQ a b c] hl (by
  show RL _ [.agg [.int .i64 a,.int .u64 b,.int .i64 c]] [zlQ a b c]
  simp only [RL,R]
  refine ⟨_,_,rfl,⟨[.int .i64 a,.int .u64 b,.int .i64 c],rfl,⟨_,_,rfl,rfl,_,_,rfl,rfl,_,_,rfl,rfl,rfl⟩,?_⟩,rfl⟩
  intro y hy; simp at hy; rcases hy with rfl | rfl | rfl <;> rfl) (fun i B h=>by simp at h) (fun i j b h=>by cases h) (fun _ _=>rfl)
 refine hfn.mono ?_
 rintro en W' ⟨v,pr',rfl,hr,_,hk⟩
 refine ⟨?_,⟨hk.os,hk.tape,hk.output,hk.size,fun k h=>hk.block k h (fun i e=>by cases e)⟩⟩
 change R _ (.int .i64 e) v at hr
 simp only [R] at hr
 rw [hr]
def Yj (a b c d e:Int):Array Value:=#[.int .i64 a,.int .i64 1,.int .i64 16,.int .i64 b,.int .i64 0,.int .i64 2,.int .i64 c,.int .i64 0,.int .i64 1099511627776,.int .i64 d,.int .i64 1,.int .i64 1048576,.int .i64 e,.int .i64 1,.int .i64 20000]
def zqQ (a b c d e:Int):List W3:=[⟨a,1,16⟩,⟨b,0,2⟩,⟨c,0,1099511627776⟩,⟨d,1,1048576⟩,⟨e,1,20000⟩]
theorem zlR {W:World} {pr:Nat->Nat->Prop} (hl:HL W pr) {M ty:Nat} {a b c d e:Int} (hM:W.heap[M]? = some (.cells (Yj a b c d e) ty (0,0))) {ok:Bool} (h:yP (zqQ a b c d e) = some ok) :
  Calls Tryz.prog 117 #[.slice (some ⟨M,0,none⟩) 5 5] W fun en W'=>en = .returned (.bool ok)/\Below W.heap.size W W':=by
 have hlt:=(Array.getElem?_eq_some_iff.1 hM).1
 have cell:∀ (j:Nat) (v:Value),(Yj a b c d e)[j]? = some v->Env.at ⟨W,fun b o=>pr b o ∨ b = M,fun _=>none⟩ M j v:=fun j v hv=>by
  refine ⟨?_,.inr rfl⟩
  show W.cell? ⟨M,j,none⟩ = some v
  simp only [World.cell?,hM]
  exact hv
 have one:∀ (o:Nat) (x y z:Int),(Yj a b c d e)[o]? = some (.int .i64 x)->(Yj a b c d e)[o + 1]? = some (.int .i64 y)->(Yj a b c d e)[o + 2]? = some (.int .i64 z) ->
   ∃ v:Value,(∃ xs:List Value,v = .agg xs.toArray/\(∃ q qs,xs = q :: qs/\q = .int .i64 x/\∃ q2 qs2,qs = q2 :: qs2/\q2 = .int .i64 y/\∃ q3 qs3,qs2 = q3 :: qs3/\q3 = .int .i64 z/\qs3 = [])/\∀ u ∈ xs,u.oneCell' = true)/\v.cells.size = 3 /\
    ∀ j u,v.cells[j]? = some u->Env.at ⟨W,fun b o=>pr b o ∨ b = M,fun _=>none⟩ M (o + j) u/\u.oneCell' = true:=fun o x y z h1 h2 h3=>by
  refine ⟨.agg #[.int .i64 x,.int .i64 y,.int .i64 z],⟨[.int .i64 x,.int .i64 y,.int .i64 z],rfl,⟨_,_,rfl,rfl,_,_,rfl,rfl,_,_,rfl,rfl,rfl⟩,fun u hu=>by simp at hu; rcases hu with rfl | rfl | rfl <;> rfl⟩,rfl,fun j u hj=>?_⟩
  match j,hj with
  | 0,hj=>simp [Value.cells] at hj; subst hj; exact ⟨cell _ _ h1,rfl⟩
  | 1,hj=>simp [Value.cells] at hj; subst hj; exact ⟨cell _ _ h2,rfl⟩
  | 2,hj=>simp [Value.cells] at hj; subst hj; exact ⟨cell _ _ h3,rfl⟩
  | j + 3,hj=>simp [Value.cells] at hj
 have hfn:=yP.fn _ _ h W (fun b o=>pr b o ∨ b = M) (fun _=>none) #[.slice (some ⟨M,0,none⟩) 5 5] (zpZ hl hlt) (by
  show RL _ [.list [.agg [.int .i64 a,.int .i64 1,.int .i64 16],.agg [.int .i64 b,.int .i64 0,.int .i64 2],.agg [.int .i64 c,.int .i64 0,.int .i64 1099511627776],.agg [.int .i64 d,.int .i64 1,.int .i64 1048576],.agg [.int .i64 e,.int .i64 1,.int .i64 20000]]] [.slice (some ⟨M,0,none⟩) 5 5]
  simp only [RL,R,RR]
  exact ⟨_,_,rfl,⟨_,5,rfl,Nat.le_refl _,by unfold maxLen; omega,.inr ⟨_,0,3,rfl,one 0 a 1 16 rfl rfl rfl,one 3 b 0 2 rfl rfl rfl,one 6 c 0 1099511627776 rfl rfl rfl,one 9 d 1 1048576 rfl rfl rfl,one 12 e 1 20000 rfl rfl rfl,trivial⟩⟩,rfl⟩) (fun i B h=>by simp at h) (fun i j b h=>by cases h) (fun _ _=>rfl)
 refine hfn.mono ?_
 rintro en W' ⟨v,pr',rfl,hr,_,hk⟩
 refine ⟨?_,⟨hk.os,hk.tape,hk.output,hk.size,fun k h=>hk.block k h (fun i e=>by cases e)⟩⟩
 change R _ (.bool ok) v at hr
 simp only [R] at hr
 rw [hr]
open Go Go.Eng Go.RowKit Go.X Go.Shelf
def zrV (b:Bundle):Value:=.agg #[.int .i64 b.ID.Node,.int .u64 b.ID.Seq,.int .i64 b.ID.Off,.int .i64 b.Dest,.int .i64 b.Prio,.int .i64 b.Born,.int .i64 b.Life,.int .i64 b.Total,.string ⟨b.Data.toArray⟩]
def qp (b:Bundle):Option Int :=
 (yi b.ID).bind fun e=>if e ≠ 0 then some e else
 (yP (zqQ b.Dest b.Prio b.Born b.Life b.Total)).bind fun ok=>if ok = false then some 2 else
 if b.Data.length = 0 then some 11 else if 1000 < b.Data.length then some 4 else
 if wrap64 (b.Total - b.Data.length) < b.ID.Off then some 12 else some 0
def zeg (b:Bundle):Obj:=.cells #[.int .i64 b.ID.Node,.int .u64 b.ID.Seq,.int .i64 b.ID.Off,.int .i64 b.Dest,.int .i64 b.Prio,.int .i64 b.Born,.int .i64 b.Life,.int .i64 b.Total,.string ⟨b.Data.toArray⟩] 46
theorem zdd (W:World) (o:Obj):(W.alloc o).heap[W.heap.size]? = some o:=by simp [World.alloc,-World.alloc_eq]
theorem Qt (W:World) (o:Obj):(W.alloc o).heap.size = W.heap.size + 1:=by simp
theorem zlS {b:Bundle} {N:Nat} {w:World} (h:w.heap[N]? = some (zeg b)):w.cell? ⟨N,0,none⟩ = some (.int .i64 b.ID.Node)/\w.cell? ⟨N,1,none⟩ = some (.int .u64 b.ID.Seq)/\w.cell? ⟨N,2,none⟩ = some (.int .i64 b.ID.Off)/\w.cell? ⟨N,3,none⟩ = some (.int .i64 b.Dest) /\
  w.cell? ⟨N,4,none⟩ = some (.int .i64 b.Prio)/\w.cell? ⟨N,5,none⟩ = some (.int .i64 b.Born)/\w.cell? ⟨N,6,none⟩ = some (.int .i64 b.Life)/\w.cell? ⟨N,7,none⟩ = some (.int .i64 b.Total)/\w.cell? ⟨N,8,none⟩ = some (.string ⟨b.Data.toArray⟩):=by
 unfold zeg at h
 simp [World.cell?,h]
theorem zp0 {b:Bundle} {W w:World} (hb:Below (W.alloc (zeg b)).heap.size (W.alloc (zeg b)) w):Below W.heap.size W w/\w.heap[W.heap.size]? = some (zeg b)/\W.heap.size < w.heap.size:=by
 have h0:Below W.heap.size W (W.alloc (zeg b)):=(Below.refl _ _).alloc (Nat.le_refl _) _
 have hs:=Qt W (zeg b)
 have:=hb.size
 exact ⟨h0.trans (hb.mono h0.size),(hb.block _ (by omega)).trans (zdd W _),by omega⟩
theorem zrW {b:Bundle} {W w1 w2:World} {o:Obj} (h1:Below W.heap.size W w1) (h2:w1.heap[W.heap.size]? = some (zeg b)) (hb:Below (w1.alloc o).heap.size (w1.alloc o) w2):Below W.heap.size W w2/\w2.heap[W.heap.size]? = some (zeg b):=by
 have h0:Below w1.heap.size w1 (w1.alloc o):=(Below.refl _ _).alloc (Nat.le_refl _) _
 have hs:=Qt w1 o
 have hlt:=(Array.getElem?_eq_some_iff.1 h2).1
 have hm:=h1.size
 exact ⟨h1.trans ((h0.mono hm).trans (hb.mono (by omega))),(hb.block _ (by omega)).trans ((h0.block _ hlt).trans h2)⟩
set_option maxHeartbeats 6400000 in
set_option maxRecDepth 100000 in
theorem zwa {W:World} {pr:Nat->Nat->Prop} (hl:HL W pr) {b:Bundle} {e:Int} (h1:yi b.ID = some e) (he:e ≠ 0) :
  Calls Tryz.prog 88 #[zrV b] W fun en W'=>en = .returned (.int .i64 e)/\Below W.heap.size W W':=by
 have mixed:Tryz.prog.follows .mixedOrders = true:=by kernel_rfl
 have hcall:=zdc (Qs hl ((Below.refl _ _).alloc (Nat.le_refl _) (zeg b))) h1
 have hst:=fun w=>zp0 (b:=b) (W:=W) (w:=w)
 have he':¬ e = 0:=he
 unfold zrV
 unfold zlQ at hcall
 unfold zeg at hcall hst
 clear hl
 go_enter Tryz.func88,Tryz.ntmps88
 go_wp2_with (go_at_call 105; refine hcall.mono ?_; rintro en w' ⟨rfl,hb⟩; have hfin:=(hst _ hb).1; clear hst hcall hb)
 go_ret
 exact ⟨rfl,hfin⟩
set_option maxHeartbeats 6400000 in
set_option maxRecDepth 100000 in
theorem zxn {W:World} {pr:Nat->Nat->Prop} (hl:HL W pr) {b:Bundle} (h1:yi b.ID = some 0) {ok:Bool} (h2:yP (zqQ b.Dest b.Prio b.Born b.Life b.Total) = some ok) (hle:b.Data.length <= maxLen) {r:Int}
  (hr:(if ok = false then some 2 else if b.Data.length = 0 then some 11 else if 1000 < b.Data.length then some 4 else if wrap64 (b.Total - b.Data.length) < b.ID.Off then some 12 else some 0) = some r) :
  Calls Tryz.prog 88 #[zrV b] W fun en W'=>en = .returned (.int .i64 r)/\Below W.heap.size W W':=by
 have mixed:Tryz.prog.follows .mixedOrders = true:=by kernel_rfl
 have hcall:=zdc (Qs hl ((Below.refl _ _).alloc (Nat.le_refl _) (zeg b))) h1
 have hst:=fun w=>zp0 (b:=b) (W:=W) (w:=w)
 have hw:∀ w1,Below W.heap.size W w1->Calls Tryz.prog 117 #[.slice (some ⟨w1.heap.size,0,none⟩) 5 5] (w1.alloc (.cells (Yj b.Dest b.Prio b.Born b.Life b.Total) 216)) fun en W'=>en = .returned (.bool ok)/\Below (w1.alloc (.cells (Yj b.Dest b.Prio b.Born b.Life b.Total) 216)).heap.size (w1.alloc (.cells (Yj b.Dest b.Prio b.Born b.Life b.Total) 216)) W':=fun w1 hb1 =>
  zlR (Qs (Qs hl hb1) ((Below.refl _ _).alloc (Nat.le_refl _) _)) (zdd w1 _) h2
 unfold zrV
 unfold zlQ at hcall
 unfold zeg at hcall hst
 unfold Yj at hw
 clear hl h1 h2
 go_enter Tryz.func88,Tryz.ntmps88
 go_wp2_with (go_at_call 105; refine hcall.mono ?_; rintro en w1 ⟨rfl,hb⟩; obtain ⟨z1,z2,z3⟩:=hst _ hb; obtain ⟨c0,c1,c2,c3,c4,c5,c6,c7,c8⟩:=zlS z2; have hw1:=hw _ z1; have hst2:=fun w2 o=>zrW (b:=b) (W:=W) (w1:=w1) (w2:=w2) (o:=o) z1 z2; clear hst hcall hb hw z1 z2)
 go_at_call 117
 refine hw1.mono ?_
 rintro en w2 ⟨rfl,hb2⟩
 obtain ⟨hfin,z2⟩:=hst2 _ _ hb2
 clear c0 c1 c2 c3 c4 c5 c6 c7 c8
 obtain ⟨c0,c1,c2,c3,c4,c5,c6,c7,c8⟩:=zlS z2
 clear hst2 hb2 z2 hw1
 cases ok with
 | false =>
  simp only [if_true] at hr
  cases hr
  go_wp2
  go_ret
  exact ⟨rfl,hfin⟩
 | true =>
  simp only [Bool.true_eq_false,if_false] at hr
  by_cases hz:b.Data.length = 0
  ·rw [if_pos hz] at hr
   cases hr
   have hz':(b.Data.length:Int) = 0:=by omega
   go_wp2
   go_ret
   exact ⟨rfl,hfin⟩
  ·rw [if_neg hz] at hr
   have hz':¬ (b.Data.length:Int) = 0:=by omega
   by_cases hg:1000 < b.Data.length
   ·rw [if_pos hg] at hr
    cases hr
    have hg':(1000:Int) < (b.Data.length:Int):=by omega
    go_wp2
    go_ret
    exact ⟨rfl,hfin⟩
   ·rw [if_neg hg] at hr
    have hg':¬ (1000:Int) < (b.Data.length:Int):=by omega
    by_cases hq:wrap64 (b.Total - b.Data.length) < b.ID.Off
    ·rw [if_pos hq] at hr
     cases hr
     go_wp2
     go_ret
     exact ⟨rfl,hfin⟩
    ·rw [if_neg hq] at hr
     cases hr
     go_wp2
     go_ret
     exact ⟨rfl,hfin⟩
theorem qp.fn:FnT Tryz.prog 88 [.d .Bundle] [.i64] qp:=by
 intro b r h
 unfold qp at h
 simp only [Option.bind_eq_some_iff] at h
 obtain ⟨e,h1,h⟩:=h
 refine zaI fun w pr lam cargs hl hargs=>?_
 have hc:cargs = #[zrV b]/\b.Data.length <= maxLen:=by
  rw [<- Array.toList_inj]
  change RL _ [.agg [.int .i64 b.ID.Node,.int .u64 b.ID.Seq,.int .i64 b.ID.Off,.int .i64 b.Dest,.int .i64 b.Prio,.int .i64 b.Born,.int .i64 b.Life,.int .i64 b.Total,.str b.Data]] _ at hargs
  simp only [RL,R] at hargs
  obtain ⟨y,ys,e,⟨xs,rfl,⟨_,_,rfl,rfl,_,_,rfl,rfl,_,_,rfl,rfl,_,_,rfl,rfl,_,_,rfl,rfl,_,_,rfl,rfl,_,_,rfl,rfl,_,_,rfl,rfl,_,_,rfl,⟨rfl,hle⟩,rfl⟩,_⟩,rfl⟩:=hargs
  exact ⟨e,hle⟩
 obtain ⟨rfl,hle⟩:=hc
 by_cases he:e ≠ 0
 ·rw [if_pos he] at h
  cases h
  refine (zwa hl h1 he).mono ?_
  rintro en w' ⟨rfl,hb⟩
  exact ⟨_,rfl,fun E=>rfl,hb⟩
 ·rw [if_neg he] at h
  have he:e = 0:=Decidable.not_not.1 he
  subst he
  simp only [Option.bind_eq_some_iff] at h
  obtain ⟨ok,h2,h⟩:=h
  refine (zxn hl h1 h2 hle h).mono ?_
  rintro en w' ⟨rfl,hb⟩
  exact ⟨_,rfl,fun E=>rfl,hb⟩
def qp.spec:XSpec Tryz.prog:=XSpec.t 88 [.d .Bundle] [.i64] qp (by kernel_rfl) qp.fn
end Go.Proofs.YtgpccllhdcggdaaGreatDoor
