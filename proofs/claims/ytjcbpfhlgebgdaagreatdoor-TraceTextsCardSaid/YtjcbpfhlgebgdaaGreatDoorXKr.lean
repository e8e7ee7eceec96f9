import Derived.Test.YtjcbpfhlgebgdaaGreatDoorXKp
set_option linter.unusedSimpArgs false
set_option linter.unusedVariables false
namespace Go.Proofs.YtjcbpfhlgebgdaaGreatDoor
open Go Go.Eng Go.RowKit Go.X Go.Seq Go.Shelf
def rdF:List UInt8->Nat->Int->Int × Nat × List UInt8
 | [],n,v=>(v,n,[])
 | c :: l,n,v=>if 48 <= c.toNat/\c.toNat <= 57/\n <= 13 then rdF l (n + 1) (IntKind.u64.wrap (IntKind.u64.wrap (10 * v) + ((c.toNat:Int) - 48))) else (v,n,c :: l)
theorem zao {c:UInt8} {l:List UInt8} {n:Nat} {v:Int} (h:48 <= c.toNat/\c.toNat <= 57/\n <= 13):rdF (c :: l) n v = rdF l (n + 1) (IntKind.u64.wrap (IntKind.u64.wrap (10 * v) + ((c.toNat:Int) - 48))):=if_pos h
theorem Yu {c:UInt8} {l:List UInt8} {n:Nat} {v:Int} (h:¬ (48 <= c.toNat/\c.toNat <= 57/\n <= 13)):rdF (c :: l) n v = (v,n,c :: l):=if_neg h
def zkt:List UInt8->Option (List UInt8)
 | []=>none
 | c :: l=>if c.toNat = 46 then some l else none
theorem Q3 (c:UInt8) (l:List UInt8):zkt (c :: l) = if c.toNat = 46 then some l else none:=rfl
def Yv (k:Nat) (l:List UInt8) (p:List Int):Option (List UInt8 × List Int) :=
 if (rdF l 0 (p.getD k 0)).2.1 = 0 ∨ 13 < (rdF l 0 (p.getD k 0)).2.1 ∨ (1 < (rdF l 0 (p.getD k 0)).2.1/\l.head? = some 48) then none else some ((rdF l 0 (p.getD k 0)).2.2,p.set k (rdF l 0 (p.getD k 0)).1)
def rkF:Nat->List UInt8->List Int->Option (List UInt8 × List Int)
 | 0,l,p=>(Yv 0 l p).bind fun z=>rkF 1 z.1 z.2
 | 1,l,p=>(zkt l).bind fun l1=>(Yv 1 l1 p).bind fun z=>rkF 2 z.1 z.2
 | 2,l,p=>(zkt l).bind fun l1=>Yv 2 l1 p
 | _,l,p=>some (l,p)
termination_by k=>3 - k
theorem zeL (l:List UInt8) (p:List Int):rkF 3 l p = some (l,p):=by unfold rkF; rfl
structure RK (N:Nat) (w:World) (p0 p1 p2:Int) (W:World):Prop where
 bl:Below N w W
 size:N + 2 <= W.heap.size
 b0:W.heap[N]? = some (yZ 0 0 0)
 b1:W.heap[N + 1]? = some (zeJ p0 p1 p2)
theorem RK.init (w:World):RK w.heap.size w 0 0 0 ((w.alloc (yZ 0 0 0)).alloc (zeJ 0 0 0)):=by
 have e:∀ (W:World) (o:Obj) (k:Nat),k < W.heap.size->(W.alloc o).heap[k]? = W.heap[k]?:=fun W o k hk=>Below.heap_alloc _ _ _ hk
 have z:∀ (W:World) (o:Obj) (k:Nat),k = W.heap.size->(W.alloc o).heap[k]? = some o:=fun W o k hk=>by rw [hk]; exact ahn W o
 have s1:∀ (W:World) (o:Obj),(W.alloc o).heap.size = W.heap.size + 1:=fun W o=>by simp
 refine ⟨((Below.refl _ _).alloc (Nat.le_refl _) _).alloc (by simp) _,by simp,?_,?_⟩
 ·rw [e _ _ _ (by simp only [s1]; omega)]; exact z _ _ _ rfl
 ·exact z _ _ _ (by simp only [s1])
theorem RK.store0 {N:Nat} {w W:World} {p0 p1 p2:Int} (h:RK N w p0 p1 p2 W) (x:Int):RK N w x p1 p2 (W.setCell ⟨N + 1,0,none⟩ (.int .u64 x)).drew:=by
 refine ⟨zcB (QM h.bl (Nat.le_add_right N 1) _),by show N + 2 <= (W.setCell _ _).heap.size; simpa using h.size,?_,?_⟩
 ·rw [Zf]; exact (Below.heap_setCell _ _ _ _ (by show N ≠ N + 1; omega)).trans h.b0
 ·rw [Zf]; exact heap_setCell_same _ _ 0 _ _ _ h.b1
theorem RK.store1 {N:Nat} {w W:World} {p0 p1 p2:Int} (h:RK N w p0 p1 p2 W) (x:Int):RK N w p0 x p2 (W.setCell ⟨N + 1,1,none⟩ (.int .u64 x)).drew:=by
 refine ⟨zcB (QM h.bl (Nat.le_add_right N 1) _),by show N + 2 <= (W.setCell _ _).heap.size; simpa using h.size,?_,?_⟩
 ·rw [Zf]; exact (Below.heap_setCell _ _ _ _ (by show N ≠ N + 1; omega)).trans h.b0
 ·rw [Zf]; exact heap_setCell_same _ _ 1 _ _ _ h.b1
theorem RK.store2 {N:Nat} {w W:World} {p0 p1 p2:Int} (h:RK N w p0 p1 p2 W) (x:Int):RK N w p0 p1 x (W.setCell ⟨N + 1,2,none⟩ (.int .u64 x)).drew:=by
 refine ⟨zcB (QM h.bl (Nat.le_add_right N 1) _),by show N + 2 <= (W.setCell _ _).heap.size; simpa using h.size,?_,?_⟩
 ·rw [Zf]; exact (Below.heap_setCell _ _ _ _ (by show N ≠ N + 1; omega)).trans h.b0
 ·rw [Zf]; exact heap_setCell_same _ _ 2 _ _ _ h.b1
theorem ztu {Q:Ending->World->Prop} {tmps:Array Value} {B:World} {N:Nat} {a b c e:Int} (h1:B.heap[N]? = some (yZ a b c)) (t2:tmps[2]?.getD undef = .pointer (some ⟨N,0,none⟩)) (t3:tmps[3]?.getD undef = .int .i64 e) (h:Q (.returned (.tuple #[ZV a b c,.int .i64 e])) B) :
  bodyPost Tryz.prog Tryz.f72 Q .ret { tmps,defers:=[] } B:=by
 obtain ⟨⟨q0,q1,q2⟩,_⟩:=idc h1
 refine bodyPost_ret (v:=.tuple #[ZV a b c,.int .i64 e]) ?_ rfl h
 simp [results,Tryz.f72,go_sem,t2,t3,q0,q1,q2,ZV]
theorem zic {W:World} {pr:Nat->Nat->Prop} (hl:HL W pr) {a b c e:Int} (h:zd ⟨a,b,c⟩ = some e) :
  Calls Tryz.prog 74 #[ZV a b c] W fun en W'=>en = .returned (.int .i64 e)/\Below W.heap.size W W':=by
 have hfn:=zd.fn _ _ h W pr (fun _=>none) #[ZV a b c] hl (by
  show RL _ [.agg [.int .i64 a,.int .u64 b,.int .i64 c]] [ZV a b c]
  simp only [RL,R]
  refine ⟨_,_,rfl,⟨[.int .i64 a,.int .u64 b,.int .i64 c],rfl,⟨_,_,rfl,rfl,_,_,rfl,rfl,_,_,rfl,rfl,rfl⟩,?_⟩,rfl⟩
  intro y hy; simp at hy; rcases hy with rfl | rfl | rfl <;> rfl) (fun i B h=>by simp at h) (fun i j b h=>by cases h) (fun _ _=>rfl)
 refine hfn.mono ?_
 rintro en W' ⟨v,pr',rfl,hr,_,hk⟩
 refine ⟨?_,⟨hk.os,hk.tape,hk.output,hk.size,fun k h=>hk.block k h (fun i e=>by cases e)⟩⟩
 change R _ (.int .i64 e) v at hr
 simp only [R] at hr
 rw [hr]
noncomputable def zku:Option (List UInt8 × List Int)->Option (ID × Int)
 | none=>some (⟨0,0,0⟩,3)
 | some (l,[p0,p1,p2])=>if l ≠ [] then some (⟨0,0,0⟩,3) else (zd ⟨wrap64 p0,p1,wrap64 p2⟩).bind fun e=>if e ≠ 0 then some (⟨0,0,0⟩,e) else some (⟨wrap64 p0,p1,wrap64 p2⟩,0)
 | some _=>none
theorem za7 {S:ByteArray} {i:Int} (h0:0 <= i) (h:(S.size:Int) <= i):S.data.toList.drop i.toNat = []:=by
 have hl:S.data.toList.length = S.size:=Array.length_toList
 exact List.drop_eq_nil_of_le (by omega)
set_option maxRecDepth 20000 in
set_option maxHeartbeats 16000000 in
theorem zqf (w:World) (S:ByteArray) (hS:S.size <= 1000000) (out:Option (List UInt8 × List Int)) (hout:rkF 0 S.data.toList [0,0,0] = out) (r:ID × Int) (hr:zku out = some r)
  (hC:∀ W a b c e,Below w.heap.size w W->zd ⟨a,b,c⟩ = some e->Calls Tryz.prog 74 #[ZV a b c] W fun en W'=>en = .returned (.int .i64 e)/\Below W.heap.size W W') :
  Calls Tryz.prog 72 #[.string S] w fun e W'=>e = .returned (.tuple #[ZV r.1.Node r.1.Seq r.1.Off,.int .i64 r.2])/\Below w.heap.size w W':=by
 have mixed:Tryz.prog.follows .mixedOrders = true:=by kernel_rfl
 have kb0:Shut _:=RK.init w
 have hout':Shut _:=hout
 have hfin:Shut (∀ a b c e (tmps:Array Value) (W1:World),r = (⟨a,b,c⟩,e)->(Below w.heap.size w W1/\∃ x y z,W1.heap[w.heap.size]? = some (yZ x y z))->tmps[2]?.getD undef = .pointer (some ⟨w.heap.size,0,none⟩)->tmps[3]?.getD undef = .int .i64 e ->
   bodyPost Tryz.prog Tryz.f72 (fun e W'=>e = .returned (.tuple #[ZV r.1.Node r.1.Seq r.1.Off,.int .i64 r.2])/\Below w.heap.size w W') .ret { tmps,defers:=[] } (idW W1 w.heap.size a b c)):=by
  rintro a b c e tmps W1 rfl ⟨hbl,x,y,z,hid⟩ t2 t3
  exact ztu (ztZ hid a b c) t2 t3 ⟨rfl,zi3 hbl a b c⟩
 have hbad:Shut (out = none->∀ (tmps:Array Value) (W1:World),(Below w.heap.size w W1/\∃ x y z,W1.heap[w.heap.size]? = some (yZ x y z))->tmps[2]?.getD undef = .pointer (some ⟨w.heap.size,0,none⟩)->tmps[3]?.getD undef = .int .i64 3 ->
   bodyPost Tryz.prog Tryz.f72 (fun e W'=>e = .returned (.tuple #[ZV r.1.Node r.1.Seq r.1.Off,.int .i64 r.2])/\Below w.heap.size w W') .ret { tmps,defers:=[] } (idW W1 w.heap.size 0 0 0)):=by
  rintro rfl tmps W1 h1 t2 t3
  unfold zku at hr
  cases hr
  exact hfin.out 0 0 0 3 tmps W1 rfl h1 t2 t3
 have hr':Shut _:=hr
 clear hout hr
 go_enter Tryz.func72,Tryz.ntmps72
 go_wp2
 go_loopw [5,6] (fun v5 v6 wr=>∃ (i k p0 p1 p2:Int),v6 = .int .i64 k/\v5 = .int .i64 i/\0 <= i/\i <= (S.size:Int)/\0 <= k/\k <= 3/\rkF k.toNat (S.data.toList.drop i.toNat) [p0,p1,p2] = out/\RK w.heap.size w p0 p1 p2 wr)
  (fun v5 v6 wr=>((3:Int) - intOf v6).toNat)
 case atStart=>exact ⟨0,0,0,0,0,rfl,rfl,by decide,by omega,by decide,by decide,hout'.out,kb0.out⟩
 case round =>
  clear kb0 hout'
  obtain ⟨i,k,p0,p1,p2,rfl,rfl,hi0,hi1,hk0,hk3,hq,hkb⟩:=hrel
  obtain ⟨⟨c0,c1,c2⟩,cf⟩:=pdc hkb.b1
  obtain ⟨⟨g0,g1,g2⟩,gf⟩:=idc hkb.b0
  have hkb':Shut _:=hkb
  have hkb2:Shut (Below w.heap.size w wr/\∃ x y z,wr.heap[w.heap.size]? = some (yZ x y z)):=⟨hkb.bl,_,_,_,hkb.b0⟩
  have hk:k = 0 ∨ k = 1 ∨ k = 2 ∨ k = 3:=by omega
  have hq1:Shut _:=hq
  clear hkb hq hk0 hk3
  rcases hk with rfl | rfl | rfl | rfl
  ·have hq3:Shut ((Yv 0 (S.data.toList.drop i.toNat) [p0,p1,p2]).bind (fun z=>rkF 1 z.1 z.2) = out):=by
    have:=hq1.out
    unfold rkF at this
    exact this
   clear hq1
   go_wp2
   go_loopw [5] (fun v5 wr=>∃ (n:Nat) (q v:Int),v5 = .int .i64 q/\q = i + n/\q <= (S.size:Int)/\n <= 14/\rdF (S.data.toList.drop q.toNat) n v = rdF (S.data.toList.drop (i).toNat) 0 p0/\RK w.heap.size w v p1 p2 wr)
    (fun v5 wr=>((S.size:Int) - intOf v5).toNat)
   case atStart=>exact ⟨0,i,p0,rfl,by omega,by omega,by omega,rfl,hkb'.out⟩
   case round =>
    clear c0 c1 c2 cf g0 g1 g2 gf hkb2 hkb'
    obtain ⟨n,q,v,rfl,hqe,hqs,hn14,hz,hkb⟩:=hrel
    obtain ⟨⟨c0,c1,c2⟩,cf⟩:=pdc hkb.b1
    obtain ⟨⟨g0,g1,g2⟩,gf⟩:=idc hkb.b0
    have hkb':Shut _:=hkb
    have hkb2:Shut (Below w.heap.size w wr/\∃ x y z,wr.heap[w.heap.size]? = some (yZ x y z)):=⟨hkb.bl,_,_,_,hkb.b0⟩
    have hq0:0 <= q:=by omega
    have hwq:wrap64 (q + 1) = q + 1:=IntWalk.wrap64_in _ (by omega)
    have hws:wrap64 (q - i) = (n:Int):=by rw [IntWalk.wrap64_in _ (by omega)]; omega
    have hz1:Shut _:=hz
    have hqe1:Shut _:=hqe
    clear hkb hz hqe
    by_cases hgo:∃ hqn:q.toNat < S.size,q < (S.size:Int)/\48 <= (S[q.toNat]'hqn).toNat/\(S[q.toNat]'hqn).toNat <= 57/\n <= 13
    ·obtain ⟨hqn,hlt,h48,h57,h13⟩:=hgo
     have hz2:Shut (rdF (S.data.toList.drop (q + 1).toNat) (n + 1) (IntKind.u64.wrap (IntKind.u64.wrap (10 * v) + (((S[q.toNat]'hqn).toNat:Int) - 48))) = rdF (S.data.toList.drop (i).toNat) 0 p0):=by
      have:=hz1.out
      rw [Yk hq0 hqn,zao ⟨h48,h57,h13⟩] at this
      exact this
     have hlt2:Shut (q < (S.size:Int)):=hlt
     have b1:(48:Int) <= ((S[q.toNat]'hqn).toNat:Int):=by omega
     have b2:((S[q.toNat]'hqn).toNat:Int) <= 57:=by omega
     have b3:q - i <= 13:=by have:=hqe1.out; omega
     have hst:Shut (RK w.heap.size w (IntKind.u64.wrap (IntKind.u64.wrap (10 * v) + (((S[q.toNat]'hqn).toNat:Int) - 48))) p1 p2 (wr.setCell ⟨w.heap.size + 1,0,none⟩ (.int .u64 (IntKind.u64.wrap (IntKind.u64.wrap (10 * v) + (((S[q.toNat]'hqn).toNat:Int) - 48))))).drew):=RK.store0 hkb'.out _
     have hqe2:Shut (q + 1 = i + ((n + 1:Nat):Int)):=by have:=hqe1.out; show q + 1 = i + ((n + 1:Nat):Int); omega
     have hn2:Shut (n + 1 <= 14):=by show n + 1 <= 14; omega
     clear hz1 hqe1 h48 h57 h13 hn14 hkb2 hkb' hbad hfin hr' hC
     go_wp2
     go_region
     go_wp2
     have hlt3:q < (S.size:Int):=hlt2.out
     refine ⟨⟨n + 1,q + 1,IntKind.u64.wrap (IntKind.u64.wrap (10 * v) + (((S[q.toNat]'hqn).toNat:Int) - 48)),rfl,hqe2.out,by omega,hn2.out,hz2.out,hst.out⟩,?_⟩
     simp only [intOf]
     omega
    ·have hend:rdF (S.data.toList.drop (i).toNat) 0 p0 = (v,n,S.data.toList.drop q.toNat):=by
      rw [<- hz1.out]
      by_cases hlt:q < (S.size:Int)
      ·have hqn:q.toNat < S.size:=by omega
       rw [Yk hq0 hqn,Yu (fun h=>hgo ⟨hqn,hlt,h.1,h.2.1,h.2.2⟩)]
      ·rw [za7 hq0 (by omega)]
       unfold rdF
       rfl
     have hq4:(if n = 0 ∨ 13 < n ∨ (1 < n/\(S.data.toList.drop (i).toNat).head? = some 48) then none else rkF 1 (S.data.toList.drop q.toNat) [v,p1,p2]) = out:=by
      rw [<- hq3.out]
      unfold Yv
      have e0:[p0,p1,p2].getD 0 0 = p0:=rfl
      rw [e0,hend]
      dsimp only
      split
      ·rfl
      ·rfl
     have hq5:=hq4
     have hcond:(¬ (q < (S.size:Int)) ∨ ∃ (hqn:q.toNat < S.size),q < (S.size:Int)/\((S[q.toNat]'hqn).toNat < 48 ∨ 57 < (S[q.toNat]'hqn).toNat ∨ 13 < n)):=by
      by_cases hlt:q < (S.size:Int)
      ·have hqn:q.toNat < S.size:=by omega
       refine .inr ⟨hqn,hlt,?_⟩
       by_cases a1:(S[q.toNat]'hqn).toNat < 48
       ·exact .inl a1
       ·by_cases a2:57 < (S[q.toNat]'hqn).toNat
        ·exact .inr (.inl a2)
        ·by_cases a3:13 < n
         ·exact .inr (.inr a3)
         ·exact absurd ⟨hqn,hlt,by omega,by omega,by omega⟩ hgo
      ·exact .inl hlt
     have hSf:Shut (∀ hfn:(i).toNat < S.size,(S.data.toList.drop (i).toNat).head? = some S[(i).toNat]):=fun hfn=>by
      rw [Yk (by omega) hfn]; rfl
     have hfin2:Shut (∀ A:Prop,A->A):=fun _ h=>h
     clear hq4 hend hz1 hgo hq3 hwq
     by_cases hn0:n = 0
     ·rw [if_pos (.inl hn0)] at hq5
      have heq:q = i:=by have:=hqe1.out; omega
      subst hq5
      clear hqe1 hws hn14 hSf hkb' hC hfin hr'
      rcases hcond with hc | ⟨hqn,hlt,hc⟩
      ·clear hn0
       subst heq
       go_wp2
       exact hbad.out (by simp) _ _ hkb2.out rfl rfl
      ·rcases hc with hc | hc | hc
       ·have b1:((S[q.toNat]'hqn).toNat:Int) < 48:=by omega
        clear hc hn0
        subst heq
        go_wp2
        exact hbad.out (by simp) _ _ hkb2.out rfl rfl
       ·have b1:48 <= ((S[q.toNat]'hqn).toNat:Int):=by omega
        have b2:57 < ((S[q.toNat]'hqn).toNat:Int):=by omega
        clear hc hn0
        subst heq
        go_wp2
        exact hbad.out (by simp) _ _ hkb2.out rfl rfl
       ·exfalso; omega
     ·have hne:¬ q = i:=by have:=hqe1.out; omega
      have hfn:(i).toNat < S.size:=by have:=hqe1.out; omega
      have hfl:i < (S.size:Int):=by have:=hqe1.out; omega
      by_cases hn13:13 < n
      ·rw [if_pos (.inr (.inl hn13))] at hq5
       have hq13:13 < q - i:=by have:=hqe1.out; omega
       subst hq5
       clear hqe1 hws hn14 hSf hkb' hC hfin hr' hn0 hn13
       rcases hcond with hc | ⟨hqn,hlt,hc⟩
       ·go_wp2
        exact hbad.out (by simp) _ _ hkb2.out rfl rfl
       ·have hc':(S[q.toNat]'hqn).toNat < 48 ∨ (48 <= (S[q.toNat]'hqn).toNat/\57 < (S[q.toNat]'hqn).toNat) ∨ (48 <= (S[q.toNat]'hqn).toNat/\(S[q.toNat]'hqn).toNat <= 57):=by omega
        clear hc
        rcases hc' with hc | ⟨hc,hd⟩ | ⟨hc,hd⟩
        ·have b1:((S[q.toNat]'hqn).toNat:Int) < 48:=by omega
         clear hc
         go_wp2
         exact hbad.out (by simp) _ _ hkb2.out rfl rfl
        ·have b1:48 <= ((S[q.toNat]'hqn).toNat:Int):=by omega
         have b2:57 < ((S[q.toNat]'hqn).toNat:Int):=by omega
         clear hc hd
         go_wp2
         exact hbad.out (by simp) _ _ hkb2.out rfl rfl
        ·have b1:48 <= ((S[q.toNat]'hqn).toNat:Int):=by omega
         have b2:((S[q.toNat]'hqn).toNat:Int) <= 57:=by omega
         clear hc hd
         go_wp2
         exact hbad.out (by simp) _ _ hkb2.out rfl rfl
      ·have hq13:¬ 13 < q - i:=by have:=hqe1.out; omega
       have hcs:¬ (q < (S.size:Int)) ∨ ∃ (hqn:q.toNat < S.size),q < (S.size:Int)/\(((S[q.toNat]'hqn).toNat:Int) < 48 ∨ (48 <= ((S[q.toNat]'hqn).toNat:Int)/\57 < ((S[q.toNat]'hqn).toNat:Int))):=by
        rcases hcond with hc | ⟨hqn,hlt,hc⟩
        ·exact .inl hc
        ·exact .inr ⟨hqn,hlt,by omega⟩
       clear hcond
       by_cases hz1:n = 1
       ·rw [if_neg (fun h=>by rcases h with h | h | h; exact hn0 h; exact hn13 h; have:=h.1; omega)] at hq5
        have hq1:¬ 1 < q - i:=by have:=hqe1.out; omega
        have hq6:Shut (rkF 1 (S.data.toList.drop q.toNat) [v,p1,p2] = out):=hq5
        clear hqe1 hws hn14 hSf hC hfin hr' hn0 hn13 hz1 hq5 hbad hkb2
        rcases hcs with hc | ⟨hqn,hlt,hc | ⟨hc,hd⟩⟩ <;> (go_wp2; exact ⟨⟨q,1,v,p1,p2,rfl,rfl,hq0,hqs,by decide,by decide,hq6.out,hkb'.out⟩,by decide⟩)
       ·have hq1:1 < q - i:=by have:=hqe1.out; omega
        by_cases h48:(S[(i).toNat]'hfn) = 48
        ·rw [if_pos (.inr (.inr ⟨by omega,by rw [hSf.out hfn,h48]⟩))] at hq5
         have b48:((S[(i).toNat]'hfn).toNat:Int) = 48:=by rw [h48]; rfl
         subst hq5
         clear hqe1 hws hn14 hSf hkb' hC hfin hr' hn0 hn13 hz1 h48
         rcases hcs with hc | ⟨hqn,hlt,hc | ⟨hc,hd⟩⟩ <;> (go_wp2; exact hbad.out (by simp) _ _ hkb2.out rfl rfl)
        ·rw [if_neg (fun h=>by rcases h with h | h | h; exact hn0 h; exact hn13 h; exact h48 (by have:=h.2; rw [hSf.out hfn] at this; simpa using this))] at hq5
         have b48:(((S[(i).toNat]'hfn).toNat:Int) == (48:Int)) = false:=beq_eq_false_iff_ne.2 (zcI (n:=48) (by omega) h48)
         have hneB:(q == i) = false:=beq_eq_false_iff_ne.2 hne
         have hq6:Shut (rkF 1 (S.data.toList.drop q.toNat) [v,p1,p2] = out):=hq5
         clear hqe1 hws hn14 hSf hC hfin hr' hn0 hn13 hz1 hq5 hbad hkb2 h48
         rcases hcs with hc | ⟨hqn,hlt,hc | ⟨hc,hd⟩⟩ <;> (go_wp2; exact ⟨⟨q,1,v,p1,p2,rfl,rfl,hq0,hqs,by decide,by decide,hq6.out,hkb'.out⟩,by decide⟩)
  ·have hq2:(zkt (S.data.toList.drop i.toNat)).bind (fun l1=>(Yv 1 l1 [p0,p1,p2]).bind (fun z=>rkF 2 z.1 z.2)) = out:=by
    have:=hq1.out
    unfold rkF at this
    exact this
   clear hq1
   have hwi:wrap64 (i + 1) = i + 1:=IntWalk.wrap64_in _ (by omega)
   by_cases hlt0:i < (S.size:Int)
   ·have hin0:i.toNat < S.size:=by omega
    rw [Yk hi0 hin0] at hq2
    rw [Q3] at hq2
    by_cases h46:(S[i.toNat]'hin0).toNat = 46
    ·rw [if_pos h46] at hq2
     have hq3:Shut ((Yv 1 (S.data.toList.drop (i + 1).toNat) [p0,p1,p2]).bind (fun z=>rkF 2 z.1 z.2) = out):=hq2
     have b46:((S[i.toNat]'hin0).toNat:Int) = 46:=by omega
     clear hq2 h46
     go_wp2
     go_loopw [5] (fun v5 wr=>∃ (n:Nat) (q v:Int),v5 = .int .i64 q/\q = (i + 1) + n/\q <= (S.size:Int)/\n <= 14/\rdF (S.data.toList.drop q.toNat) n v = rdF (S.data.toList.drop ((i + 1)).toNat) 0 p1/\RK w.heap.size w p0 v p2 wr)
      (fun v5 wr=>((S.size:Int) - intOf v5).toNat)
     case atStart=>exact ⟨0,(i + 1),p1,rfl,by omega,by omega,by omega,rfl,hkb'.out⟩
     case round =>
      clear c0 c1 c2 cf g0 g1 g2 gf hkb2 hkb'
      obtain ⟨n,q,v,rfl,hqe,hqs,hn14,hz,hkb⟩:=hrel
      obtain ⟨⟨c0,c1,c2⟩,cf⟩:=pdc hkb.b1
      obtain ⟨⟨g0,g1,g2⟩,gf⟩:=idc hkb.b0
      have hkb':Shut _:=hkb
      have hkb2:Shut (Below w.heap.size w wr/\∃ x y z,wr.heap[w.heap.size]? = some (yZ x y z)):=⟨hkb.bl,_,_,_,hkb.b0⟩
      have hq0:0 <= q:=by omega
      have hwq:wrap64 (q + 1) = q + 1:=IntWalk.wrap64_in _ (by omega)
      have hws:wrap64 (q - (i + 1)) = (n:Int):=by rw [IntWalk.wrap64_in _ (by omega)]; omega
      have hz1:Shut _:=hz
      have hqe1:Shut _:=hqe
      clear hkb hz hqe
      by_cases hgo:∃ hqn:q.toNat < S.size,q < (S.size:Int)/\48 <= (S[q.toNat]'hqn).toNat/\(S[q.toNat]'hqn).toNat <= 57/\n <= 13
      ·obtain ⟨hqn,hlt,h48,h57,h13⟩:=hgo
       have hz2:Shut (rdF (S.data.toList.drop (q + 1).toNat) (n + 1) (IntKind.u64.wrap (IntKind.u64.wrap (10 * v) + (((S[q.toNat]'hqn).toNat:Int) - 48))) = rdF (S.data.toList.drop ((i + 1)).toNat) 0 p1):=by
        have:=hz1.out
        rw [Yk hq0 hqn,zao ⟨h48,h57,h13⟩] at this
        exact this
       have hlt2:Shut (q < (S.size:Int)):=hlt
       have b1:(48:Int) <= ((S[q.toNat]'hqn).toNat:Int):=by omega
       have b2:((S[q.toNat]'hqn).toNat:Int) <= 57:=by omega
       have b3:q - (i + 1) <= 13:=by have:=hqe1.out; omega
       have hst:Shut (RK w.heap.size w p0 (IntKind.u64.wrap (IntKind.u64.wrap (10 * v) + (((S[q.toNat]'hqn).toNat:Int) - 48))) p2 (wr.setCell ⟨w.heap.size + 1,1,none⟩ (.int .u64 (IntKind.u64.wrap (IntKind.u64.wrap (10 * v) + (((S[q.toNat]'hqn).toNat:Int) - 48))))).drew):=RK.store1 hkb'.out _
       have hqe2:Shut (q + 1 = (i + 1) + ((n + 1:Nat):Int)):=by have:=hqe1.out; show q + 1 = (i + 1) + ((n + 1:Nat):Int); omega
       have hn2:Shut (n + 1 <= 14):=by show n + 1 <= 14; omega
       clear hz1 hqe1 h48 h57 h13 hn14 hkb2 hkb' hbad hfin hr' hC
       go_wp2
       go_region
       go_wp2
       have hlt3:q < (S.size:Int):=hlt2.out
       refine ⟨⟨n + 1,q + 1,IntKind.u64.wrap (IntKind.u64.wrap (10 * v) + (((S[q.toNat]'hqn).toNat:Int) - 48)),rfl,hqe2.out,by omega,hn2.out,hz2.out,hst.out⟩,?_⟩
       simp only [intOf]
       omega
      ·have hend:rdF (S.data.toList.drop ((i + 1)).toNat) 0 p1 = (v,n,S.data.toList.drop q.toNat):=by
        rw [<- hz1.out]
        by_cases hlt:q < (S.size:Int)
        ·have hqn:q.toNat < S.size:=by omega
         rw [Yk hq0 hqn,Yu (fun h=>hgo ⟨hqn,hlt,h.1,h.2.1,h.2.2⟩)]
        ·rw [za7 hq0 (by omega)]
         unfold rdF
         rfl
       have hq4:(if n = 0 ∨ 13 < n ∨ (1 < n/\(S.data.toList.drop ((i + 1)).toNat).head? = some 48) then none else rkF 2 (S.data.toList.drop q.toNat) [p0,v,p2]) = out:=by
        rw [<- hq3.out]
        unfold Yv
        have e0:[p0,p1,p2].getD 1 0 = p1:=rfl
        rw [e0,hend]
        dsimp only
        split
        ·rfl
        ·rfl
       have hq5:=hq4
       have hcond:(¬ (q < (S.size:Int)) ∨ ∃ (hqn:q.toNat < S.size),q < (S.size:Int)/\((S[q.toNat]'hqn).toNat < 48 ∨ 57 < (S[q.toNat]'hqn).toNat ∨ 13 < n)):=by
        by_cases hlt:q < (S.size:Int)
        ·have hqn:q.toNat < S.size:=by omega
         refine .inr ⟨hqn,hlt,?_⟩
         by_cases a1:(S[q.toNat]'hqn).toNat < 48
         ·exact .inl a1
         ·by_cases a2:57 < (S[q.toNat]'hqn).toNat
          ·exact .inr (.inl a2)
          ·by_cases a3:13 < n
           ·exact .inr (.inr a3)
           ·exact absurd ⟨hqn,hlt,by omega,by omega,by omega⟩ hgo
        ·exact .inl hlt
       have hSf:Shut (∀ hfn:((i + 1)).toNat < S.size,(S.data.toList.drop ((i + 1)).toNat).head? = some S[((i + 1)).toNat]):=fun hfn=>by
        rw [Yk (by omega) hfn]; rfl
       have hfin2:Shut (∀ A:Prop,A->A):=fun _ h=>h
       clear hq4 hend hz1 hgo hq3 hwq
       by_cases hn0:n = 0
       ·rw [if_pos (.inl hn0)] at hq5
        have heq:q = (i + 1):=by have:=hqe1.out; omega
        subst hq5
        clear hqe1 hws hn14 hSf hkb' hC hfin hr'
        rcases hcond with hc | ⟨hqn,hlt,hc⟩
        ·clear hn0
         subst heq
         go_wp2
         exact hbad.out (by simp) _ _ hkb2.out rfl rfl
        ·rcases hc with hc | hc | hc
         ·have b1:((S[q.toNat]'hqn).toNat:Int) < 48:=by omega
          clear hc hn0
          subst heq
          go_wp2
          exact hbad.out (by simp) _ _ hkb2.out rfl rfl
         ·have b1:48 <= ((S[q.toNat]'hqn).toNat:Int):=by omega
          have b2:57 < ((S[q.toNat]'hqn).toNat:Int):=by omega
          clear hc hn0
          subst heq
          go_wp2
          exact hbad.out (by simp) _ _ hkb2.out rfl rfl
         ·exfalso; omega
       ·have hne:¬ q = (i + 1):=by have:=hqe1.out; omega
        have hfn:((i + 1)).toNat < S.size:=by have:=hqe1.out; omega
        have hfl:(i + 1) < (S.size:Int):=by have:=hqe1.out; omega
        by_cases hn13:13 < n
        ·rw [if_pos (.inr (.inl hn13))] at hq5
         have hq13:13 < q - (i + 1):=by have:=hqe1.out; omega
         subst hq5
         clear hqe1 hws hn14 hSf hkb' hC hfin hr' hn0 hn13
         rcases hcond with hc | ⟨hqn,hlt,hc⟩
         ·go_wp2
          exact hbad.out (by simp) _ _ hkb2.out rfl rfl
         ·have hc':(S[q.toNat]'hqn).toNat < 48 ∨ (48 <= (S[q.toNat]'hqn).toNat/\57 < (S[q.toNat]'hqn).toNat) ∨ (48 <= (S[q.toNat]'hqn).toNat/\(S[q.toNat]'hqn).toNat <= 57):=by omega
          clear hc
          rcases hc' with hc | ⟨hc,hd⟩ | ⟨hc,hd⟩
          ·have b1:((S[q.toNat]'hqn).toNat:Int) < 48:=by omega
           clear hc
           go_wp2
           exact hbad.out (by simp) _ _ hkb2.out rfl rfl
          ·have b1:48 <= ((S[q.toNat]'hqn).toNat:Int):=by omega
           have b2:57 < ((S[q.toNat]'hqn).toNat:Int):=by omega
           clear hc hd
           go_wp2
           exact hbad.out (by simp) _ _ hkb2.out rfl rfl
          ·have b1:48 <= ((S[q.toNat]'hqn).toNat:Int):=by omega
           have b2:((S[q.toNat]'hqn).toNat:Int) <= 57:=by omega
           clear hc hd
           go_wp2
           exact hbad.out (by simp) _ _ hkb2.out rfl rfl
        ·have hq13:¬ 13 < q - (i + 1):=by have:=hqe1.out; omega
         have hcs:¬ (q < (S.size:Int)) ∨ ∃ (hqn:q.toNat < S.size),q < (S.size:Int)/\(((S[q.toNat]'hqn).toNat:Int) < 48 ∨ (48 <= ((S[q.toNat]'hqn).toNat:Int)/\57 < ((S[q.toNat]'hqn).toNat:Int))):=by
          rcases hcond with hc | ⟨hqn,hlt,hc⟩
          ·exact .inl hc
          ·exact .inr ⟨hqn,hlt,by omega⟩
         clear hcond
         by_cases hz1:n = 1
         ·rw [if_neg (fun h=>by rcases h with h | h | h; exact hn0 h; exact hn13 h; have:=h.1; omega)] at hq5
          have hq1:¬ 1 < q - (i + 1):=by have:=hqe1.out; omega
          have hq6:Shut (rkF 2 (S.data.toList.drop q.toNat) [p0,v,p2] = out):=hq5
          clear hqe1 hws hn14 hSf hC hfin hr' hn0 hn13 hz1 hq5 hbad hkb2
          rcases hcs with hc | ⟨hqn,hlt,hc | ⟨hc,hd⟩⟩ <;> (go_wp2; exact ⟨⟨q,2,p0,v,p2,rfl,rfl,hq0,hqs,by decide,by decide,hq6.out,hkb'.out⟩,by decide⟩)
         ·have hq1:1 < q - (i + 1):=by have:=hqe1.out; omega
          by_cases h48:(S[((i + 1)).toNat]'hfn) = 48
          ·rw [if_pos (.inr (.inr ⟨by omega,by rw [hSf.out hfn,h48]⟩))] at hq5
           have b48:((S[((i + 1)).toNat]'hfn).toNat:Int) = 48:=by rw [h48]; rfl
           subst hq5
           clear hqe1 hws hn14 hSf hkb' hC hfin hr' hn0 hn13 hz1 h48
           rcases hcs with hc | ⟨hqn,hlt,hc | ⟨hc,hd⟩⟩ <;> (go_wp2; exact hbad.out (by simp) _ _ hkb2.out rfl rfl)
          ·rw [if_neg (fun h=>by rcases h with h | h | h; exact hn0 h; exact hn13 h; exact h48 (by have:=h.2; rw [hSf.out hfn] at this; simpa using this))] at hq5
           have b48:(((S[((i + 1)).toNat]'hfn).toNat:Int) == (48:Int)) = false:=beq_eq_false_iff_ne.2 (zcI (n:=48) (by omega) h48)
           have hneB:(q == (i + 1)) = false:=beq_eq_false_iff_ne.2 hne
           have hq6:Shut (rkF 2 (S.data.toList.drop q.toNat) [p0,v,p2] = out):=hq5
           clear hqe1 hws hn14 hSf hC hfin hr' hn0 hn13 hz1 hq5 hbad hkb2 h48
           rcases hcs with hc | ⟨hqn,hlt,hc | ⟨hc,hd⟩⟩ <;> (go_wp2; exact ⟨⟨q,2,p0,v,p2,rfl,rfl,hq0,hqs,by decide,by decide,hq6.out,hkb'.out⟩,by decide⟩)
    ·rw [if_neg h46] at hq2
     have hq3:none = out:=hq2
     have b46:(((S[i.toNat]'hin0).toNat:Int) == (46:Int)) = false:=beq_eq_false_iff_ne.2 (by omega)
     have b46':(((S[i.toNat]'hin0).toNat:Int) != (46:Int)) = true:=bne_iff_ne.2 (by omega)
     clear hq2 hkb' hfin hr' hC h46
     subst hq3
     go_wp2
     exact hbad.out (by simp) _ _ hkb2.out rfl rfl
   ·rw [za7 hi0 (by omega)] at hq2
    have hq3:none = out:=hq2
    clear hq2 hkb' hfin hr' hC
    subst hq3
    go_wp2
    exact hbad.out (by simp) _ _ hkb2.out rfl rfl
  ·have hq2:(zkt (S.data.toList.drop i.toNat)).bind (fun l1=>Yv 2 l1 [p0,p1,p2]) = out:=by
    have:=hq1.out
    unfold rkF at this
    exact this
   clear hq1
   have hwi:wrap64 (i + 1) = i + 1:=IntWalk.wrap64_in _ (by omega)
   by_cases hlt0:i < (S.size:Int)
   ·have hin0:i.toNat < S.size:=by omega
    rw [Yk hi0 hin0] at hq2
    rw [Q3] at hq2
    by_cases h46:(S[i.toNat]'hin0).toNat = 46
    ·rw [if_pos h46] at hq2
     have hq3:Shut (Yv 2 (S.data.toList.drop (i + 1).toNat) [p0,p1,p2] = out):=hq2
     have b46:((S[i.toNat]'hin0).toNat:Int) = 46:=by omega
     clear hq2 h46
     go_wp2
     go_loopw [5] (fun v5 wr=>∃ (n:Nat) (q v:Int),v5 = .int .i64 q/\q = (i + 1) + n/\q <= (S.size:Int)/\n <= 14/\rdF (S.data.toList.drop q.toNat) n v = rdF (S.data.toList.drop ((i + 1)).toNat) 0 p2/\RK w.heap.size w p0 p1 v wr)
      (fun v5 wr=>((S.size:Int) - intOf v5).toNat)
     case atStart=>exact ⟨0,(i + 1),p2,rfl,by omega,by omega,by omega,rfl,hkb'.out⟩
     case round =>
      clear c0 c1 c2 cf g0 g1 g2 gf hkb2 hkb'
      obtain ⟨n,q,v,rfl,hqe,hqs,hn14,hz,hkb⟩:=hrel
      obtain ⟨⟨c0,c1,c2⟩,cf⟩:=pdc hkb.b1
      obtain ⟨⟨g0,g1,g2⟩,gf⟩:=idc hkb.b0
      have hkb':Shut _:=hkb
      have hkb2:Shut (Below w.heap.size w wr/\∃ x y z,wr.heap[w.heap.size]? = some (yZ x y z)):=⟨hkb.bl,_,_,_,hkb.b0⟩
      have hq0:0 <= q:=by omega
      have hwq:wrap64 (q + 1) = q + 1:=IntWalk.wrap64_in _ (by omega)
      have hws:wrap64 (q - (i + 1)) = (n:Int):=by rw [IntWalk.wrap64_in _ (by omega)]; omega
      have hz1:Shut _:=hz
      have hqe1:Shut _:=hqe
      clear hkb hz hqe
      by_cases hgo:∃ hqn:q.toNat < S.size,q < (S.size:Int)/\48 <= (S[q.toNat]'hqn).toNat/\(S[q.toNat]'hqn).toNat <= 57/\n <= 13
      ·obtain ⟨hqn,hlt,h48,h57,h13⟩:=hgo
       have hz2:Shut (rdF (S.data.toList.drop (q + 1).toNat) (n + 1) (IntKind.u64.wrap (IntKind.u64.wrap (10 * v) + (((S[q.toNat]'hqn).toNat:Int) - 48))) = rdF (S.data.toList.drop ((i + 1)).toNat) 0 p2):=by
        have:=hz1.out
        rw [Yk hq0 hqn,zao ⟨h48,h57,h13⟩] at this
        exact this
       have hlt2:Shut (q < (S.size:Int)):=hlt
       have b1:(48:Int) <= ((S[q.toNat]'hqn).toNat:Int):=by omega
       have b2:((S[q.toNat]'hqn).toNat:Int) <= 57:=by omega
       have b3:q - (i + 1) <= 13:=by have:=hqe1.out; omega
       have hst:Shut (RK w.heap.size w p0 p1 (IntKind.u64.wrap (IntKind.u64.wrap (10 * v) + (((S[q.toNat]'hqn).toNat:Int) - 48))) (wr.setCell ⟨w.heap.size + 1,2,none⟩ (.int .u64 (IntKind.u64.wrap (IntKind.u64.wrap (10 * v) + (((S[q.toNat]'hqn).toNat:Int) - 48))))).drew):=RK.store2 hkb'.out _
       have hqe2:Shut (q + 1 = (i + 1) + ((n + 1:Nat):Int)):=by have:=hqe1.out; show q + 1 = (i + 1) + ((n + 1:Nat):Int); omega
       have hn2:Shut (n + 1 <= 14):=by show n + 1 <= 14; omega
       clear hz1 hqe1 h48 h57 h13 hn14 hkb2 hkb' hbad hfin hr' hC
       go_wp2
       go_region
       go_wp2
       have hlt3:q < (S.size:Int):=hlt2.out
       refine ⟨⟨n + 1,q + 1,IntKind.u64.wrap (IntKind.u64.wrap (10 * v) + (((S[q.toNat]'hqn).toNat:Int) - 48)),rfl,hqe2.out,by omega,hn2.out,hz2.out,hst.out⟩,?_⟩
       simp only [intOf]
       omega
      ·have hend:rdF (S.data.toList.drop ((i + 1)).toNat) 0 p2 = (v,n,S.data.toList.drop q.toNat):=by
        rw [<- hz1.out]
        by_cases hlt:q < (S.size:Int)
        ·have hqn:q.toNat < S.size:=by omega
         rw [Yk hq0 hqn,Yu (fun h=>hgo ⟨hqn,hlt,h.1,h.2.1,h.2.2⟩)]
        ·rw [za7 hq0 (by omega)]
         unfold rdF
         rfl
       have hq4:(if n = 0 ∨ 13 < n ∨ (1 < n/\(S.data.toList.drop ((i + 1)).toNat).head? = some 48) then none else some (S.data.toList.drop q.toNat,[p0,p1,v])) = out:=by
        rw [<- hq3.out]
        unfold Yv
        have e0:[p0,p1,p2].getD 2 0 = p2:=rfl
        rw [e0,hend]
        dsimp only
        split
        ·rfl
        ·rfl
       have hq5:=hq4
       have hcond:(¬ (q < (S.size:Int)) ∨ ∃ (hqn:q.toNat < S.size),q < (S.size:Int)/\((S[q.toNat]'hqn).toNat < 48 ∨ 57 < (S[q.toNat]'hqn).toNat ∨ 13 < n)):=by
        by_cases hlt:q < (S.size:Int)
        ·have hqn:q.toNat < S.size:=by omega
         refine .inr ⟨hqn,hlt,?_⟩
         by_cases a1:(S[q.toNat]'hqn).toNat < 48
         ·exact .inl a1
         ·by_cases a2:57 < (S[q.toNat]'hqn).toNat
          ·exact .inr (.inl a2)
          ·by_cases a3:13 < n
           ·exact .inr (.inr a3)
           ·exact absurd ⟨hqn,hlt,by omega,by omega,by omega⟩ hgo
        ·exact .inl hlt
       have hSf:Shut (∀ hfn:((i + 1)).toNat < S.size,(S.data.toList.drop ((i + 1)).toNat).head? = some S[((i + 1)).toNat]):=fun hfn=>by
        rw [Yk (by omega) hfn]; rfl
       have hfin2:Shut (∀ A:Prop,A->A):=fun _ h=>h
       clear hq4 hend hz1 hgo hq3 hwq
       by_cases hn0:n = 0
       ·rw [if_pos (.inl hn0)] at hq5
        have heq:q = (i + 1):=by have:=hqe1.out; omega
        subst hq5
        clear hqe1 hws hn14 hSf hkb' hC hfin hr'
        rcases hcond with hc | ⟨hqn,hlt,hc⟩
        ·clear hn0
         subst heq
         go_wp2
         exact hbad.out (by simp) _ _ hkb2.out rfl rfl
        ·rcases hc with hc | hc | hc
         ·have b1:((S[q.toNat]'hqn).toNat:Int) < 48:=by omega
          clear hc hn0
          subst heq
          go_wp2
          exact hbad.out (by simp) _ _ hkb2.out rfl rfl
         ·have b1:48 <= ((S[q.toNat]'hqn).toNat:Int):=by omega
          have b2:57 < ((S[q.toNat]'hqn).toNat:Int):=by omega
          clear hc hn0
          subst heq
          go_wp2
          exact hbad.out (by simp) _ _ hkb2.out rfl rfl
         ·exfalso; omega
       ·have hne:¬ q = (i + 1):=by have:=hqe1.out; omega
        have hfn:((i + 1)).toNat < S.size:=by have:=hqe1.out; omega
        have hfl:(i + 1) < (S.size:Int):=by have:=hqe1.out; omega
        by_cases hn13:13 < n
        ·rw [if_pos (.inr (.inl hn13))] at hq5
         have hq13:13 < q - (i + 1):=by have:=hqe1.out; omega
         subst hq5
         clear hqe1 hws hn14 hSf hkb' hC hfin hr' hn0 hn13
         rcases hcond with hc | ⟨hqn,hlt,hc⟩
         ·go_wp2
          exact hbad.out (by simp) _ _ hkb2.out rfl rfl
         ·have hc':(S[q.toNat]'hqn).toNat < 48 ∨ (48 <= (S[q.toNat]'hqn).toNat/\57 < (S[q.toNat]'hqn).toNat) ∨ (48 <= (S[q.toNat]'hqn).toNat/\(S[q.toNat]'hqn).toNat <= 57):=by omega
          clear hc
          rcases hc' with hc | ⟨hc,hd⟩ | ⟨hc,hd⟩
          ·have b1:((S[q.toNat]'hqn).toNat:Int) < 48:=by omega
           clear hc
           go_wp2
           exact hbad.out (by simp) _ _ hkb2.out rfl rfl
          ·have b1:48 <= ((S[q.toNat]'hqn).toNat:Int):=by omega
           have b2:57 < ((S[q.toNat]'hqn).toNat:Int):=by omega
           clear hc hd
           go_wp2
           exact hbad.out (by simp) _ _ hkb2.out rfl rfl
          ·have b1:48 <= ((S[q.toNat]'hqn).toNat:Int):=by omega
           have b2:((S[q.toNat]'hqn).toNat:Int) <= 57:=by omega
           clear hc hd
           go_wp2
           exact hbad.out (by simp) _ _ hkb2.out rfl rfl
        ·have hq13:¬ 13 < q - (i + 1):=by have:=hqe1.out; omega
         have hcs:¬ (q < (S.size:Int)) ∨ ∃ (hqn:q.toNat < S.size),q < (S.size:Int)/\(((S[q.toNat]'hqn).toNat:Int) < 48 ∨ (48 <= ((S[q.toNat]'hqn).toNat:Int)/\57 < ((S[q.toNat]'hqn).toNat:Int))):=by
          rcases hcond with hc | ⟨hqn,hlt,hc⟩
          ·exact .inl hc
          ·exact .inr ⟨hqn,hlt,by omega⟩
         clear hcond
         by_cases hz1:n = 1
         ·rw [if_neg (fun h=>by rcases h with h | h | h; exact hn0 h; exact hn13 h; have:=h.1; omega)] at hq5
          have hq1:¬ 1 < q - (i + 1):=by have:=hqe1.out; omega
          have hq6:Shut (rkF 3 (S.data.toList.drop q.toNat) [p0,p1,v] = out):=(by show rkF 3 _ _ = out; rw [zeL]; exact hq5)
          clear hqe1 hws hn14 hSf hC hfin hr' hn0 hn13 hz1 hq5 hbad hkb2
          rcases hcs with hc | ⟨hqn,hlt,hc | ⟨hc,hd⟩⟩ <;> (go_wp2; exact ⟨⟨q,3,p0,p1,v,rfl,rfl,hq0,hqs,by decide,by decide,hq6.out,hkb'.out⟩,by decide⟩)
         ·have hq1:1 < q - (i + 1):=by have:=hqe1.out; omega
          by_cases h48:(S[((i + 1)).toNat]'hfn) = 48
          ·rw [if_pos (.inr (.inr ⟨by omega,by rw [hSf.out hfn,h48]⟩))] at hq5
           have b48:((S[((i + 1)).toNat]'hfn).toNat:Int) = 48:=by rw [h48]; rfl
           subst hq5
           clear hqe1 hws hn14 hSf hkb' hC hfin hr' hn0 hn13 hz1 h48
           rcases hcs with hc | ⟨hqn,hlt,hc | ⟨hc,hd⟩⟩ <;> (go_wp2; exact hbad.out (by simp) _ _ hkb2.out rfl rfl)
          ·rw [if_neg (fun h=>by rcases h with h | h | h; exact hn0 h; exact hn13 h; exact h48 (by have:=h.2; rw [hSf.out hfn] at this; simpa using this))] at hq5
           have b48:(((S[((i + 1)).toNat]'hfn).toNat:Int) == (48:Int)) = false:=beq_eq_false_iff_ne.2 (zcI (n:=48) (by omega) h48)
           have hneB:(q == (i + 1)) = false:=beq_eq_false_iff_ne.2 hne
           have hq6:Shut (rkF 3 (S.data.toList.drop q.toNat) [p0,p1,v] = out):=(by show rkF 3 _ _ = out; rw [zeL]; exact hq5)
           clear hqe1 hws hn14 hSf hC hfin hr' hn0 hn13 hz1 hq5 hbad hkb2 h48
           rcases hcs with hc | ⟨hqn,hlt,hc | ⟨hc,hd⟩⟩ <;> (go_wp2; exact ⟨⟨q,3,p0,p1,v,rfl,rfl,hq0,hqs,by decide,by decide,hq6.out,hkb'.out⟩,by decide⟩)
    ·rw [if_neg h46] at hq2
     have hq3:none = out:=hq2
     have b46:(((S[i.toNat]'hin0).toNat:Int) == (46:Int)) = false:=beq_eq_false_iff_ne.2 (by omega)
     have b46':(((S[i.toNat]'hin0).toNat:Int) != (46:Int)) = true:=bne_iff_ne.2 (by omega)
     clear hq2 hkb' hfin hr' hC h46
     subst hq3
     go_wp2
     exact hbad.out (by simp) _ _ hkb2.out rfl rfl
   ·rw [za7 hi0 (by omega)] at hq2
    have hq3:none = out:=hq2
    clear hq2 hkb' hfin hr' hC
    subst hq3
    go_wp2
    exact hbad.out (by simp) _ _ hkb2.out rfl rfl
  ·have hq2:some (S.data.toList.drop i.toNat,[p0,p1,p2]) = out:=by
    have:=hq1.out
    rw [<- this]
    exact (zeL _ _).symm
   clear hq1 hbad
   subst hq2
   by_cases hlt0:i < (S.size:Int)
   ·have hin0:i.toNat < S.size:=by omega
    have hne:S.data.toList.drop i.toNat ≠ []:=by rw [Yk hi0 hin0]; simp
    have h3:((⟨0,0,0⟩:ID),(3:Int)) = r:=by
     have h4:(if S.data.toList.drop i.toNat ≠ [] then some ((⟨0,0,0⟩:ID),(3:Int)) else (zd ⟨wrap64 p0,p1,wrap64 p2⟩).bind fun e=>if e ≠ 0 then some (⟨0,0,0⟩,e) else some (⟨wrap64 p0,p1,wrap64 p2⟩,0)) = some r:=hr'.out
     rw [if_pos hne] at h4
     exact Option.some.inj h4
    have hni:¬ i = (S.size:Int):=by omega
    clear hr' hne hkb' hC
    subst h3
    go_wp2
    exact hfin.out 0 0 0 3 _ _ rfl hkb2.out rfl rfl
   ·obtain rfl:i = (S.size:Int):=by omega
    obtain ⟨e,he,h4⟩:=bind_some (show (zd ⟨wrap64 p0,p1,wrap64 p2⟩).bind (fun e=>if e ≠ 0 then some ((⟨0,0,0⟩:ID),e) else some (⟨wrap64 p0,p1,wrap64 p2⟩,0)) = some r by
     have:=hr'.out
     rw [za7 hi0 (Int.le_refl _)] at this
     exact this)
    clear hr'
    by_cases hne:e = 0
    ·subst hne
     have h5:((⟨wrap64 p0,p1,wrap64 p2⟩:ID),(0:Int)) = r:=by simpa using h4
     clear h4
     subst h5
     go_wp2_with (go_at_call 74; refine (hC _ _ _ _ 0 (hkb2.out.1.alloc hkb2.out.1.size _) he).mono ?_; rintro en W3 ⟨rfl,x3⟩; obtain ⟨s2,⟨⟨_,g0⟩,⟨_,g1⟩,⟨_,g2⟩⟩,gf,⟨q0,q1,q2⟩⟩:=zcC hkb2.out x3)
     exact hfin.out _ _ _ 0 _ W3 rfl s2.out rfl rfl
    ·have hne2:(e != (0:Int)) = true:=bne_iff_ne.2 hne
     have h5:((⟨0,0,0⟩:ID),e) = r:=by simpa [hne] using h4
     clear h4 hne
     subst h5
     go_wp2_with (go_at_call 74; refine (hC _ _ _ _ e (hkb2.out.1.alloc hkb2.out.1.size _) he).mono ?_; rintro en W3 ⟨rfl,x3⟩; obtain ⟨s2,⟨⟨_,g0⟩,⟨_,g1⟩,⟨_,g2⟩⟩,gf,⟨q0,q1,q2⟩⟩:=zcC hkb2.out x3)
     exact hfin.out 0 0 0 e _ W3 rfl s2.out rfl rfl
open Go Go.Eng Go.RowKit Go.X Go.Seq Go.Shelf
noncomputable def zy (s:List UInt8):Option (ID × Int):=if s.length <= 1000000 then zku (rkF 0 s [0,0,0]) else none
theorem zy.fn:FnT Tryz.prog 72 [.d .str] [.ID,.i64] zy:=by
 intro (x:List UInt8) r h
 refine zaq fun w pr lam cargs hl hargs=>?_
 simp only [yH,ZA,qR,refl,Y6,zj,toV,RL,R] at hargs
 obtain ⟨y,ys,e,⟨rfl,hs⟩,rfl⟩:=hargs
 have hc':cargs = #[.string ⟨x.toArray⟩]:=by rw [<- Array.toList_inj]; simpa using e
 subst hc'
 unfold zy at h
 split at h
 case isFalse=>cases h
 rename_i hlen
 have hsz:(⟨x.toArray⟩:ByteArray).size = x.length:=List.size_toArray
 refine (zqf w ⟨x.toArray⟩ (by rw [hsz]; exact hlen) _ (by simp) r h (fun W a b c e hb he=>zic (zaK hl hb) he)).mono ?_
 rintro en w' ⟨rfl,hb⟩
 refine ⟨_,rfl,fun E=>?_,hb⟩
 show R E (.tup [.agg [.int .i64 r.1.Node,.int .u64 r.1.Seq,.int .i64 r.1.Off],.int .i64 r.2]) (.tuple #[ZV r.1.Node r.1.Seq r.1.Off,.int .i64 r.2])
 unfold ZV
 simp only [R,RL]
 refine ⟨_,rfl,_,_,rfl,⟨_,rfl,⟨_,_,rfl,rfl,_,_,rfl,rfl,_,_,rfl,rfl,rfl⟩,?_⟩,_,_,rfl,rfl,rfl⟩
 intro y hy; simp at hy; rcases hy with rfl | rfl | rfl <;> rfl
noncomputable def zy.spec:zb Tryz.prog:=zb.t 72 [.d .str] [.ID,.i64] zy (by kernel_rfl) zy.fn
end Go.Proofs.YtjcbpfhlgebgdaaGreatDoor
