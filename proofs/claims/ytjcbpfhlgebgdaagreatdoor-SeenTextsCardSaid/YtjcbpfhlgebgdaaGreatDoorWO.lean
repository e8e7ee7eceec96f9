import Derived.Test.YtjcbpfhlgebgdaaGreatDoorBD
import Derived.StillTailTactics
import Derived.Deep.RegionHeld3
set_option linter.unusedSimpArgs false
set_option linter.unusedVariables false
namespace Go.Seq
open List renaming getElem_toArray->qz1,getElem_cons_zero->qz2,getElem_cons_succ->qz3,setIfInBounds_toArray->qz4,set_cons_zero->qz5,set_cons_succ->qz6
open Go.RowKit Go.Shelf Go.Proofs
theorem wtk {P:Program} {ops:Array Oper} {Q:Exit->Act->World->Prop} {md:Region.Mode} {S:World->Prop} {i:Nat} {oi:Oper} {v:Value} {fuel:Nat} {listed:Array Bool} {a:Act} {w:World} (hi:ops[i]? = some oi) (hy:YieldsIf P ops S oi v a) (hS:S w) (h:wpAnyH P md ops Q S fuel (listed.setIfInBounds i true) (a.put oi.dst v) w) (hs:Region.noSelect ops = true:=by kernel_rfl) (hf:Region.free md ops listed i = true:=by kernel_rfl) (hr:(Region.ready md ops listed).contains i = true:=by kernel_rfl) (hQ:∀ c a w,Q (.panic c) (a.put oi.dst v) w->Q (.panic c) a w:=by exact fun _ _ _ h=>h):wpAnyH P md ops Q S (fuel + 1) listed a w:=wpAnyH_take hi hs hf hr hQ hy hS h
abbrev Wd:=Int × List UInt8 × List UInt8
def zd6 (x:Wd):Value:=.agg #[.int .i64 x.1,.string ⟨x.2.1.toArray⟩,.string ⟨x.2.2.toArray⟩]
def Zm (x:Wd):Obj:=.cells #[.int .i64 x.1,.string ⟨x.2.1.toArray⟩,.string ⟨x.2.2.toArray⟩] 57 (0,0)
theorem zt5 (T:ByteArray) (W:World):Calls Tryz.prog 122 #[.string T,.int .u8 61] W fun e W'=>e = .returned (.int .i64 (Lib.indexByte T.data.toList 61))/\W' = W:=by
 refine (Any.strings_IndexByte Tryz.ibI T 61 W).mono ?_
 rintro e W' ⟨rfl,rfl⟩
 exact ⟨rfl,rfl⟩
noncomputable def zgl (S:ByteArray) (nm:List UInt8->Option Bool) (bd:Int->Option ((List UInt8 × Bool) × Int)) (p:Int):Option ((Wd × Bool) × Int) :=
 if 0 <= Lib.indexByte (S.data.toList.drop p.toNat) 61 then
  (nm ((S.data.toList.drop p.toNat).take (Lib.indexByte (S.data.toList.drop p.toNat) 61).toNat)).bind fun b =>
   if b then (bd (p + (Lib.indexByte (S.data.toList.drop p.toNat) 61 + 1))).bind fun r=>some (((p,(S.data.toList.drop p.toNat).take (Lib.indexByte (S.data.toList.drop p.toNat) 61).toNat,r.1.1),r.1.2 && (decide ((S.size:Int) <= r.2) || decide (S.data[r.2.toNat]? = some 32))),r.2)
   else (bd p).bind fun r=>some (((p,[],r.1.1),r.1.2 && (decide ((S.size:Int) <= r.2) || decide (S.data[r.2.toNat]? = some 32))),r.2)
 else (bd p).bind fun r=>some (((p,[],r.1.1),r.1.2 && (decide ((S.size:Int) <= r.2) || decide (S.data[r.2.toNat]? = some 32))),r.2)
theorem ahn (w:World) (o:Obj):(w.alloc o).heap[w.heap.size]? = some o:=by
 show (w.heap.push o)[w.heap.size]? = some o
 simp
theorem QP {s:Nat} {S:ByteArray} {A:World} {p:Int} (h:Bx s S A p) {a:Addr} (ha:a.block ≠ s) (v:Value):Bx s S (A.setCell a v) p:=(Below.heap_setCell _ _ _ _ (fun e=>ha e.symm)).trans h
theorem qZ {b:Nat} {A:World} {x:Wd} (h:A.heap[b]? = some (Zm x)):A.cell? ⟨b,0,none⟩ = some (.int .i64 x.1)/\A.cell? ⟨b,1,none⟩ = some (.string ⟨x.2.1.toArray⟩)/\A.cell? ⟨b,2,none⟩ = some (.string ⟨x.2.2.toArray⟩)/\A.frozen? ⟨b,0,none⟩ = false/\A.frozen? ⟨b,1,none⟩ = false/\A.frozen? ⟨b,2,none⟩ = false:=by
 unfold Zm at h
 simp [World.cell?,World.frozen?,h]
theorem zry {b:Nat} {A:World} {x:Wd} (h:A.heap[b]? = some (Zm x)) (k:List UInt8):(A.setCell ⟨b,1,none⟩ (.string ⟨k.toArray⟩)).heap[b]? = some (Zm (x.1,k,x.2.2)):=heap_setCell_same _ _ 1 _ _ _ h
theorem ziP {b:Nat} {A:World} {x:Wd} (h:A.heap[b]? = some (Zm x)) (k:List UInt8):(A.setCell ⟨b,2,none⟩ (.string ⟨k.toArray⟩)).heap[b]? = some (Zm (x.1,x.2.1,k)):=heap_setCell_same _ _ 2 _ _ _ h
theorem Yq {s:Nat} {w A:World} (h:Fr s w A) {a:Addr} (ha:w.heap.size <= a.block) (v:Value):Fr s w (A.setCell a v):=⟨h.os,h.tape,h.output,by simpa using h.size,fun k hk hn=>(Below.heap_setCell _ _ _ _ (by omega)).trans (h.block k hk hn)⟩
theorem zpW:∀ (l:List UInt8) (c:UInt8),Lib.indexByte l c < (l.length:Int)
 | [],c=>by simp [Lib.indexByte]
 | x :: l,c=>by
  have:=zpW l c
  unfold Lib.indexByte
  split
  ·simp
  ·split
   ·simp; omega
   ·simp; omega
theorem zpX (s:Nat) (S:ByteArray) (W:World) (p:Int) (h0:W.cell? ⟨s,0,none⟩ = some (.string S)) (h1:W.cell? ⟨s,1,none⟩ = some (.int .i64 p)):Calls Tryz.prog 99 #[.pointer (some ⟨s,0,none⟩)] W fun e W'=>e = .returned (.bool (decide (p < (S.size:Int))))/\∃ m,W' = W.drewN m:=by
 have mixed:Tryz.prog.follows .mixedOrders = true:=by kernel_rfl
 go_enter Tryz.func99,Tryz.ntmps99
 go_wp2
 go_quiet (fail)
 go_wp2
 go_ret
 exact ⟨rfl,_,rfl⟩
theorem ziQ (s:Nat) (S:ByteArray) (W:World) (p:Int) (h0:W.cell? ⟨s,0,none⟩ = some (.string S)) (h1:W.cell? ⟨s,1,none⟩ = some (.int .i64 p)) (hp:(S.size:Int) <= p):Calls Tryz.prog 99 #[.pointer (some ⟨s,0,none⟩)] W fun e W'=>e = .returned (.bool false)/\∃ m,W' = W.drewN m:=by
 have q:=zpX s S W p h0 h1
 rwa [decide_eq_false (Int.not_lt.2 hp)] at q
theorem ziR (s:Nat) (S:ByteArray) (W:World) (p:Int) (h0:W.cell? ⟨s,0,none⟩ = some (.string S)) (h1:W.cell? ⟨s,1,none⟩ = some (.int .i64 p)) (hp:p < (S.size:Int)):Calls Tryz.prog 99 #[.pointer (some ⟨s,0,none⟩)] W fun e W'=>e = .returned (.bool true)/\∃ m,W' = W.drewN m:=by
 have q:=zpX s S W p h0 h1
 rwa [decide_eq_true hp] at q
theorem YL {R:Ending->World->Prop} {tmps:Array Value} {B:World} {N:Nat} {x:Wd} {b:Bool} (hB:B.heap[N]? = some (Zm x)) (h2:tmps[2]?.getD undef = .pointer (some ⟨N,0,none⟩)) (h3:tmps[3]?.getD undef = .bool b) (h:R (.returned (.tuple #[zd6 x,.bool b])) B):bodyPost Tryz.prog Tryz.f100 R .ret { tmps,defers:=[] } B:=by
 obtain ⟨q0,q1,q2,_,_,_⟩:=qZ hB
 refine bodyPost_ret (v:=.tuple #[zd6 x,.bool b]) ?_ rfl h
 simp [results,Tryz.f100,go_sem,h2,h3,q0,q1,q2,zd6]
theorem YM (A:World) {N:Nat} {x:Wd} (h:A.heap[N]? = some (Zm x)) (a:Int) (k t:List UInt8):(((A.setCell ⟨N,0,none⟩ (.int .i64 a)).setCell ⟨N,1,none⟩ (.string ⟨k.toArray⟩)).setCell ⟨N,2,none⟩ (.string ⟨t.toArray⟩)).heap[N]? = some (Zm (a,k,t)) :=
 heap_setCell_same _ _ 2 _ _ _ (heap_setCell_same _ _ 1 _ _ _ (heap_setCell_same _ _ 0 _ _ (.int .i64 a) h))
theorem YN (A:World) {s N:Nat} {S:ByteArray} {p:Int} (h:Bx s S A p) (hn:¬ N = s) {u v x:Value}:Bx s S (((A.setCell ⟨N,0,none⟩ u).setCell ⟨N,1,none⟩ v).setCell ⟨N,2,none⟩ x) p:=QP (QP (QP h hn _) hn _) hn _
theorem YO (A:World) {s N:Nat} {w:World} (h:Fr s w A) (hn:w.heap.size <= N) {u v x:Value}:Fr s w (((A.setCell ⟨N,0,none⟩ u).setCell ⟨N,1,none⟩ v).setCell ⟨N,2,none⟩ x):=Yq (Yq (Yq h hn _) hn _) hn _
theorem Qb {s:Nat} {w A B:World} (h:Fr s w A) (ho:B.os = A.os) (ht:B.tape = A.tape) (hp:B.output = A.output) (hh:B.heap = A.heap):Fr s w B :=
 ⟨ho.trans h.os,ht.trans h.tape,hp.trans h.output,by rw [hh]; exact h.size,fun k hk hn=>by rw [hh]; exact h.block k hk hn⟩
theorem zlT {S:ByteArray} {p:Int} (hm:p < (S.size:Int)) (hpn:p.toNat < S.size):(((S[p.toNat]'hpn).toNat:Int) == 32) = (true && (decide ((S.size:Int) <= p) || decide (S.data[p.toNat]? = some 32))):=by
 have e:S.data[p.toNat]? = some (S[p.toNat]'hpn):=Array.getElem?_eq_getElem hpn
 rw [e,decide_eq_false (Int.not_le.2 hm)]
 simp only [Bool.true_and,Bool.false_or,Option.some.injEq]
 rw [Bool.eq_iff_iff,beq_iff_eq,decide_eq_true_eq]
 constructor
 ·intro h; exact UInt8.toNat_inj.1 (by show _ = 32; omega)
 ·intro h; rw [h]; rfl
set_option maxRecDepth 20000 in
set_option maxHeartbeats 8000000 in
theorem zrz (s:Nat) (S:ByteArray) (hS:S.size <= 1000000) (nm:List UInt8->Option Bool) (bd:Int->Option ((List UInt8 × Bool) × Int)) (w:World)
  (hB:∀ W p r p',Fr s w W->Bx s S W p->bd p = some (r,p')->Calls Tryz.prog 124 #[.pointer (some ⟨s,0,none⟩)] W fun e W'=>e = .returned (.tuple #[.string ⟨r.1.toArray⟩,.bool r.2])/\Bx s S W' p'/\Fr s W W')
  (hNm:∀ W l b,Fr s w W->nm l = some b->Calls Tryz.prog 123 #[.string ⟨l.toArray⟩] W fun e W'=>e = .returned (.bool b)/\Below W.heap.size W W')
  (hBp:∀ p r p',bd p = some (r,p')->0 <= p->0 <= p')
  (p0:Int) (hp0:0 <= p0/\p0 <= (S.size:Int)) (h0:Bx s S w p0) (r:Wd × Bool) (p1:Int) (hb:zgl S nm bd p0 = some (r,p1)) :
  Calls Tryz.prog 100 #[.pointer (some ⟨s,0,none⟩)] w fun e W'=>e = .returned (.tuple #[zd6 r.1,.bool r.2])/\Bx s S W' p1/\Fr s w W':=by
 have mixed:Tryz.prog.follows .mixedOrders = true:=by kernel_rfl
 have hc0:=Zz h0
 have hc1:=qB h0
 have hf1:=Ys h0 1
 have hsw:s < w.heap.size:=(Array.getElem?_eq_some_iff.1 h0).1
 obtain ⟨h00,h01⟩:=hp0
 have hex:(S.extract p0.toNat S.size).data.toList = S.data.toList.drop p0.toNat:=by
  rw [zfy]
  have hl:S.data.toList.length = S.size:=Array.length_toList
  exact List.take_of_length_le (by rw [List.length_drop]; omega)
 unfold zgl at hb
 obtain ⟨i,hi⟩:∃ i,Lib.indexByte (S.data.toList.drop p0.toNat) 61 = i:=⟨_,rfl⟩
 have hib:∀ W:World,Calls Tryz.prog 122 #[.string (S.extract p0.toNat S.size),.int .u8 61] W fun e W'=>e = .returned (.int .i64 i)/\W' = W:=fun W=>by
  have q:=zt5 (S.extract p0.toNat S.size) W
  rwa [hex,hi] at q
 rw [hi] at hb
 clear hex
 go_enter Tryz.func100,Tryz.ntmps100
 go_wp2
 go_quiet ((go_at_call 122; exact Calls.quiet_of_same (hib _)))
 have hil:=zpW (S.data.toList.drop p0.toNat) 61
 have hig:=Lib.indexByte_ge (S.data.toList.drop p0.toNat) 61
 rw [hi] at hil hig
 rw [List.length_drop,show S.data.toList.length = S.size from Array.length_toList] at hil
 obtain ⟨N,hN⟩:∃ N,w.heap.size = N:=⟨_,rfl⟩
 obtain ⟨W3,hW3⟩:∃ W3,((w.alloc (.cells #[.int .i64 0,.string ⟨#[]⟩,.string ⟨#[]⟩] 57)).alloc (.cells #[.int .i64 p0,.string ⟨#[]⟩,.string ⟨#[]⟩] 57)).drewN nq = W3:=⟨_,rfl⟩
 have b3:Bx s S W3 p0:=by rw [<- hW3]; exact zjG (zjG h0 _) _
 have f3:Fr s w W3:=by
  rw [<- hW3]
  exact ⟨rfl,rfl,rfl,by simp; omega,fun k hk _=>(Below.heap_alloc _ _ _ (by simp; omega)).trans (Below.heap_alloc _ _ _ hk)⟩
 have c2:W3.heap[N]? = some (Zm (0,[],[])):=by
  rw [<- hW3,<- hN]
  exact (Below.heap_alloc _ _ _ (by simp)).trans (ahn w _)
 have c4:W3.heap[N + 1]? = some (Zm (p0,[],[])):=by
  rw [<- hW3,<- hN]
  have:=ahn (w.alloc (.cells #[.int .i64 0,.string ⟨#[]⟩,.string ⟨#[]⟩] 57)) (.cells #[.int .i64 p0,.string ⟨#[]⟩,.string ⟨#[]⟩] 57)
  rwa [World.size_alloc] at this
 have hsN:s < N:=by omega
 simp only [hN,hW3]
 clear hW3 hc0 hc1 hf1
 have hc0:=Zz b3
 have hc1:=qB b3
 have hf1:=Ys b3 1
 by_cases h0i:0 <= i
 ·rw [if_pos h0i] at hb
  have hwr:IntKind.i64.wrap (p0 + i) = p0 + i:=IntWalk.i64_in _ (by omega)
  have hpi0:0 <= p0 + i:=by omega
  have hpi1:p0 <= p0 + i:=by omega
  have hpi2:p0 + i <= (S.size:Int):=by omega
  have hexk:S.extract p0.toNat (p0 + i).toNat = ⟨((S.data.toList.drop p0.toNat).take i.toNat).toArray⟩:=by rw [zfy,show (p0 + i).toNat - p0.toNat = i.toNat by omega]
  cases hnm:nm ((S.data.toList.drop p0.toNat).take i.toNat) with
  | none=>rw [hnm] at hb; cases hb
  | some b =>
  rw [hnm] at hb
  simp only [Option.bind_some] at hb
  cases b with
  | true =>
   rw [if_pos rfl] at hb
   cases hbd:bd (p0 + (i + 1)) with
   | none=>rw [hbd] at hb; cases hb
   | some r2 =>
   obtain ⟨⟨t,is⟩,p2⟩:=r2
   rw [hbd] at hb
   simp only [Option.bind_some,Option.some.injEq,Prod.mk.injEq] at hb
   obtain ⟨hr1,hp1⟩:=hb
   subst hp1
   go_wp2
   go_still_tail 18,(by kernel_rfl)
   go_wp2_with (go_at_call 123; go_loud (refine (hNm (W3.drewN _) _ true ⟨f3.os,f3.tape,f3.output,f3.size,f3.block⟩ hnm).mono ?_); rintro e W4 ⟨rfl,x1⟩; have b4:=ZO (A:=W3.drewN _) b3 x1 (Array.getElem?_eq_some_iff.1 b3).1; have c4':=(x1.block (N + 1) (Array.getElem?_eq_some_iff.1 c4).1).trans c4; have c2':=(x1.block N (Array.getElem?_eq_some_iff.1 c2).1).trans c2; have f4:Fr s w W4:=Fr.trans (B:=W3.drewN _) ⟨f3.os,f3.tape,f3.output,f3.size,f3.block⟩ (Fr.of_below x1 (Nat.le_refl _)); have hc04:=Zz b4; have hc14:=qB b4; have hf14:=Ys b4 1; have hcw4:=qZ c4')
   go_still_tail 15,(by kernel_rfl)
   have b5:Bx s S (((W4.setCell ⟨N + 1,1,none⟩ (.string ⟨((S.data.toList.drop p0.toNat).take i.toNat).toArray⟩)).setCell ⟨s,1,none⟩ (.int .i64 (p0 + (i + 1)))).drew) (p0 + (i + 1)):=zfx (QP b4 (by show N + 1 ≠ s; omega) _)
   have c45:(((W4.setCell ⟨N + 1,1,none⟩ (.string ⟨((S.data.toList.drop p0.toNat).take i.toNat).toArray⟩)).setCell ⟨s,1,none⟩ (.int .i64 (p0 + (i + 1)))).drew).heap[N + 1]? = some (Zm (p0,((S.data.toList.drop p0.toNat).take i.toNat),[])):=(Below.heap_setCell _ _ _ _ (by show N + 1 ≠ s; omega)).trans (zry c4' ((S.data.toList.drop p0.toNat).take i.toNat))
   have c25:(((W4.setCell ⟨N + 1,1,none⟩ (.string ⟨((S.data.toList.drop p0.toNat).take i.toNat).toArray⟩)).setCell ⟨s,1,none⟩ (.int .i64 (p0 + (i + 1)))).drew).heap[N]? = some (Zm (0,[],[])):=(Below.heap_setCell _ _ _ _ (by show N ≠ s; omega)).trans ((Below.heap_setCell _ _ _ _ (by show N ≠ N + 1; omega)).trans c2')
   have f5:Fr s w (((W4.setCell ⟨N + 1,1,none⟩ (.string ⟨((S.data.toList.drop p0.toNat).take i.toNat).toArray⟩)).setCell ⟨s,1,none⟩ (.int .i64 (p0 + (i + 1)))).drew):=Qb (Fr.trans (Yq f4 (a:=⟨N + 1,1,none⟩) (by show _ <= N + 1; omega) _) (zlh s _ _)) rfl rfl rfl rfl
   go_wp2_with (go_at_call 124; go_loud (refine (hB _ (p0 + (i + 1)) (t,is) p2 f5 b5 hbd).mono ?_); rintro e W6 ⟨rfl,y1,y2⟩; have y4:=(y2.block (N + 1) (Array.getElem?_eq_some_iff.1 c45).1 (by omega)).trans c45; have y5:=(y2.block N (Array.getElem?_eq_some_iff.1 c25).1 (by omega)).trans c25; have y6:Fr s w W6:=Fr.trans f5 y2; obtain ⟨e0,e1,e2,g0,g1,g2⟩:=qZ y4)
   obtain ⟨W7,hW7⟩:∃ W7,W6.setCell ⟨N + 1,2,none⟩ (.string ⟨t.toArray⟩) = W7:=⟨_,rfl⟩
   have z3:Bx s S W7 p2:=by rw [<- hW7]; exact QP y1 (by show N + 1 ≠ s; omega) _
   have z4:W7.heap[N + 1]? = some (Zm (p0,((S.data.toList.drop p0.toNat).take i.toNat),t)):=by rw [<- hW7]; exact ziP y4 t
   have z2:W7.heap[N]? = some (Zm (0,[],[])):=by
    rw [<- hW7]
    exact (Below.heap_setCell _ _ _ _ (by simp)).trans y5
   have zf:Fr s w W7:=by
    rw [<- hW7]
    exact Yq y6 (by show _ <= N + 1; omega) _
   simp only [hW7]
   clear hW7 e0 e1 e2 g0 g1 g2 hc0 hc1 hf1 y4 y1 y2 y5 y6 hc04 hc14 hf14 hcw4 c4' c2' b4 f4 b5 c45 c25 f5
   have hp20:=hBp _ _ _ hbd (by omega)
   obtain ⟨e0,e1,e2,g0,g1,g2⟩:=qZ z4
   obtain ⟨k0,k1,k2,m0,m1,m2⟩:=qZ z2
   dsimp only at e0 e1 e2 k0 k1 k2
   have hsn:¬ s = N:=by omega
   have hns:¬ N = s:=by omega
   have hc0:=Zz z3
   have hc1:=qB z3
   cases is with
   | false =>
    refine wp_region_held_drew (S:=(fun w':World=>w'.cell? ⟨s,0,none⟩ = some (.string S)/\w'.cell? ⟨s,1,none⟩ = some (.int .i64 p2)/\w'.cell? ⟨N + 1,0,none⟩ = some (.int .i64 p0)/\w'.cell? ⟨N + 1,1,none⟩ = some (.string ⟨((S.data.toList.drop p0.toNat).take i.toNat).toArray⟩)/\w'.cell? ⟨N + 1,2,none⟩ = some (.string ⟨t.toArray⟩))) (by kernel_rfl) ⟨hc0,hc1,e0,e1,e2⟩ (fun hHeld=>?_)
    refine wtk (i:=0) (v:=?_) rfl (Or.inl ⟨by rfl,?_⟩) (by assumption) ?_
    rotate_left
    ·intro w hSw
     try dsimp only at hSw
     go_split_ands
     go_simp
     try with_reducible rfl
    try simp only [Act.put,qz1,qz2,qz3,qz4,qz5,qz6]
    refine wtk (i:=1) (v:=?_) rfl (Or.inl ⟨by rfl,?_⟩) (by assumption) ?_
    rotate_left
    ·intro w hSw
     try dsimp only at hSw
     go_split_ands
     go_simp
     try with_reducible rfl
    try simp only [Act.put,qz1,qz2,qz3,qz4,qz5,qz6]
    refine wtk (i:=2) (v:=?_) rfl (Or.inl ⟨by rfl,?_⟩) (by assumption) ?_
    rotate_left
    ·intro w hSw
     try dsimp only at hSw
     go_split_ands
     go_simp
     try with_reducible rfl
    try simp only [Act.put,qz1,qz2,qz3,qz4,qz5,qz6]
    refine wtk (i:=3) (v:=undef) rfl (Or.inr ⟨by rfl,rfl⟩) (by assumption) ?_
    try simp only [Act.put,qz1,qz2,qz3,qz4,qz5,qz6]
    refine wtk (i:=4) (v:=undef) rfl (Or.inr ⟨by rfl,rfl⟩) (by assumption) ?_
    try simp only [Act.put,qz1,qz2,qz3,qz4,qz5,qz6]
    refine wtk (i:=5) (v:=undef) rfl (Or.inr ⟨by rfl,rfl⟩) (by assumption) ?_
    try simp only [Act.put,qz1,qz2,qz3,qz4,qz5,qz6]
    refine wtk (i:=6) (v:=undef) rfl (Or.inr ⟨by rfl,rfl⟩) (by assumption) ?_
    try simp only [Act.put,qz1,qz2,qz3,qz4,qz5,qz6]
    refine wtk (i:=7) (v:=undef) rfl (Or.inr ⟨by rfl,rfl⟩) (by assumption) ?_
    try simp only [Act.put,qz1,qz2,qz3,qz4,qz5,qz6]
    refine wtk (i:=8) (v:=undef) rfl (Or.inr ⟨by rfl,rfl⟩) (by assumption) ?_
    try simp only [Act.put,qz1,qz2,qz3,qz4,qz5,qz6]
    refine wtk (i:=9) (v:=undef) rfl (Or.inr ⟨by rfl,rfl⟩) (by assumption) ?_
    try simp only [Act.put,qz1,qz2,qz3,qz4,qz5,qz6]
    refine wtk (i:=10) (v:=undef) rfl (Or.inr ⟨by rfl,rfl⟩) (by assumption) ?_
    try simp only [Act.put,qz1,qz2,qz3,qz4,qz5,qz6]
    refine wtk (i:=11) (v:=undef) rfl (Or.inr ⟨by rfl,rfl⟩) (by assumption) ?_
    try simp only [Act.put,qz1,qz2,qz3,qz4,qz5,qz6]
    refine wtk (i:=12) (v:=undef) rfl (Or.inr ⟨by rfl,rfl⟩) (by assumption) ?_
    try simp only [Act.put,qz1,qz2,qz3,qz4,qz5,qz6]
    refine wtk (i:=13) (v:=undef) rfl (Or.inr ⟨by rfl,rfl⟩) (by assumption) ?_
    try simp only [Act.put,qz1,qz2,qz3,qz4,qz5,qz6]
    refine wtk (i:=14) (v:=undef) rfl (Or.inr ⟨by rfl,rfl⟩) (by assumption) ?_
    try simp only [Act.put,qz1,qz2,qz3,qz4,qz5,qz6]
    refine wtk (i:=15) (v:=undef) rfl (Or.inr ⟨by rfl,rfl⟩) (by assumption) ?_
    try simp only [Act.put,qz1,qz2,qz3,qz4,qz5,qz6]
    refine wtk (i:=16) (v:=undef) rfl (Or.inr ⟨by rfl,rfl⟩) (by assumption) ?_
    try simp only [Act.put,qz1,qz2,qz3,qz4,qz5,qz6]
    refine wtk (i:=17) (v:=undef) rfl (Or.inr ⟨by rfl,rfl⟩) (by assumption) ?_
    try simp only [Act.put,qz1,qz2,qz3,qz4,qz5,qz6]
    refine wtk (i:=18) (v:=?_) rfl (Or.inl ⟨by rfl,?_⟩) (by assumption) ?_
    rotate_left
    ·intro w hSw
     try dsimp only at hSw
     go_split_ands
     go_simp
     try with_reducible rfl
    try simp only [Act.put,qz1,qz2,qz3,qz4,qz5,qz6]
    refine wpAnyH_ready (rs:=[19]) (by kernel_rfl) (by simp) ?_
    refine AllReadyH.cons rfl (fun K hK=>?_) AllReadyH.nil
    rw [if_pos (by rfl)]
    go_simp
    refine hK.out _ _ (by go_keep) (fun hHeld3=>?_)
    try simp only [Act.put,qz1,qz2,qz3,qz4,qz5,qz6]
    refine wtk (i:=20) (v:=?_) rfl (Or.inl ⟨by rfl,?_⟩) (by assumption) ?_
    rotate_left
    ·intro w hSw
     try dsimp only at hSw
     go_split_ands
     go_simp
     try with_reducible rfl
    try simp only [Act.put,qz1,qz2,qz3,qz4,qz5,qz6]
    refine wpAnyH_done (by kernel_rfl) ?_ _
    go_wp2
    refine YL (x:=(p0,((S.data.toList.drop p0.toNat).take i.toNat),t)) (b:=false) (YM _ z2 p0 ((S.data.toList.drop p0.toNat).take i.toNat) t) rfl rfl ?_
    refine ⟨by rw [<- hr1]; simp,YN _ z3 hns,Qb (YO (N:=N) _ zf (by omega)) rfl rfl rfl rfl⟩
   | true =>
    by_cases hm:p2 < (S.size:Int)
    ·have hpn:p2.toNat < S.size:=by omega
     refine wp_region_held_drew (S:=(fun w':World=>w'.cell? ⟨s,0,none⟩ = some (.string S)/\w'.cell? ⟨s,1,none⟩ = some (.int .i64 p2)/\w'.cell? ⟨N + 1,0,none⟩ = some (.int .i64 p0)/\w'.cell? ⟨N + 1,1,none⟩ = some (.string ⟨((S.data.toList.drop p0.toNat).take i.toNat).toArray⟩)/\w'.cell? ⟨N + 1,2,none⟩ = some (.string ⟨t.toArray⟩))) (by kernel_rfl) ⟨hc0,hc1,e0,e1,e2⟩ (fun hHeld=>?_)
     refine wtk (i:=0) (v:=?_) rfl (Or.inl ⟨by rfl,?_⟩) (by assumption) ?_
     rotate_left
     ·intro w hSw
      try dsimp only at hSw
      go_split_ands
      go_simp
      try with_reducible rfl
     try simp only [Act.put,qz1,qz2,qz3,qz4,qz5,qz6]
     refine wtk (i:=1) (v:=?_) rfl (Or.inl ⟨by rfl,?_⟩) (by assumption) ?_
     rotate_left
     ·intro w hSw
      try dsimp only at hSw
      go_split_ands
      go_simp
      try with_reducible rfl
     try simp only [Act.put,qz1,qz2,qz3,qz4,qz5,qz6]
     refine wtk (i:=2) (v:=?_) rfl (Or.inl ⟨by rfl,?_⟩) (by assumption) ?_
     rotate_left
     ·intro w hSw
      try dsimp only at hSw
      go_split_ands
      go_simp
      try with_reducible rfl
     try simp only [Act.put,qz1,qz2,qz3,qz4,qz5,qz6]
     refine wtk (i:=3) (v:=?_) rfl (Or.inl ⟨by rfl,?_⟩) (by assumption) ?_
     rotate_left
     ·intro w hSw
      try dsimp only at hSw
      go_split_ands
      go_simp
      try with_reducible rfl
     try simp only [Act.put,qz1,qz2,qz3,qz4,qz5,qz6]
     refine wpAnyH_ready (rs:=[4]) (by kernel_rfl) (by simp) ?_
     refine AllReadyH.cons rfl (fun K hK=>?_) AllReadyH.nil
     rw [if_pos (by rfl)]
     go_simp
     go_at_call 99
     refine (ziR s S W7.drew p2 hc0 hc1 hm).mono ?_
     rintro e W8 ⟨rfl,m8,rfl⟩
     refine hK.out _ _ ⟨hc0,hc1,e0,e1,e2⟩ (fun hHeld2=>?_)
     clear hHeld
     try simp only [Act.put,qz1,qz2,qz3,qz4,qz5,qz6]
     refine wtk (i:=5) (v:=?_) rfl (Or.inl ⟨by rfl,?_⟩) (by assumption) ?_
     rotate_left
     ·intro w hSw
      try dsimp only at hSw
      go_split_ands
      go_simp
      try with_reducible rfl
     try simp only [Act.put,qz1,qz2,qz3,qz4,qz5,qz6]
     refine wtk (i:=6) (v:=?_) rfl (Or.inl ⟨by rfl,?_⟩) (by assumption) ?_
     rotate_left
     ·intro w hSw
      try dsimp only at hSw
      go_split_ands
      go_simp
      try with_reducible rfl
     try simp only [Act.put,qz1,qz2,qz3,qz4,qz5,qz6]
     refine wtk (i:=7) (v:=?_) rfl (Or.inl ⟨by rfl,?_⟩) (by assumption) ?_
     rotate_left
     ·intro w hSw
      try dsimp only at hSw
      go_split_ands
      go_simp
      try with_reducible rfl
     try simp only [Act.put,qz1,qz2,qz3,qz4,qz5,qz6]
     refine wtk (i:=8) (v:=?_) rfl (Or.inl ⟨by rfl,?_⟩) (by assumption) ?_
     rotate_left
     ·intro w hSw
      try dsimp only at hSw
      go_split_ands
      go_simp
      try with_reducible rfl
     try simp only [Act.put,qz1,qz2,qz3,qz4,qz5,qz6]
     refine wtk (i:=9) (v:=?_) rfl (Or.inl ⟨by rfl,?_⟩) (by assumption) ?_
     rotate_left
     ·intro w hSw
      try dsimp only at hSw
      go_split_ands
      go_simp
      try with_reducible rfl
     try simp only [Act.put,qz1,qz2,qz3,qz4,qz5,qz6]
     refine wtk (i:=10) (v:=?_) rfl (Or.inl ⟨by rfl,?_⟩) (by assumption) ?_
     rotate_left
     ·intro w hSw
      try dsimp only at hSw
      go_split_ands
      go_simp
      try with_reducible rfl
     try simp only [Act.put,qz1,qz2,qz3,qz4,qz5,qz6]
     refine wtk (i:=11) (v:=?_) rfl (Or.inl ⟨by rfl,?_⟩) (by assumption) ?_
     rotate_left
     ·intro w hSw
      try dsimp only at hSw
      go_split_ands
      go_simp
      try with_reducible rfl
     try simp only [Act.put,qz1,qz2,qz3,qz4,qz5,qz6]
     refine wtk (i:=12) (v:=?_) rfl (Or.inl ⟨by rfl,?_⟩) (by assumption) ?_
     rotate_left
     ·intro w hSw
      try dsimp only at hSw
      go_split_ands
      go_simp
      try with_reducible rfl
     try simp only [Act.put,qz1,qz2,qz3,qz4,qz5,qz6]
     refine wtk (i:=13) (v:=?_) rfl (Or.inl ⟨by rfl,?_⟩) (by assumption) ?_
     rotate_left
     ·intro w hSw
      try dsimp only at hSw
      go_split_ands
      go_simp
      try with_reducible rfl
     try simp only [Act.put,qz1,qz2,qz3,qz4,qz5,qz6]
     refine wtk (i:=14) (v:=?_) rfl (Or.inl ⟨by rfl,?_⟩) (by assumption) ?_
     rotate_left
     ·intro w hSw
      try dsimp only at hSw
      go_split_ands
      go_simp
      try with_reducible rfl
     try simp only [Act.put,qz1,qz2,qz3,qz4,qz5,qz6]
     refine wtk (i:=15) (v:=?_) rfl (Or.inl ⟨by rfl,?_⟩) (by assumption) ?_
     rotate_left
     ·intro w hSw
      try dsimp only at hSw
      go_split_ands
      go_simp
      try with_reducible rfl
     try simp only [Act.put,qz1,qz2,qz3,qz4,qz5,qz6]
     refine wtk (i:=16) (v:=?_) rfl (Or.inl ⟨by rfl,?_⟩) (by assumption) ?_
     rotate_left
     ·intro w hSw
      try dsimp only at hSw
      go_split_ands
      go_simp
      try with_reducible rfl
     try simp only [Act.put,qz1,qz2,qz3,qz4,qz5,qz6]
     refine wtk (i:=17) (v:=?_) rfl (Or.inl ⟨by rfl,?_⟩) (by assumption) ?_
     rotate_left
     ·intro w hSw
      try dsimp only at hSw
      go_split_ands
      go_simp
      try with_reducible rfl
     try simp only [Act.put,qz1,qz2,qz3,qz4,qz5,qz6]
     refine wtk (i:=18) (v:=?_) rfl (Or.inl ⟨by rfl,?_⟩) (by assumption) ?_
     rotate_left
     ·intro w hSw
      try dsimp only at hSw
      go_split_ands
      go_simp
      try with_reducible rfl
     try simp only [Act.put,qz1,qz2,qz3,qz4,qz5,qz6]
     refine wpAnyH_ready (rs:=[19]) (by kernel_rfl) (by simp) ?_
     refine AllReadyH.cons rfl (fun K hK=>?_) AllReadyH.nil
     rw [if_pos (by rfl)]
     go_simp
     refine hK.out _ _ (by go_keep) (fun hHeld3=>?_)
     try simp only [Act.put,qz1,qz2,qz3,qz4,qz5,qz6]
     refine wtk (i:=20) (v:=?_) rfl (Or.inl ⟨by rfl,?_⟩) (by assumption) ?_
     rotate_left
     ·intro w hSw
      try dsimp only at hSw
      go_split_ands
      go_simp
      try with_reducible rfl
     try simp only [Act.put,qz1,qz2,qz3,qz4,qz5,qz6]
     refine wpAnyH_done (by kernel_rfl) ?_ _
     go_wp2
     refine YL (x:=(p0,((S.data.toList.drop p0.toNat).take i.toNat),t)) (b:=(((S[p2.toNat]'hpn).toNat:Int) == 32)) (YM _ z2 p0 ((S.data.toList.drop p0.toNat).take i.toNat) t) rfl rfl ?_
     refine ⟨by rw [<- hr1]; rw [zlT hm hpn],YN _ z3 hns,Qb (YO (N:=N) _ zf (by omega)) rfl rfl rfl rfl⟩
    ·have hm':(S.size:Int) <= p2:=Int.not_lt.1 hm
     refine wp_region_held_drew (S:=(fun w':World=>w'.cell? ⟨s,0,none⟩ = some (.string S)/\w'.cell? ⟨s,1,none⟩ = some (.int .i64 p2)/\w'.cell? ⟨N + 1,0,none⟩ = some (.int .i64 p0)/\w'.cell? ⟨N + 1,1,none⟩ = some (.string ⟨((S.data.toList.drop p0.toNat).take i.toNat).toArray⟩)/\w'.cell? ⟨N + 1,2,none⟩ = some (.string ⟨t.toArray⟩))) (by kernel_rfl) ⟨hc0,hc1,e0,e1,e2⟩ (fun hHeld=>?_)
     refine wtk (i:=0) (v:=?_) rfl (Or.inl ⟨by rfl,?_⟩) (by assumption) ?_
     rotate_left
     ·intro w hSw
      try dsimp only at hSw
      go_split_ands
      go_simp
      try with_reducible rfl
     try simp only [Act.put,qz1,qz2,qz3,qz4,qz5,qz6]
     refine wtk (i:=1) (v:=?_) rfl (Or.inl ⟨by rfl,?_⟩) (by assumption) ?_
     rotate_left
     ·intro w hSw
      try dsimp only at hSw
      go_split_ands
      go_simp
      try with_reducible rfl
     try simp only [Act.put,qz1,qz2,qz3,qz4,qz5,qz6]
     refine wtk (i:=2) (v:=?_) rfl (Or.inl ⟨by rfl,?_⟩) (by assumption) ?_
     rotate_left
     ·intro w hSw
      try dsimp only at hSw
      go_split_ands
      go_simp
      try with_reducible rfl
     try simp only [Act.put,qz1,qz2,qz3,qz4,qz5,qz6]
     refine wtk (i:=3) (v:=?_) rfl (Or.inl ⟨by rfl,?_⟩) (by assumption) ?_
     rotate_left
     ·intro w hSw
      try dsimp only at hSw
      go_split_ands
      go_simp
      try with_reducible rfl
     try simp only [Act.put,qz1,qz2,qz3,qz4,qz5,qz6]
     refine wpAnyH_ready (rs:=[4]) (by kernel_rfl) (by simp) ?_
     refine AllReadyH.cons rfl (fun K hK=>?_) AllReadyH.nil
     rw [if_pos (by rfl)]
     go_simp
     go_at_call 99
     refine (ziQ s S W7.drew p2 hc0 hc1 hm').mono ?_
     rintro e W8 ⟨rfl,m8,rfl⟩
     refine hK.out _ _ ⟨hc0,hc1,e0,e1,e2⟩ (fun hHeld2=>?_)
     clear hHeld
     try simp only [Act.put,qz1,qz2,qz3,qz4,qz5,qz6]
     refine wtk (i:=5) (v:=?_) rfl (Or.inl ⟨by rfl,?_⟩) (by assumption) ?_
     rotate_left
     ·intro w hSw
      try dsimp only at hSw
      go_split_ands
      go_simp
      try with_reducible rfl
     try simp only [Act.put,qz1,qz2,qz3,qz4,qz5,qz6]
     refine wtk (i:=6) (v:=?_) rfl (Or.inl ⟨by rfl,?_⟩) (by assumption) ?_
     rotate_left
     ·intro w hSw
      try dsimp only at hSw
      go_split_ands
      go_simp
      try with_reducible rfl
     try simp only [Act.put,qz1,qz2,qz3,qz4,qz5,qz6]
     refine wtk (i:=7) (v:=undef) rfl (Or.inr ⟨by rfl,rfl⟩) (by assumption) ?_
     try simp only [Act.put,qz1,qz2,qz3,qz4,qz5,qz6]
     refine wtk (i:=8) (v:=undef) rfl (Or.inr ⟨by rfl,rfl⟩) (by assumption) ?_
     try simp only [Act.put,qz1,qz2,qz3,qz4,qz5,qz6]
     refine wtk (i:=9) (v:=undef) rfl (Or.inr ⟨by rfl,rfl⟩) (by assumption) ?_
     try simp only [Act.put,qz1,qz2,qz3,qz4,qz5,qz6]
     refine wtk (i:=10) (v:=undef) rfl (Or.inr ⟨by rfl,rfl⟩) (by assumption) ?_
     try simp only [Act.put,qz1,qz2,qz3,qz4,qz5,qz6]
     refine wtk (i:=11) (v:=undef) rfl (Or.inr ⟨by rfl,rfl⟩) (by assumption) ?_
     try simp only [Act.put,qz1,qz2,qz3,qz4,qz5,qz6]
     refine wtk (i:=12) (v:=undef) rfl (Or.inr ⟨by rfl,rfl⟩) (by assumption) ?_
     try simp only [Act.put,qz1,qz2,qz3,qz4,qz5,qz6]
     refine wtk (i:=13) (v:=undef) rfl (Or.inr ⟨by rfl,rfl⟩) (by assumption) ?_
     try simp only [Act.put,qz1,qz2,qz3,qz4,qz5,qz6]
     refine wtk (i:=14) (v:=undef) rfl (Or.inr ⟨by rfl,rfl⟩) (by assumption) ?_
     try simp only [Act.put,qz1,qz2,qz3,qz4,qz5,qz6]
     refine wtk (i:=15) (v:=undef) rfl (Or.inr ⟨by rfl,rfl⟩) (by assumption) ?_
     try simp only [Act.put,qz1,qz2,qz3,qz4,qz5,qz6]
     refine wtk (i:=16) (v:=undef) rfl (Or.inr ⟨by rfl,rfl⟩) (by assumption) ?_
     try simp only [Act.put,qz1,qz2,qz3,qz4,qz5,qz6]
     refine wtk (i:=17) (v:=?_) rfl (Or.inl ⟨by rfl,?_⟩) (by assumption) ?_
     rotate_left
     ·intro w hSw
      try dsimp only at hSw
      go_split_ands
      go_simp
      try with_reducible rfl
     try simp only [Act.put,qz1,qz2,qz3,qz4,qz5,qz6]
     refine wtk (i:=18) (v:=?_) rfl (Or.inl ⟨by rfl,?_⟩) (by assumption) ?_
     rotate_left
     ·intro w hSw
      try dsimp only at hSw
      go_split_ands
      go_simp
      try with_reducible rfl
     try simp only [Act.put,qz1,qz2,qz3,qz4,qz5,qz6]
     refine wpAnyH_ready (rs:=[19]) (by kernel_rfl) (by simp) ?_
     refine AllReadyH.cons rfl (fun K hK=>?_) AllReadyH.nil
     rw [if_pos (by rfl)]
     go_simp
     refine hK.out _ _ (by go_keep) (fun hHeld3=>?_)
     try simp only [Act.put,qz1,qz2,qz3,qz4,qz5,qz6]
     refine wtk (i:=20) (v:=?_) rfl (Or.inl ⟨by rfl,?_⟩) (by assumption) ?_
     rotate_left
     ·intro w hSw
      try dsimp only at hSw
      go_split_ands
      go_simp
      try with_reducible rfl
     try simp only [Act.put,qz1,qz2,qz3,qz4,qz5,qz6]
     refine wpAnyH_done (by kernel_rfl) ?_ _
     go_wp2
     refine YL (x:=(p0,((S.data.toList.drop p0.toNat).take i.toNat),t)) (b:=true) (YM _ z2 p0 ((S.data.toList.drop p0.toNat).take i.toNat) t) rfl rfl ?_
     refine ⟨by rw [<- hr1]; simp [hm'],YN _ z3 hns,Qb (YO (N:=N) _ zf (by omega)) rfl rfl rfl rfl⟩
  | false =>
   rw [if_neg (by simp)] at hb
   cases hbd:bd p0 with
   | none=>rw [hbd] at hb; cases hb
   | some r2 =>
   obtain ⟨⟨t,is⟩,p2⟩:=r2
   rw [hbd] at hb
   simp only [Option.bind_some,Option.some.injEq,Prod.mk.injEq] at hb
   obtain ⟨hr1,hp1⟩:=hb
   subst hp1
   go_wp2
   go_still_tail 18,(by kernel_rfl)
   go_wp2_with (first | (go_at_call 123; go_loud (refine (hNm (W3.drewN _) _ false ⟨f3.os,f3.tape,f3.output,f3.size,f3.block⟩ hnm).mono ?_); rintro e W4 ⟨rfl,x1⟩; have b4:=ZO (A:=W3.drewN _) b3 x1 (Array.getElem?_eq_some_iff.1 b3).1; have c4':=(x1.block (N + 1) (Array.getElem?_eq_some_iff.1 c4).1).trans c4; have c2':=(x1.block N (Array.getElem?_eq_some_iff.1 c2).1).trans c2; have f4:Fr s w W4:=Fr.trans (B:=W3.drewN _) ⟨f3.os,f3.tape,f3.output,f3.size,f3.block⟩ (Fr.of_below x1 (Nat.le_refl _)); have hc04:=Zz b4; have hc14:=qB b4; have hf14:=Ys b4 1; have hcw4:=qZ c4') | (go_at_call 124; go_loud (refine (hB W4 p0 (t,is) p2 f4 b4 hbd).mono ?_); rintro e W6 ⟨rfl,y1,y2⟩; have y4:=(y2.block (N + 1) (Array.getElem?_eq_some_iff.1 c4').1 (by omega)).trans c4'; have y5:=(y2.block N (Array.getElem?_eq_some_iff.1 c2').1 (by omega)).trans c2'; have y6:Fr s w W6:=Fr.trans f4 y2; obtain ⟨e0,e1,e2,g0,g1,g2⟩:=qZ y4))
   obtain ⟨W7,hW7⟩:∃ W7,W6.setCell ⟨N + 1,2,none⟩ (.string ⟨t.toArray⟩) = W7:=⟨_,rfl⟩
   have z3:Bx s S W7 p2:=by rw [<- hW7]; exact QP y1 (by show N + 1 ≠ s; omega) _
   have z4:W7.heap[N + 1]? = some (Zm (p0,[],t)):=by rw [<- hW7]; exact ziP y4 t
   have z2:W7.heap[N]? = some (Zm (0,[],[])):=by
    rw [<- hW7]
    exact (Below.heap_setCell _ _ _ _ (by simp)).trans y5
   have zf:Fr s w W7:=by
    rw [<- hW7]
    exact Yq y6 (by show _ <= N + 1; omega) _
   simp only [hW7]
   clear hW7 e0 e1 e2 g0 g1 g2 hc0 hc1 hf1 y4 y1 y2 y5 y6 hc04 hc14 hf14 hcw4 c4' c2' b4 f4
   have hp20:=hBp _ _ _ hbd (by omega)
   obtain ⟨e0,e1,e2,g0,g1,g2⟩:=qZ z4
   obtain ⟨k0,k1,k2,m0,m1,m2⟩:=qZ z2
   dsimp only at e0 e1 e2 k0 k1 k2
   have hsn:¬ s = N:=by omega
   have hns:¬ N = s:=by omega
   have hc0:=Zz z3
   have hc1:=qB z3
   cases is with
   | false =>
    refine wp_region_held_drew (S:=(fun w':World=>w'.cell? ⟨s,0,none⟩ = some (.string S)/\w'.cell? ⟨s,1,none⟩ = some (.int .i64 p2)/\w'.cell? ⟨N + 1,0,none⟩ = some (.int .i64 p0)/\w'.cell? ⟨N + 1,1,none⟩ = some (.string ⟨#[]⟩)/\w'.cell? ⟨N + 1,2,none⟩ = some (.string ⟨t.toArray⟩))) (by kernel_rfl) ⟨hc0,hc1,e0,e1,e2⟩ (fun hHeld=>?_)
    refine wtk (i:=0) (v:=?_) rfl (Or.inl ⟨by rfl,?_⟩) (by assumption) ?_
    rotate_left
    ·intro w hSw
     try dsimp only at hSw
     go_split_ands
     go_simp
     try with_reducible rfl
    try simp only [Act.put,qz1,qz2,qz3,qz4,qz5,qz6]
    refine wtk (i:=1) (v:=?_) rfl (Or.inl ⟨by rfl,?_⟩) (by assumption) ?_
    rotate_left
    ·intro w hSw
     try dsimp only at hSw
     go_split_ands
     go_simp
     try with_reducible rfl
    try simp only [Act.put,qz1,qz2,qz3,qz4,qz5,qz6]
    refine wtk (i:=2) (v:=?_) rfl (Or.inl ⟨by rfl,?_⟩) (by assumption) ?_
    rotate_left
    ·intro w hSw
     try dsimp only at hSw
     go_split_ands
     go_simp
     try with_reducible rfl
    try simp only [Act.put,qz1,qz2,qz3,qz4,qz5,qz6]
    refine wtk (i:=3) (v:=undef) rfl (Or.inr ⟨by rfl,rfl⟩) (by assumption) ?_
    try simp only [Act.put,qz1,qz2,qz3,qz4,qz5,qz6]
    refine wtk (i:=4) (v:=undef) rfl (Or.inr ⟨by rfl,rfl⟩) (by assumption) ?_
    try simp only [Act.put,qz1,qz2,qz3,qz4,qz5,qz6]
    refine wtk (i:=5) (v:=undef) rfl (Or.inr ⟨by rfl,rfl⟩) (by assumption) ?_
    try simp only [Act.put,qz1,qz2,qz3,qz4,qz5,qz6]
    refine wtk (i:=6) (v:=undef) rfl (Or.inr ⟨by rfl,rfl⟩) (by assumption) ?_
    try simp only [Act.put,qz1,qz2,qz3,qz4,qz5,qz6]
    refine wtk (i:=7) (v:=undef) rfl (Or.inr ⟨by rfl,rfl⟩) (by assumption) ?_
    try simp only [Act.put,qz1,qz2,qz3,qz4,qz5,qz6]
    refine wtk (i:=8) (v:=undef) rfl (Or.inr ⟨by rfl,rfl⟩) (by assumption) ?_
    try simp only [Act.put,qz1,qz2,qz3,qz4,qz5,qz6]
    refine wtk (i:=9) (v:=undef) rfl (Or.inr ⟨by rfl,rfl⟩) (by assumption) ?_
    try simp only [Act.put,qz1,qz2,qz3,qz4,qz5,qz6]
    refine wtk (i:=10) (v:=undef) rfl (Or.inr ⟨by rfl,rfl⟩) (by assumption) ?_
    try simp only [Act.put,qz1,qz2,qz3,qz4,qz5,qz6]
    refine wtk (i:=11) (v:=undef) rfl (Or.inr ⟨by rfl,rfl⟩) (by assumption) ?_
    try simp only [Act.put,qz1,qz2,qz3,qz4,qz5,qz6]
    refine wtk (i:=12) (v:=undef) rfl (Or.inr ⟨by rfl,rfl⟩) (by assumption) ?_
    try simp only [Act.put,qz1,qz2,qz3,qz4,qz5,qz6]
    refine wtk (i:=13) (v:=undef) rfl (Or.inr ⟨by rfl,rfl⟩) (by assumption) ?_
    try simp only [Act.put,qz1,qz2,qz3,qz4,qz5,qz6]
    refine wtk (i:=14) (v:=undef) rfl (Or.inr ⟨by rfl,rfl⟩) (by assumption) ?_
    try simp only [Act.put,qz1,qz2,qz3,qz4,qz5,qz6]
    refine wtk (i:=15) (v:=undef) rfl (Or.inr ⟨by rfl,rfl⟩) (by assumption) ?_
    try simp only [Act.put,qz1,qz2,qz3,qz4,qz5,qz6]
    refine wtk (i:=16) (v:=undef) rfl (Or.inr ⟨by rfl,rfl⟩) (by assumption) ?_
    try simp only [Act.put,qz1,qz2,qz3,qz4,qz5,qz6]
    refine wtk (i:=17) (v:=undef) rfl (Or.inr ⟨by rfl,rfl⟩) (by assumption) ?_
    try simp only [Act.put,qz1,qz2,qz3,qz4,qz5,qz6]
    refine wtk (i:=18) (v:=?_) rfl (Or.inl ⟨by rfl,?_⟩) (by assumption) ?_
    rotate_left
    ·intro w hSw
     try dsimp only at hSw
     go_split_ands
     go_simp
     try with_reducible rfl
    try simp only [Act.put,qz1,qz2,qz3,qz4,qz5,qz6]
    refine wpAnyH_ready (rs:=[19]) (by kernel_rfl) (by simp) ?_
    refine AllReadyH.cons rfl (fun K hK=>?_) AllReadyH.nil
    rw [if_pos (by rfl)]
    go_simp
    refine hK.out _ _ (by go_keep) (fun hHeld3=>?_)
    try simp only [Act.put,qz1,qz2,qz3,qz4,qz5,qz6]
    refine wtk (i:=20) (v:=?_) rfl (Or.inl ⟨by rfl,?_⟩) (by assumption) ?_
    rotate_left
    ·intro w hSw
     try dsimp only at hSw
     go_split_ands
     go_simp
     try with_reducible rfl
    try simp only [Act.put,qz1,qz2,qz3,qz4,qz5,qz6]
    refine wpAnyH_done (by kernel_rfl) ?_ _
    go_wp2
    refine YL (x:=(p0,[],t)) (b:=false) (YM _ z2 p0 [] t) rfl rfl ?_
    refine ⟨by rw [<- hr1]; simp,YN _ z3 hns,Qb (YO (N:=N) _ zf (by omega)) rfl rfl rfl rfl⟩
   | true =>
    by_cases hm:p2 < (S.size:Int)
    ·have hpn:p2.toNat < S.size:=by omega
     refine wp_region_held_drew (S:=(fun w':World=>w'.cell? ⟨s,0,none⟩ = some (.string S)/\w'.cell? ⟨s,1,none⟩ = some (.int .i64 p2)/\w'.cell? ⟨N + 1,0,none⟩ = some (.int .i64 p0)/\w'.cell? ⟨N + 1,1,none⟩ = some (.string ⟨#[]⟩)/\w'.cell? ⟨N + 1,2,none⟩ = some (.string ⟨t.toArray⟩))) (by kernel_rfl) ⟨hc0,hc1,e0,e1,e2⟩ (fun hHeld=>?_)
     refine wtk (i:=0) (v:=?_) rfl (Or.inl ⟨by rfl,?_⟩) (by assumption) ?_
     rotate_left
     ·intro w hSw
      try dsimp only at hSw
      go_split_ands
      go_simp
      try with_reducible rfl
     try simp only [Act.put,qz1,qz2,qz3,qz4,qz5,qz6]
     refine wtk (i:=1) (v:=?_) rfl (Or.inl ⟨by rfl,?_⟩) (by assumption) ?_
     rotate_left
     ·intro w hSw
      try dsimp only at hSw
      go_split_ands
      go_simp
      try with_reducible rfl
     try simp only [Act.put,qz1,qz2,qz3,qz4,qz5,qz6]
     refine wtk (i:=2) (v:=?_) rfl (Or.inl ⟨by rfl,?_⟩) (by assumption) ?_
     rotate_left
     ·intro w hSw
      try dsimp only at hSw
      go_split_ands
      go_simp
      try with_reducible rfl
     try simp only [Act.put,qz1,qz2,qz3,qz4,qz5,qz6]
     refine wtk (i:=3) (v:=?_) rfl (Or.inl ⟨by rfl,?_⟩) (by assumption) ?_
     rotate_left
     ·intro w hSw
      try dsimp only at hSw
      go_split_ands
      go_simp
      try with_reducible rfl
     try simp only [Act.put,qz1,qz2,qz3,qz4,qz5,qz6]
     refine wpAnyH_ready (rs:=[4]) (by kernel_rfl) (by simp) ?_
     refine AllReadyH.cons rfl (fun K hK=>?_) AllReadyH.nil
     rw [if_pos (by rfl)]
     go_simp
     go_at_call 99
     refine (ziR s S W7.drew p2 hc0 hc1 hm).mono ?_
     rintro e W8 ⟨rfl,m8,rfl⟩
     refine hK.out _ _ ⟨hc0,hc1,e0,e1,e2⟩ (fun hHeld2=>?_)
     clear hHeld
     try simp only [Act.put,qz1,qz2,qz3,qz4,qz5,qz6]
     refine wtk (i:=5) (v:=?_) rfl (Or.inl ⟨by rfl,?_⟩) (by assumption) ?_
     rotate_left
     ·intro w hSw
      try dsimp only at hSw
      go_split_ands
      go_simp
      try with_reducible rfl
     try simp only [Act.put,qz1,qz2,qz3,qz4,qz5,qz6]
     refine wtk (i:=6) (v:=?_) rfl (Or.inl ⟨by rfl,?_⟩) (by assumption) ?_
     rotate_left
     ·intro w hSw
      try dsimp only at hSw
      go_split_ands
      go_simp
      try with_reducible rfl
     try simp only [Act.put,qz1,qz2,qz3,qz4,qz5,qz6]
     refine wtk (i:=7) (v:=?_) rfl (Or.inl ⟨by rfl,?_⟩) (by assumption) ?_
     rotate_left
     ·intro w hSw
      try dsimp only at hSw
      go_split_ands
      go_simp
      try with_reducible rfl
     try simp only [Act.put,qz1,qz2,qz3,qz4,qz5,qz6]
     refine wtk (i:=8) (v:=?_) rfl (Or.inl ⟨by rfl,?_⟩) (by assumption) ?_
     rotate_left
     ·intro w hSw
      try dsimp only at hSw
      go_split_ands
      go_simp
      try with_reducible rfl
     try simp only [Act.put,qz1,qz2,qz3,qz4,qz5,qz6]
     refine wtk (i:=9) (v:=?_) rfl (Or.inl ⟨by rfl,?_⟩) (by assumption) ?_
     rotate_left
     ·intro w hSw
      try dsimp only at hSw
      go_split_ands
      go_simp
      try with_reducible rfl
     try simp only [Act.put,qz1,qz2,qz3,qz4,qz5,qz6]
     refine wtk (i:=10) (v:=?_) rfl (Or.inl ⟨by rfl,?_⟩) (by assumption) ?_
     rotate_left
     ·intro w hSw
      try dsimp only at hSw
      go_split_ands
      go_simp
      try with_reducible rfl
     try simp only [Act.put,qz1,qz2,qz3,qz4,qz5,qz6]
     refine wtk (i:=11) (v:=?_) rfl (Or.inl ⟨by rfl,?_⟩) (by assumption) ?_
     rotate_left
     ·intro w hSw
      try dsimp only at hSw
      go_split_ands
      go_simp
      try with_reducible rfl
     try simp only [Act.put,qz1,qz2,qz3,qz4,qz5,qz6]
     refine wtk (i:=12) (v:=?_) rfl (Or.inl ⟨by rfl,?_⟩) (by assumption) ?_
     rotate_left
     ·intro w hSw
      try dsimp only at hSw
      go_split_ands
      go_simp
      try with_reducible rfl
     try simp only [Act.put,qz1,qz2,qz3,qz4,qz5,qz6]
     refine wtk (i:=13) (v:=?_) rfl (Or.inl ⟨by rfl,?_⟩) (by assumption) ?_
     rotate_left
     ·intro w hSw
      try dsimp only at hSw
      go_split_ands
      go_simp
      try with_reducible rfl
     try simp only [Act.put,qz1,qz2,qz3,qz4,qz5,qz6]
     refine wtk (i:=14) (v:=?_) rfl (Or.inl ⟨by rfl,?_⟩) (by assumption) ?_
     rotate_left
     ·intro w hSw
      try dsimp only at hSw
      go_split_ands
      go_simp
      try with_reducible rfl
     try simp only [Act.put,qz1,qz2,qz3,qz4,qz5,qz6]
     refine wtk (i:=15) (v:=?_) rfl (Or.inl ⟨by rfl,?_⟩) (by assumption) ?_
     rotate_left
     ·intro w hSw
      try dsimp only at hSw
      go_split_ands
      go_simp
      try with_reducible rfl
     try simp only [Act.put,qz1,qz2,qz3,qz4,qz5,qz6]
     refine wtk (i:=16) (v:=?_) rfl (Or.inl ⟨by rfl,?_⟩) (by assumption) ?_
     rotate_left
     ·intro w hSw
      try dsimp only at hSw
      go_split_ands
      go_simp
      try with_reducible rfl
     try simp only [Act.put,qz1,qz2,qz3,qz4,qz5,qz6]
     refine wtk (i:=17) (v:=?_) rfl (Or.inl ⟨by rfl,?_⟩) (by assumption) ?_
     rotate_left
     ·intro w hSw
      try dsimp only at hSw
      go_split_ands
      go_simp
      try with_reducible rfl
     try simp only [Act.put,qz1,qz2,qz3,qz4,qz5,qz6]
     refine wtk (i:=18) (v:=?_) rfl (Or.inl ⟨by rfl,?_⟩) (by assumption) ?_
     rotate_left
     ·intro w hSw
      try dsimp only at hSw
      go_split_ands
      go_simp
      try with_reducible rfl
     try simp only [Act.put,qz1,qz2,qz3,qz4,qz5,qz6]
     refine wpAnyH_ready (rs:=[19]) (by kernel_rfl) (by simp) ?_
     refine AllReadyH.cons rfl (fun K hK=>?_) AllReadyH.nil
     rw [if_pos (by rfl)]
     go_simp
     refine hK.out _ _ (by go_keep) (fun hHeld3=>?_)
     try simp only [Act.put,qz1,qz2,qz3,qz4,qz5,qz6]
     refine wtk (i:=20) (v:=?_) rfl (Or.inl ⟨by rfl,?_⟩) (by assumption) ?_
     rotate_left
     ·intro w hSw
      try dsimp only at hSw
      go_split_ands
      go_simp
      try with_reducible rfl
     try simp only [Act.put,qz1,qz2,qz3,qz4,qz5,qz6]
     refine wpAnyH_done (by kernel_rfl) ?_ _
     go_wp2
     refine YL (x:=(p0,[],t)) (b:=(((S[p2.toNat]'hpn).toNat:Int) == 32)) (YM _ z2 p0 [] t) rfl rfl ?_
     refine ⟨by rw [<- hr1]; rw [zlT hm hpn],YN _ z3 hns,Qb (YO (N:=N) _ zf (by omega)) rfl rfl rfl rfl⟩
    ·have hm':(S.size:Int) <= p2:=Int.not_lt.1 hm
     refine wp_region_held_drew (S:=(fun w':World=>w'.cell? ⟨s,0,none⟩ = some (.string S)/\w'.cell? ⟨s,1,none⟩ = some (.int .i64 p2)/\w'.cell? ⟨N + 1,0,none⟩ = some (.int .i64 p0)/\w'.cell? ⟨N + 1,1,none⟩ = some (.string ⟨#[]⟩)/\w'.cell? ⟨N + 1,2,none⟩ = some (.string ⟨t.toArray⟩))) (by kernel_rfl) ⟨hc0,hc1,e0,e1,e2⟩ (fun hHeld=>?_)
     refine wtk (i:=0) (v:=?_) rfl (Or.inl ⟨by rfl,?_⟩) (by assumption) ?_
     rotate_left
     ·intro w hSw
      try dsimp only at hSw
      go_split_ands
      go_simp
      try with_reducible rfl
     try simp only [Act.put,qz1,qz2,qz3,qz4,qz5,qz6]
     refine wtk (i:=1) (v:=?_) rfl (Or.inl ⟨by rfl,?_⟩) (by assumption) ?_
     rotate_left
     ·intro w hSw
      try dsimp only at hSw
      go_split_ands
      go_simp
      try with_reducible rfl
     try simp only [Act.put,qz1,qz2,qz3,qz4,qz5,qz6]
     refine wtk (i:=2) (v:=?_) rfl (Or.inl ⟨by rfl,?_⟩) (by assumption) ?_
     rotate_left
     ·intro w hSw
      try dsimp only at hSw
      go_split_ands
      go_simp
      try with_reducible rfl
     try simp only [Act.put,qz1,qz2,qz3,qz4,qz5,qz6]
     refine wtk (i:=3) (v:=?_) rfl (Or.inl ⟨by rfl,?_⟩) (by assumption) ?_
     rotate_left
     ·intro w hSw
      try dsimp only at hSw
      go_split_ands
      go_simp
      try with_reducible rfl
     try simp only [Act.put,qz1,qz2,qz3,qz4,qz5,qz6]
     refine wpAnyH_ready (rs:=[4]) (by kernel_rfl) (by simp) ?_
     refine AllReadyH.cons rfl (fun K hK=>?_) AllReadyH.nil
     rw [if_pos (by rfl)]
     go_simp
     go_at_call 99
     refine (ziQ s S W7.drew p2 hc0 hc1 hm').mono ?_
     rintro e W8 ⟨rfl,m8,rfl⟩
     refine hK.out _ _ ⟨hc0,hc1,e0,e1,e2⟩ (fun hHeld2=>?_)
     clear hHeld
     try simp only [Act.put,qz1,qz2,qz3,qz4,qz5,qz6]
     refine wtk (i:=5) (v:=?_) rfl (Or.inl ⟨by rfl,?_⟩) (by assumption) ?_
     rotate_left
     ·intro w hSw
      try dsimp only at hSw
      go_split_ands
      go_simp
      try with_reducible rfl
     try simp only [Act.put,qz1,qz2,qz3,qz4,qz5,qz6]
     refine wtk (i:=6) (v:=?_) rfl (Or.inl ⟨by rfl,?_⟩) (by assumption) ?_
     rotate_left
     ·intro w hSw
      try dsimp only at hSw
      go_split_ands
      go_simp
      try with_reducible rfl
     try simp only [Act.put,qz1,qz2,qz3,qz4,qz5,qz6]
     refine wtk (i:=7) (v:=undef) rfl (Or.inr ⟨by rfl,rfl⟩) (by assumption) ?_
     try simp only [Act.put,qz1,qz2,qz3,qz4,qz5,qz6]
     refine wtk (i:=8) (v:=undef) rfl (Or.inr ⟨by rfl,rfl⟩) (by assumption) ?_
     try simp only [Act.put,qz1,qz2,qz3,qz4,qz5,qz6]
     refine wtk (i:=9) (v:=undef) rfl (Or.inr ⟨by rfl,rfl⟩) (by assumption) ?_
     try simp only [Act.put,qz1,qz2,qz3,qz4,qz5,qz6]
     refine wtk (i:=10) (v:=undef) rfl (Or.inr ⟨by rfl,rfl⟩) (by assumption) ?_
     try simp only [Act.put,qz1,qz2,qz3,qz4,qz5,qz6]
     refine wtk (i:=11) (v:=undef) rfl (Or.inr ⟨by rfl,rfl⟩) (by assumption) ?_
     try simp only [Act.put,qz1,qz2,qz3,qz4,qz5,qz6]
     refine wtk (i:=12) (v:=undef) rfl (Or.inr ⟨by rfl,rfl⟩) (by assumption) ?_
     try simp only [Act.put,qz1,qz2,qz3,qz4,qz5,qz6]
     refine wtk (i:=13) (v:=undef) rfl (Or.inr ⟨by rfl,rfl⟩) (by assumption) ?_
     try simp only [Act.put,qz1,qz2,qz3,qz4,qz5,qz6]
     refine wtk (i:=14) (v:=undef) rfl (Or.inr ⟨by rfl,rfl⟩) (by assumption) ?_
     try simp only [Act.put,qz1,qz2,qz3,qz4,qz5,qz6]
     refine wtk (i:=15) (v:=undef) rfl (Or.inr ⟨by rfl,rfl⟩) (by assumption) ?_
     try simp only [Act.put,qz1,qz2,qz3,qz4,qz5,qz6]
     refine wtk (i:=16) (v:=undef) rfl (Or.inr ⟨by rfl,rfl⟩) (by assumption) ?_
     try simp only [Act.put,qz1,qz2,qz3,qz4,qz5,qz6]
     refine wtk (i:=17) (v:=?_) rfl (Or.inl ⟨by rfl,?_⟩) (by assumption) ?_
     rotate_left
     ·intro w hSw
      try dsimp only at hSw
      go_split_ands
      go_simp
      try with_reducible rfl
     try simp only [Act.put,qz1,qz2,qz3,qz4,qz5,qz6]
     refine wtk (i:=18) (v:=?_) rfl (Or.inl ⟨by rfl,?_⟩) (by assumption) ?_
     rotate_left
     ·intro w hSw
      try dsimp only at hSw
      go_split_ands
      go_simp
      try with_reducible rfl
     try simp only [Act.put,qz1,qz2,qz3,qz4,qz5,qz6]
     refine wpAnyH_ready (rs:=[19]) (by kernel_rfl) (by simp) ?_
     refine AllReadyH.cons rfl (fun K hK=>?_) AllReadyH.nil
     rw [if_pos (by rfl)]
     go_simp
     refine hK.out _ _ (by go_keep) (fun hHeld3=>?_)
     try simp only [Act.put,qz1,qz2,qz3,qz4,qz5,qz6]
     refine wtk (i:=20) (v:=?_) rfl (Or.inl ⟨by rfl,?_⟩) (by assumption) ?_
     rotate_left
     ·intro w hSw
      try dsimp only at hSw
      go_split_ands
      go_simp
      try with_reducible rfl
     try simp only [Act.put,qz1,qz2,qz3,qz4,qz5,qz6]
     refine wpAnyH_done (by kernel_rfl) ?_ _
     go_wp2
     refine YL (x:=(p0,[],t)) (b:=true) (YM _ z2 p0 [] t) rfl rfl ?_
     refine ⟨by rw [<- hr1]; simp [hm'],YN _ z3 hns,Qb (YO (N:=N) _ zf (by omega)) rfl rfl rfl rfl⟩
 ·rw [if_neg h0i] at hb
  have d0:decide (0 <= i) = false:=decide_eq_false h0i
  cases hbd:bd p0 with
  | none=>rw [hbd] at hb; cases hb
  | some r2 =>
  obtain ⟨⟨t,is⟩,p2⟩:=r2
  rw [hbd] at hb
  simp only [Option.bind_some,Option.some.injEq,Prod.mk.injEq] at hb
  obtain ⟨hr1,hp1⟩:=hb
  subst hp1
  have hcw:=qZ c4
  go_wp2
  go_quiet (fail)
  go_wp2_with (go_at_call 124; go_loud (refine (hB (W3.drewN _) p0 (t,is) p2 (⟨f3.os,f3.tape,f3.output,f3.size,f3.block⟩) b3 hbd).mono ?_); rintro e W6 ⟨rfl,y1,y2⟩; have y4:=(y2.block (N + 1) (Array.getElem?_eq_some_iff.1 c4).1 (by omega)).trans c4; have y5:=(y2.block N (Array.getElem?_eq_some_iff.1 c2).1 (by omega)).trans c2; have y6:Fr s w W6:=Fr.trans (B:=W3) f3 ⟨y2.os,y2.tape,y2.output,y2.size,y2.block⟩; obtain ⟨e0,e1,e2,g0,g1,g2⟩:=qZ y4)
  obtain ⟨W7,hW7⟩:∃ W7,W6.setCell ⟨N + 1,2,none⟩ (.string ⟨t.toArray⟩) = W7:=⟨_,rfl⟩
  have z3:Bx s S W7 p2:=by rw [<- hW7]; exact QP y1 (by show N + 1 ≠ s; omega) _
  have z4:W7.heap[N + 1]? = some (Zm (p0,[],t)):=by rw [<- hW7]; exact ziP y4 t
  have z2:W7.heap[N]? = some (Zm (0,[],[])):=by
   rw [<- hW7]
   exact (Below.heap_setCell _ _ _ _ (by simp)).trans y5
  have zf:Fr s w W7:=by
   rw [<- hW7]
   exact Yq y6 (by show _ <= N + 1; omega) _
  simp only [hW7]
  clear hW7 e0 e1 e2 g0 g1 g2 hc0 hc1 hf1 y4 y1 y2 y5 y6 hcw c4 c2 b3 f3
  have hp20:=hBp _ _ _ hbd (by omega)
  obtain ⟨e0,e1,e2,g0,g1,g2⟩:=qZ z4
  obtain ⟨k0,k1,k2,m0,m1,m2⟩:=qZ z2
  dsimp only at e0 e1 e2 k0 k1 k2
  have hsn:¬ s = N:=by omega
  have hns:¬ N = s:=by omega
  have hc0:=Zz z3
  have hc1:=qB z3
  cases is with
  | false =>
   refine wp_region_held_drew (S:=(fun w':World=>w'.cell? ⟨s,0,none⟩ = some (.string S)/\w'.cell? ⟨s,1,none⟩ = some (.int .i64 p2)/\w'.cell? ⟨N + 1,0,none⟩ = some (.int .i64 p0)/\w'.cell? ⟨N + 1,1,none⟩ = some (.string ⟨#[]⟩)/\w'.cell? ⟨N + 1,2,none⟩ = some (.string ⟨t.toArray⟩))) (by kernel_rfl) ⟨hc0,hc1,e0,e1,e2⟩ (fun hHeld=>?_)
   refine wtk (i:=0) (v:=?_) rfl (Or.inl ⟨by rfl,?_⟩) (by assumption) ?_
   rotate_left
   ·intro w hSw
    try dsimp only at hSw
    go_split_ands
    go_simp
    try with_reducible rfl
   try simp only [Act.put,qz1,qz2,qz3,qz4,qz5,qz6]
   refine wtk (i:=1) (v:=?_) rfl (Or.inl ⟨by rfl,?_⟩) (by assumption) ?_
   rotate_left
   ·intro w hSw
    try dsimp only at hSw
    go_split_ands
    go_simp
    try with_reducible rfl
   try simp only [Act.put,qz1,qz2,qz3,qz4,qz5,qz6]
   refine wtk (i:=2) (v:=?_) rfl (Or.inl ⟨by rfl,?_⟩) (by assumption) ?_
   rotate_left
   ·intro w hSw
    try dsimp only at hSw
    go_split_ands
    go_simp
    try with_reducible rfl
   try simp only [Act.put,qz1,qz2,qz3,qz4,qz5,qz6]
   refine wtk (i:=3) (v:=undef) rfl (Or.inr ⟨by rfl,rfl⟩) (by assumption) ?_
   try simp only [Act.put,qz1,qz2,qz3,qz4,qz5,qz6]
   refine wtk (i:=4) (v:=undef) rfl (Or.inr ⟨by rfl,rfl⟩) (by assumption) ?_
   try simp only [Act.put,qz1,qz2,qz3,qz4,qz5,qz6]
   refine wtk (i:=5) (v:=undef) rfl (Or.inr ⟨by rfl,rfl⟩) (by assumption) ?_
   try simp only [Act.put,qz1,qz2,qz3,qz4,qz5,qz6]
   refine wtk (i:=6) (v:=undef) rfl (Or.inr ⟨by rfl,rfl⟩) (by assumption) ?_
   try simp only [Act.put,qz1,qz2,qz3,qz4,qz5,qz6]
   refine wtk (i:=7) (v:=undef) rfl (Or.inr ⟨by rfl,rfl⟩) (by assumption) ?_
   try simp only [Act.put,qz1,qz2,qz3,qz4,qz5,qz6]
   refine wtk (i:=8) (v:=undef) rfl (Or.inr ⟨by rfl,rfl⟩) (by assumption) ?_
   try simp only [Act.put,qz1,qz2,qz3,qz4,qz5,qz6]
   refine wtk (i:=9) (v:=undef) rfl (Or.inr ⟨by rfl,rfl⟩) (by assumption) ?_
   try simp only [Act.put,qz1,qz2,qz3,qz4,qz5,qz6]
   refine wtk (i:=10) (v:=undef) rfl (Or.inr ⟨by rfl,rfl⟩) (by assumption) ?_
   try simp only [Act.put,qz1,qz2,qz3,qz4,qz5,qz6]
   refine wtk (i:=11) (v:=undef) rfl (Or.inr ⟨by rfl,rfl⟩) (by assumption) ?_
   try simp only [Act.put,qz1,qz2,qz3,qz4,qz5,qz6]
   refine wtk (i:=12) (v:=undef) rfl (Or.inr ⟨by rfl,rfl⟩) (by assumption) ?_
   try simp only [Act.put,qz1,qz2,qz3,qz4,qz5,qz6]
   refine wtk (i:=13) (v:=undef) rfl (Or.inr ⟨by rfl,rfl⟩) (by assumption) ?_
   try simp only [Act.put,qz1,qz2,qz3,qz4,qz5,qz6]
   refine wtk (i:=14) (v:=undef) rfl (Or.inr ⟨by rfl,rfl⟩) (by assumption) ?_
   try simp only [Act.put,qz1,qz2,qz3,qz4,qz5,qz6]
   refine wtk (i:=15) (v:=undef) rfl (Or.inr ⟨by rfl,rfl⟩) (by assumption) ?_
   try simp only [Act.put,qz1,qz2,qz3,qz4,qz5,qz6]
   refine wtk (i:=16) (v:=undef) rfl (Or.inr ⟨by rfl,rfl⟩) (by assumption) ?_
   try simp only [Act.put,qz1,qz2,qz3,qz4,qz5,qz6]
   refine wtk (i:=17) (v:=undef) rfl (Or.inr ⟨by rfl,rfl⟩) (by assumption) ?_
   try simp only [Act.put,qz1,qz2,qz3,qz4,qz5,qz6]
   refine wtk (i:=18) (v:=?_) rfl (Or.inl ⟨by rfl,?_⟩) (by assumption) ?_
   rotate_left
   ·intro w hSw
    try dsimp only at hSw
    go_split_ands
    go_simp
    try with_reducible rfl
   try simp only [Act.put,qz1,qz2,qz3,qz4,qz5,qz6]
   refine wpAnyH_ready (rs:=[19]) (by kernel_rfl) (by simp) ?_
   refine AllReadyH.cons rfl (fun K hK=>?_) AllReadyH.nil
   rw [if_pos (by rfl)]
   go_simp
   refine hK.out _ _ (by go_keep) (fun hHeld3=>?_)
   try simp only [Act.put,qz1,qz2,qz3,qz4,qz5,qz6]
   refine wtk (i:=20) (v:=?_) rfl (Or.inl ⟨by rfl,?_⟩) (by assumption) ?_
   rotate_left
   ·intro w hSw
    try dsimp only at hSw
    go_split_ands
    go_simp
    try with_reducible rfl
   try simp only [Act.put,qz1,qz2,qz3,qz4,qz5,qz6]
   refine wpAnyH_done (by kernel_rfl) ?_ _
   go_wp2
   refine YL (x:=(p0,[],t)) (b:=false) (YM _ z2 p0 [] t) rfl rfl ?_
   refine ⟨by rw [<- hr1]; simp,YN _ z3 hns,Qb (YO (N:=N) _ zf (by omega)) rfl rfl rfl rfl⟩
  | true =>
   by_cases hm:p2 < (S.size:Int)
   ·have hpn:p2.toNat < S.size:=by omega
    refine wp_region_held_drew (S:=(fun w':World=>w'.cell? ⟨s,0,none⟩ = some (.string S)/\w'.cell? ⟨s,1,none⟩ = some (.int .i64 p2)/\w'.cell? ⟨N + 1,0,none⟩ = some (.int .i64 p0)/\w'.cell? ⟨N + 1,1,none⟩ = some (.string ⟨#[]⟩)/\w'.cell? ⟨N + 1,2,none⟩ = some (.string ⟨t.toArray⟩))) (by kernel_rfl) ⟨hc0,hc1,e0,e1,e2⟩ (fun hHeld=>?_)
    refine wtk (i:=0) (v:=?_) rfl (Or.inl ⟨by rfl,?_⟩) (by assumption) ?_
    rotate_left
    ·intro w hSw
     try dsimp only at hSw
     go_split_ands
     go_simp
     try with_reducible rfl
    try simp only [Act.put,qz1,qz2,qz3,qz4,qz5,qz6]
    refine wtk (i:=1) (v:=?_) rfl (Or.inl ⟨by rfl,?_⟩) (by assumption) ?_
    rotate_left
    ·intro w hSw
     try dsimp only at hSw
     go_split_ands
     go_simp
     try with_reducible rfl
    try simp only [Act.put,qz1,qz2,qz3,qz4,qz5,qz6]
    refine wtk (i:=2) (v:=?_) rfl (Or.inl ⟨by rfl,?_⟩) (by assumption) ?_
    rotate_left
    ·intro w hSw
     try dsimp only at hSw
     go_split_ands
     go_simp
     try with_reducible rfl
    try simp only [Act.put,qz1,qz2,qz3,qz4,qz5,qz6]
    refine wtk (i:=3) (v:=?_) rfl (Or.inl ⟨by rfl,?_⟩) (by assumption) ?_
    rotate_left
    ·intro w hSw
     try dsimp only at hSw
     go_split_ands
     go_simp
     try with_reducible rfl
    try simp only [Act.put,qz1,qz2,qz3,qz4,qz5,qz6]
    refine wpAnyH_ready (rs:=[4]) (by kernel_rfl) (by simp) ?_
    refine AllReadyH.cons rfl (fun K hK=>?_) AllReadyH.nil
    rw [if_pos (by rfl)]
    go_simp
    go_at_call 99
    refine (ziR s S W7.drew p2 hc0 hc1 hm).mono ?_
    rintro e W8 ⟨rfl,m8,rfl⟩
    refine hK.out _ _ ⟨hc0,hc1,e0,e1,e2⟩ (fun hHeld2=>?_)
    clear hHeld
    try simp only [Act.put,qz1,qz2,qz3,qz4,qz5,qz6]
    refine wtk (i:=5) (v:=?_) rfl (Or.inl ⟨by rfl,?_⟩) (by assumption) ?_
    rotate_left
    ·intro w hSw
     try dsimp only at hSw
     go_split_ands
     go_simp
     try with_reducible rfl
    try simp only [Act.put,qz1,qz2,qz3,qz4,qz5,qz6]
    refine wtk (i:=6) (v:=?_) rfl (Or.inl ⟨by rfl,?_⟩) (by assumption) ?_
    rotate_left
    ·intro w hSw
     try dsimp only at hSw
     go_split_ands
     go_simp
     try with_reducible rfl
    try simp only [Act.put,qz1,qz2,qz3,qz4,qz5,qz6]
    refine wtk (i:=7) (v:=?_) rfl (Or.inl ⟨by rfl,?_⟩) (by assumption) ?_
    rotate_left
    ·intro w hSw
     try dsimp only at hSw
     go_split_ands
     go_simp
     try with_reducible rfl
    try simp only [Act.put,qz1,qz2,qz3,qz4,qz5,qz6]
    refine wtk (i:=8) (v:=?_) rfl (Or.inl ⟨by rfl,?_⟩) (by assumption) ?_
    rotate_left
    ·intro w hSw
     try dsimp only at hSw
     go_split_ands
     go_simp
     try with_reducible rfl
    try simp only [Act.put,qz1,qz2,qz3,qz4,qz5,qz6]
    refine wtk (i:=9) (v:=?_) rfl (Or.inl ⟨by rfl,?_⟩) (by assumption) ?_
    rotate_left
    ·intro w hSw
     try dsimp only at hSw
     go_split_ands
     go_simp
     try with_reducible rfl
    try simp only [Act.put,qz1,qz2,qz3,qz4,qz5,qz6]
    refine wtk (i:=10) (v:=?_) rfl (Or.inl ⟨by rfl,?_⟩) (by assumption) ?_
    rotate_left
    ·intro w hSw
     try dsimp only at hSw
     go_split_ands
     go_simp
     try with_reducible rfl
    try simp only [Act.put,qz1,qz2,qz3,qz4,qz5,qz6]
    refine wtk (i:=11) (v:=?_) rfl (Or.inl ⟨by rfl,?_⟩) (by assumption) ?_
    rotate_left
    ·intro w hSw
     try dsimp only at hSw
     go_split_ands
     go_simp
     try with_reducible rfl
    try simp only [Act.put,qz1,qz2,qz3,qz4,qz5,qz6]
    refine wtk (i:=12) (v:=?_) rfl (Or.inl ⟨by rfl,?_⟩) (by assumption) ?_
    rotate_left
    ·intro w hSw
     try dsimp only at hSw
     go_split_ands
     go_simp
     try with_reducible rfl
    try simp only [Act.put,qz1,qz2,qz3,qz4,qz5,qz6]
    refine wtk (i:=13) (v:=?_) rfl (Or.inl ⟨by rfl,?_⟩) (by assumption) ?_
    rotate_left
    ·intro w hSw
     try dsimp only at hSw
     go_split_ands
     go_simp
     try with_reducible rfl
    try simp only [Act.put,qz1,qz2,qz3,qz4,qz5,qz6]
    refine wtk (i:=14) (v:=?_) rfl (Or.inl ⟨by rfl,?_⟩) (by assumption) ?_
    rotate_left
    ·intro w hSw
     try dsimp only at hSw
     go_split_ands
     go_simp
     try with_reducible rfl
    try simp only [Act.put,qz1,qz2,qz3,qz4,qz5,qz6]
    refine wtk (i:=15) (v:=?_) rfl (Or.inl ⟨by rfl,?_⟩) (by assumption) ?_
    rotate_left
    ·intro w hSw
     try dsimp only at hSw
     go_split_ands
     go_simp
     try with_reducible rfl
    try simp only [Act.put,qz1,qz2,qz3,qz4,qz5,qz6]
    refine wtk (i:=16) (v:=?_) rfl (Or.inl ⟨by rfl,?_⟩) (by assumption) ?_
    rotate_left
    ·intro w hSw
     try dsimp only at hSw
     go_split_ands
     go_simp
     try with_reducible rfl
    try simp only [Act.put,qz1,qz2,qz3,qz4,qz5,qz6]
    refine wtk (i:=17) (v:=?_) rfl (Or.inl ⟨by rfl,?_⟩) (by assumption) ?_
    rotate_left
    ·intro w hSw
     try dsimp only at hSw
     go_split_ands
     go_simp
     try with_reducible rfl
    try simp only [Act.put,qz1,qz2,qz3,qz4,qz5,qz6]
    refine wtk (i:=18) (v:=?_) rfl (Or.inl ⟨by rfl,?_⟩) (by assumption) ?_
    rotate_left
    ·intro w hSw
     try dsimp only at hSw
     go_split_ands
     go_simp
     try with_reducible rfl
    try simp only [Act.put,qz1,qz2,qz3,qz4,qz5,qz6]
    refine wpAnyH_ready (rs:=[19]) (by kernel_rfl) (by simp) ?_
    refine AllReadyH.cons rfl (fun K hK=>?_) AllReadyH.nil
    rw [if_pos (by rfl)]
    go_simp
    refine hK.out _ _ (by go_keep) (fun hHeld3=>?_)
    try simp only [Act.put,qz1,qz2,qz3,qz4,qz5,qz6]
    refine wtk (i:=20) (v:=?_) rfl (Or.inl ⟨by rfl,?_⟩) (by assumption) ?_
    rotate_left
    ·intro w hSw
     try dsimp only at hSw
     go_split_ands
     go_simp
     try with_reducible rfl
    try simp only [Act.put,qz1,qz2,qz3,qz4,qz5,qz6]
    refine wpAnyH_done (by kernel_rfl) ?_ _
    go_wp2
    refine YL (x:=(p0,[],t)) (b:=(((S[p2.toNat]'hpn).toNat:Int) == 32)) (YM _ z2 p0 [] t) rfl rfl ?_
    refine ⟨by rw [<- hr1]; rw [zlT hm hpn],YN _ z3 hns,Qb (YO (N:=N) _ zf (by omega)) rfl rfl rfl rfl⟩
   ·have hm':(S.size:Int) <= p2:=Int.not_lt.1 hm
    refine wp_region_held_drew (S:=(fun w':World=>w'.cell? ⟨s,0,none⟩ = some (.string S)/\w'.cell? ⟨s,1,none⟩ = some (.int .i64 p2)/\w'.cell? ⟨N + 1,0,none⟩ = some (.int .i64 p0)/\w'.cell? ⟨N + 1,1,none⟩ = some (.string ⟨#[]⟩)/\w'.cell? ⟨N + 1,2,none⟩ = some (.string ⟨t.toArray⟩))) (by kernel_rfl) ⟨hc0,hc1,e0,e1,e2⟩ (fun hHeld=>?_)
    refine wtk (i:=0) (v:=?_) rfl (Or.inl ⟨by rfl,?_⟩) (by assumption) ?_
    rotate_left
    ·intro w hSw
     try dsimp only at hSw
     go_split_ands
     go_simp
     try with_reducible rfl
    try simp only [Act.put,qz1,qz2,qz3,qz4,qz5,qz6]
    refine wtk (i:=1) (v:=?_) rfl (Or.inl ⟨by rfl,?_⟩) (by assumption) ?_
    rotate_left
    ·intro w hSw
     try dsimp only at hSw
     go_split_ands
     go_simp
     try with_reducible rfl
    try simp only [Act.put,qz1,qz2,qz3,qz4,qz5,qz6]
    refine wtk (i:=2) (v:=?_) rfl (Or.inl ⟨by rfl,?_⟩) (by assumption) ?_
    rotate_left
    ·intro w hSw
     try dsimp only at hSw
     go_split_ands
     go_simp
     try with_reducible rfl
    try simp only [Act.put,qz1,qz2,qz3,qz4,qz5,qz6]
    refine wtk (i:=3) (v:=?_) rfl (Or.inl ⟨by rfl,?_⟩) (by assumption) ?_
    rotate_left
    ·intro w hSw
     try dsimp only at hSw
     go_split_ands
     go_simp
     try with_reducible rfl
    try simp only [Act.put,qz1,qz2,qz3,qz4,qz5,qz6]
    refine wpAnyH_ready (rs:=[4]) (by kernel_rfl) (by simp) ?_
    refine AllReadyH.cons rfl (fun K hK=>?_) AllReadyH.nil
    rw [if_pos (by rfl)]
    go_simp
    go_at_call 99
    refine (ziQ s S W7.drew p2 hc0 hc1 hm').mono ?_
    rintro e W8 ⟨rfl,m8,rfl⟩
    refine hK.out _ _ ⟨hc0,hc1,e0,e1,e2⟩ (fun hHeld2=>?_)
    clear hHeld
    try simp only [Act.put,qz1,qz2,qz3,qz4,qz5,qz6]
    refine wtk (i:=5) (v:=?_) rfl (Or.inl ⟨by rfl,?_⟩) (by assumption) ?_
    rotate_left
    ·intro w hSw
     try dsimp only at hSw
     go_split_ands
     go_simp
     try with_reducible rfl
    try simp only [Act.put,qz1,qz2,qz3,qz4,qz5,qz6]
    refine wtk (i:=6) (v:=?_) rfl (Or.inl ⟨by rfl,?_⟩) (by assumption) ?_
    rotate_left
    ·intro w hSw
     try dsimp only at hSw
     go_split_ands
     go_simp
     try with_reducible rfl
    try simp only [Act.put,qz1,qz2,qz3,qz4,qz5,qz6]
    refine wtk (i:=7) (v:=undef) rfl (Or.inr ⟨by rfl,rfl⟩) (by assumption) ?_
    try simp only [Act.put,qz1,qz2,qz3,qz4,qz5,qz6]
    refine wtk (i:=8) (v:=undef) rfl (Or.inr ⟨by rfl,rfl⟩) (by assumption) ?_
    try simp only [Act.put,qz1,qz2,qz3,qz4,qz5,qz6]
    refine wtk (i:=9) (v:=undef) rfl (Or.inr ⟨by rfl,rfl⟩) (by assumption) ?_
    try simp only [Act.put,qz1,qz2,qz3,qz4,qz5,qz6]
    refine wtk (i:=10) (v:=undef) rfl (Or.inr ⟨by rfl,rfl⟩) (by assumption) ?_
    try simp only [Act.put,qz1,qz2,qz3,qz4,qz5,qz6]
    refine wtk (i:=11) (v:=undef) rfl (Or.inr ⟨by rfl,rfl⟩) (by assumption) ?_
    try simp only [Act.put,qz1,qz2,qz3,qz4,qz5,qz6]
    refine wtk (i:=12) (v:=undef) rfl (Or.inr ⟨by rfl,rfl⟩) (by assumption) ?_
    try simp only [Act.put,qz1,qz2,qz3,qz4,qz5,qz6]
    refine wtk (i:=13) (v:=undef) rfl (Or.inr ⟨by rfl,rfl⟩) (by assumption) ?_
    try simp only [Act.put,qz1,qz2,qz3,qz4,qz5,qz6]
    refine wtk (i:=14) (v:=undef) rfl (Or.inr ⟨by rfl,rfl⟩) (by assumption) ?_
    try simp only [Act.put,qz1,qz2,qz3,qz4,qz5,qz6]
    refine wtk (i:=15) (v:=undef) rfl (Or.inr ⟨by rfl,rfl⟩) (by assumption) ?_
    try simp only [Act.put,qz1,qz2,qz3,qz4,qz5,qz6]
    refine wtk (i:=16) (v:=undef) rfl (Or.inr ⟨by rfl,rfl⟩) (by assumption) ?_
    try simp only [Act.put,qz1,qz2,qz3,qz4,qz5,qz6]
    refine wtk (i:=17) (v:=?_) rfl (Or.inl ⟨by rfl,?_⟩) (by assumption) ?_
    rotate_left
    ·intro w hSw
     try dsimp only at hSw
     go_split_ands
     go_simp
     try with_reducible rfl
    try simp only [Act.put,qz1,qz2,qz3,qz4,qz5,qz6]
    refine wtk (i:=18) (v:=?_) rfl (Or.inl ⟨by rfl,?_⟩) (by assumption) ?_
    rotate_left
    ·intro w hSw
     try dsimp only at hSw
     go_split_ands
     go_simp
     try with_reducible rfl
    try simp only [Act.put,qz1,qz2,qz3,qz4,qz5,qz6]
    refine wpAnyH_ready (rs:=[19]) (by kernel_rfl) (by simp) ?_
    refine AllReadyH.cons rfl (fun K hK=>?_) AllReadyH.nil
    rw [if_pos (by rfl)]
    go_simp
    refine hK.out _ _ (by go_keep) (fun hHeld3=>?_)
    try simp only [Act.put,qz1,qz2,qz3,qz4,qz5,qz6]
    refine wtk (i:=20) (v:=?_) rfl (Or.inl ⟨by rfl,?_⟩) (by assumption) ?_
    rotate_left
    ·intro w hSw
     try dsimp only at hSw
     go_split_ands
     go_simp
     try with_reducible rfl
    try simp only [Act.put,qz1,qz2,qz3,qz4,qz5,qz6]
    refine wpAnyH_done (by kernel_rfl) ?_ _
    go_wp2
    refine YL (x:=(p0,[],t)) (b:=true) (YM _ z2 p0 [] t) rfl rfl ?_
    refine ⟨by rw [<- hr1]; simp [hm'],YN _ z3 hns,Qb (YO (N:=N) _ zf (by omega)) rfl rfl rfl rfl⟩
end Go.Seq
