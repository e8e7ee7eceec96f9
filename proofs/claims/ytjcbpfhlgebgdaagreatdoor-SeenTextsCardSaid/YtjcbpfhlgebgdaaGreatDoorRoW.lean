import Derived.OwnWalkIn
import Derived.Test.YtjcbpfhlgebgdaaGreatDoorRWa
set_option linter.unusedSimpArgs false
set_option linter.unusedVariables false
namespace Go.Seq
open Go.RowKit Go.Shelf Go.Proofs
attribute [local go_sem] Oper.semAt_some
theorem zsE (c:UInt8) (S:ByteArray) (w:World):Calls Tryz.prog 97 #[.string S,.string ⟨#[c]⟩,.int .i64 0] w fun e w' =>
  e = .returned (.func (.func 119) #[] #[.pointer (some ⟨w.heap.size + 1,0,none⟩),.pointer (some ⟨w.heap.size,0,none⟩),.pointer (some ⟨w.heap.size + 2,0,none⟩)]) /\
  w' = ((w.alloc (.cells #[.string S] 9)).alloc (.cells #[.string ⟨#[c]⟩] 9)).alloc (.cells #[.int .i64 0] 3):=by
 go_enter Tryz.func97,Tryz.ntmps97
 go_wp2
 go_ret
 exact ⟨rfl,rfl⟩
theorem ztx (c:UInt8) (S:ByteArray) (w:World):Calls Tryz.prog 61 #[.string S,.string ⟨#[c]⟩] w fun e w' =>
  e = .returned (.func (.func 119) #[] #[.pointer (some ⟨w.heap.size + 1,0,none⟩),.pointer (some ⟨w.heap.size,0,none⟩),.pointer (some ⟨w.heap.size + 2,0,none⟩)]) /\
  w' = ((w.alloc (.cells #[.string S] 9)).alloc (.cells #[.string ⟨#[c]⟩] 9)).alloc (.cells #[.int .i64 0] 3):=by
 go_enter Tryz.func61,Tryz.ntmps61
 go_wp2_with (go_at_call 97; refine (zsE c S _).mono ?_; rintro e w' ⟨rfl,rfl⟩)
 go_ret
 exact ⟨rfl,rfl⟩
theorem zpI (S:ByteArray) (w:World):Calls Tryz.prog 62 #[.string S] w fun e w' =>
  e = .returned (.func (.func 98) #[] #[.pointer (some ⟨w.heap.size,0,none⟩)])/\w' = w.alloc (.cells #[.string S] 9):=by
 go_enter Tryz.func62,Tryz.ntmps62
 go_wp2
 go_ret
 exact ⟨rfl,rfl⟩
theorem zrZ:∃ i z,Tryz.prog.underlying 54 = some (.slice 57)/\Tryz.prog.info? 57 = some i/\i.zero = some z/\i.size = 3/\i.bytes = 40/\z.cells.size = 3:=by
 obtain ⟨i,h1,h2,h3,h4⟩:=info_parts (P:=Tryz.prog) (e:=57) (z:=.agg #[.int .i64 0,.string ⟨#[]⟩,.string ⟨#[]⟩]) (size:=3) (bytes:=40) (by kernel_rfl)
 exact ⟨i,_,by kernel_rfl,h1,h2,h3,h4,rfl⟩
theorem zpJ:∃ i z,Tryz.prog.underlying 68 = some (.slice 72)/\Tryz.prog.info? 72 = some i/\i.zero = some z/\i.size = 2/\i.bytes = 32/\z.cells.size = 2:=by
 obtain ⟨i,h1,h2,h3,h4⟩:=info_parts (P:=Tryz.prog) (e:=72) (z:=.agg #[.int .i64 0,.slice none 0 0]) (size:=2) (bytes:=32) (by kernel_rfl)
 exact ⟨i,_,by kernel_rfl,h1,h2,h3,h4,rfl⟩
theorem ztX {wa a:Int} {n:Nat} (h0:0 <= wa) (h1:wa <= 1000) (h2:0 <= a) (h3:a <= 20001 * (n:Int)) (h4:n <= 20001):wrap64 (wa + a) = wa + a:=IntWalk.wrap64_in _ (by omega)
theorem ziO {S:ByteArray} {wd:Int->Option ((Wd × Bool) × Int)}:∀ {k:Nat} {p:Int} {xs:List (Wd × Bool)},wsF S wd k p = some xs->xs.length <= k
 | 0,p,xs,h=>by cases h
 | k + 1,p,xs,h=>by
  rw [wsF] at h
  split at h
  ·cases hc:S.data[p.toNat]? with
   | none=>rw [hc] at h; cases h
   | some c =>
   rw [hc] at h
   simp only [Option.bind_some] at h
   split at h
   ·have:=ziO h; omega
   ·split at h
    ·cases h; simp
    ·cases hw:wd p with
     | none=>rw [hw] at h; cases h
     | some r =>
     rw [hw] at h
     simp only [Option.bind_some] at h
     split at h
     ·obtain ⟨tl,h1,rfl⟩:=Option.map_eq_some_iff.1 h
      have:=ziO h1
      simp; omega
     ·cases h; simp
  ·cases h; simp
theorem zhQ (A:World) (x y z:Value) (t:TypeId) (k:Nat) (hk:A.heap.size = k):∀ j u,[x,y,z][j]? = some u->(A.alloc (.cells #[x,y,z] t)).cell? ((⟨k,0,none⟩:Addr).add j) = some u:=by
 intro j u hj
 subst hk
 match j,hj with
 | 0,hj=>simp at hj; subst hj; simp [Addr.add]
 | 1,hj=>simp at hj; subst hj; simp [Addr.add]
 | 2,hj=>simp at hj; subst hj; simp [Addr.add]
 | j + 3,hj=>simp at hj
theorem zd2 (A:World) (x y:Value) (t:TypeId) (k:Nat) (hk:A.heap.size = k):∀ j u,[x,y][j]? = some u->(A.alloc (.cells #[x,y] t)).cell? ((⟨k,0,none⟩:Addr).add j) = some u:=by
 intro j u hj
 subst hk
 match j,hj with
 | 0,hj=>simp at hj; subst hj; simp [Addr.add]
 | 1,hj=>simp at hj; subst hj; simp [Addr.add]
 | j + 2,hj=>simp at hj
theorem zpK {N D:Nat} {B:World} {v:Value} {f1 f2:Int} (hD:N + 7 <= D) (b0:B.heap[N]? = some (.cells #[v] 68 (0,0))) (b1:B.heap[N + 1]? = some (.cells #[.int .i64 f1,.int .i64 f2] 30 (0,0))) :
  (B.putObj D (.deferred none)).cell? ⟨N,0,none⟩ = some v/\(B.putObj D (.deferred none)).cell? ⟨N + 1,0,none⟩ = some (.int .i64 f1)/\(B.putObj D (.deferred none)).cell? ⟨N + 1,1,none⟩ = some (.int .i64 f2):=by
 have e0:(B.putObj D (.deferred none)).heap[N]? = _:=(World.putObj_heap_other (by omega)).trans b0
 have e1:(B.putObj D (.deferred none)).heap[N + 1]? = _:=(World.putObj_heap_other (by omega)).trans b1
 simp [World.cell?,e0,e1]
theorem zkt {W:World} {base D:Nat} {e:TypeId} {size:Nat} {v:Value} {n:Nat} {xs:List Value} {ob:Obj} (h:W.ownsRow base e size v n xs) (hD:W.heap[D]? = some ob) (hc:ob.isCells = false) (o':Obj):(W.putObj D o').ownsRow base e size v n xs :=
 yG h fun g cur hg _ _=>World.putObj_heap_other fun e=>by subst e; rw [hD] at hg; cases hg; cases hc
theorem zgg {N D:Nat} {w W:World} (h:Below N w W) (hD:N <= D) (o':Obj):Below N w (W.putObj D o') :=
 ⟨h.os,h.tape,h.output,by simpa using h.size,fun k hk=>(World.putObj_heap_other (by omega)).trans (h.block k hk)⟩
theorem zpL {N:Nat} {w W:World} {v:Value} {vs:List Value} {o:List (Int × List Wd)} {a:Int} (h:RI N w W v vs o a) (f1 f2:Int) :
  let B:=(((W.setCell ⟨N,0,none⟩ v).setCell ⟨N + 1,0,none⟩ (.int .i64 f1)).setCell ⟨N + 1,1,none⟩ (.int .i64 f2))
  B.heap[N]? = some (.cells #[v] 68 (0,0))/\B.heap[N + 1]? = some (.cells #[.int .i64 f1,.int .i64 f2] 30 (0,0))/\Below N w B/\(∀ k,N + 2 <= k->B.heap[k]? = W.heap[k]?):=by
 intro B
 refine ⟨?_,?_,qg (qg (qg h.bel (Nat.le_refl _) _) (Nat.le_succ _) _) (Nat.le_succ _) _,fun k hk=>?_⟩
 ·show (World.setCell _ _ _).heap[N]? = _
  rw [Below.heap_setCell _ _ _ _ (by simp),Below.heap_setCell _ _ _ _ (by simp),heap_setCell_same _ _ 0 _ _ _ h.b2]
  rfl
 ·show (World.setCell _ _ _).heap[N + 1]? = _
  have c0:(W.setCell ⟨N,0,none⟩ v).heap[N + 1]? = some (.cells #[.int .i64 0,.int .i64 0] 30 (0,0)):=(Below.heap_setCell _ _ _ _ (by simp)).trans h.b3
  exact heap_setCell_same _ _ 1 _ _ (.int .i64 f2) (heap_setCell_same _ _ 0 _ _ (.int .i64 f1) c0)
 ·show (World.setCell _ _ _).heap[k]? = _
  rw [Below.heap_setCell _ _ _ _ (by simp; omega),Below.heap_setCell _ _ _ _ (by simp; omega),Below.heap_setCell _ _ _ _ (by simp; omega)]
theorem ztY (x:Nat) (h:x <= 1000):wrap64 ((x:Int) + 1) = (x:Int) + 1:=IntWalk.wrap64_in _ (by omega)
theorem ztZ {a:Int} {n:Nat} (x:Nat) (h0:0 <= a) (h1:a <= 20001 * (n:Int)) (h2:n <= 20001) (h:x <= 1000):wrap64 (a + ((x:Int) + 1)) = a + ((x:Int) + 1):=IntWalk.wrap64_in _ (by omega)
theorem zru (pre:List ByteArray) (x:ByteArray) {a:Int} (q:0 <= a/\a <= 20001 * (pre.length:Int)) (h:x.size <= 1000):0 <= a + ((x.size:Int) + 1)/\a + ((x.size:Int) + 1) <= 20001 * ((pre++[x]).length:Int):=by
 have e:((pre++[x]).length:Int) = (pre.length:Int) + 1:=by simp
 rw [e]
 omega
theorem YK {W:World} {base:Nat} {e:TypeId} {size:Nat} {v:Value} {n:Nat} {xs:List Value} (h:W.ownsRow base e size v n xs):∃ ba cap,v = .slice ba n cap:=by
 obtain ⟨_,⟨rfl,h0⟩ | ⟨g,cap,cur,rfl,_⟩⟩:=h
 ·exact ⟨none,0,by rw [h0]⟩
 ·exact ⟨_,_,rfl⟩
theorem zgh {n:Nat} (h:0 < n):(0:Int) < (n:Int):=by omega
theorem zlR {N:Nat} {A W3:World} {o1:Obj} {v:Value} {e:TypeId} {size n:Nat} {xs:List Value} (hN:N + 7 <= A.heap.size) (hown:A.ownsRow (N + 7) e size v n xs) (hg:(A.alloc o1).grownBy W3 v.ownBlock):W3.heap[N + 2]? = A.heap[N + 2]?/\W3.heap[N + 3]? = A.heap[N + 3]?:=by
 have nb:∀ k,k < N + 7->some k ≠ v.ownBlock:=fun k hk e=>by have:=(Zj hown e.symm).1; omega
 exact ⟨(hg.block _ (by simp; omega) (nb _ (by omega))).trans (Below.heap_alloc _ _ _ (by omega)),(hg.block _ (by simp; omega) (nb _ (by omega))).trans (Below.heap_alloc _ _ _ (by omega))⟩
theorem zrv {N:Nat} {A:World} (h:N + 7 <= A.heap.size) (o:Obj):N + 7 <= (A.alloc o).heap.size:=by simp; omega
theorem zty {n:Nat} (h:n < 20002):n + 1 <= maxLen:=by unfold maxLen; omega
theorem zsF {n:Nat} (h:n < 20002):(n + 1) * 32 <= 140737488355328:=by omega
theorem zpM {n:Nat} (h:n < 1001):(n + 1) * 40 <= 140737488355328:=by omega
theorem zr0 {n:Nat} (h:n < 1001):n + 1 <= maxLen:=by unfold maxLen; omega
theorem zha {a:Int} {n:Nat} (h:a < (n:Int)) (h2:n <= 1000):a <= 1000:=by omega
theorem zsG {N:Nat} {w W B:World} {v:Value} {vs:List Value} {o:List (Int × List Wd)} {a:Int} {Z:Nat->Prop} (hZ:∀ k,Z k->N + 4 <= k) (hN:N = w.heap.size) (h:RI N w W v vs o a) (e1 e2:Int)
  (hB:B.heap = (((W.setCell ⟨N,0,none⟩ (.slice none 0 0)).setCell ⟨N + 1,0,none⟩ (.int .i64 e1)).setCell ⟨N + 1,1,none⟩ (.int .i64 e2)).heap) (ho:B.os = W.os) (ht:B.tape = W.tape) (hp:B.output = W.output):RX N w B e1 e2/\ZI Z (N + 7) W B:=by
 have oth:∀ k,k ≠ N->k ≠ N + 1->B.heap[k]? = W.heap[k]?:=fun k h1 h2=>by
  rw [hB,Below.heap_setCell _ _ _ _ (by simpa using h2),Below.heap_setCell _ _ _ _ (by simpa using h2),Below.heap_setCell _ _ _ _ (by simpa using h1)]
 have hsz:B.heap.size = W.heap.size:=by rw [hB]; simp
 have c1:(W.setCell ⟨N,0,none⟩ (.slice none 0 0)).heap[N + 1]? = some (.cells #[.int .i64 0,.int .i64 0] 30 (0,0)):=(Below.heap_setCell _ _ _ _ (by simp)).trans h.b3
 refine ⟨⟨⟨ho.trans h.bel.os,ht.trans h.bel.tape,hp.trans h.bel.output,by rw [hsz]; exact h.bel.size,fun k hk=>(oth k (by omega) (by omega)).trans (h.bel.block k hk)⟩,by rw [hsz]; exact h.size,?_,?_⟩,fun k ob hob hc=>(oth k ?_ ?_).trans hob⟩
 ·rw [hB,Below.heap_setCell _ _ _ _ (by simp),Below.heap_setCell _ _ _ _ (by simp),heap_setCell_same _ _ 0 _ _ _ h.b2]
  rfl
 ·rw [hB]
  exact heap_setCell_same _ _ 1 _ _ (.int .i64 e2) (heap_setCell_same _ _ 0 _ _ (.int .i64 e1) c1)
 ·rcases hc with hc | hc
  ·have:=hZ k hc; omega
  ·omega
 ·rcases hc with hc | hc
  ·have:=hZ k hc; omega
  ·omega
set_option maxRecDepth 20000 in
set_option maxHeartbeats 8000000 in
theorem zrw (wdS:ByteArray->Int->Option ((Wd × Bool) × Int)) (S:ByteArray) (hS:S.size <= 20000) (w:World)
  (hM:∀ (L:ByteArray) W s p,w.heap.size <= s->Below w.heap.size w W->Bx s L W p->Calls Tryz.prog 99 #[.pointer (some ⟨s,0,none⟩)] W fun e W'=>e = .returned (.bool (decide (p < (L.size:Int))))/\Bx s L W' p/\Fr s W W')
  (hWd:∀ (L:ByteArray) W s p r p',L.size <= 1000->w.heap.size <= s->Below w.heap.size w W->Bx s L W p->wdS L p = some (r,p')->Calls Tryz.prog 100 #[.pointer (some ⟨s,0,none⟩)] W fun e W'=>e = .returned (.tuple (zhb r))/\Bx s L W' p'/\Fr s W W')
  (hWp:∀ L p r p',wdS L p = some ((r,true),p')->0 <= p->p < p') (hAt:∀ L p r p',wdS L p = some (r,p')->r.1.1 = p)
  {out:List (Int × List Wd)} {e1 e2:Int} (hr:zbB (fun l=>wsF (qR l) (wdS (qR l)) (l.length + 1) 0) (yF 10 S.data.toList) [] 0 = some (out,e1,e2)) :
  Calls Tryz.prog 29 #[.string S] w fun en w'=>∃ v vs,en = .returned (.tuple #[v,.agg #[.int .i64 e1,.int .i64 e2]])/\Below w.heap.size w w' /\
   w'.ownsRow w.heap.size 72 2 v out.length (Ze out vs)/\vs.length = out.length/\∀ (i:Nat) (b:Int) (ws:List Wd) (u:Value),out[i]? = some (b,ws)->vs[i]? = some u->w'.ownsRow w.heap.size 57 3 u ws.length (cellsW ws):=by
 refine (callsIn_wide (n:=5)).1 ?_
 refine callsIn_of_wp_marks Tryz.func29 rfl trivial ?_ rfl
 simp only [Tryz.ntmps29,List.size_toArray,List.length_cons,List.length_nil,Nat.reduceAdd,Nat.reduceSub,Array.replicate_succ,Array.replicate_zero,List.push_toArray,List.append_toArray,List.nil_append,List.cons_append]
 have mixed:Tryz.prog.follows .mixedOrders = true:=by kernel_rfl
 have hSi:¬ (20000:Int) < (S.size:Int):=by omega
 gi_wp2_with (refine ⟨trivial,?_⟩; gi_at_call 61; refine (callsIn_wide.2 (ztx 10 S _)).mono ?_; rintro e w' ⟨rfl,rfl⟩)
 generalize hw7:(((((((w.alloc (.cells #[.slice none 0 0] 68)).alloc (.cells #[.int .i64 0,.int .i64 0] 30)).alloc (.cells #[.slice none 0 0] 68)).alloc (.cells #[.int .i64 0] 3)).alloc (.cells #[.string S] 9)).alloc (.cells #[.string ⟨#[10]⟩] 9)).alloc (.cells #[.int .i64 0] 3)) = w7
 have hh:w7.heap = w.heap++#[.cells #[.slice none 0 0] 68 (0,0),.cells #[.int .i64 0,.int .i64 0] 30 (0,0),.cells #[.slice none 0 0] 68 (0,0),.cells #[.int .i64 0] 3 (0,0),.cells #[.string S] 9 (0,0),.cells #[.string ⟨#[10]⟩] 9 (0,0),.cells #[.int .i64 0] 3 (0,0)]:=by
  rw [<- hw7]
  apply Array.ext'
  simp only [World.alloc,Array.toList_push,Array.toList_append,List.append_assoc,List.cons_append,List.nil_append]
 obtain ⟨N,hN⟩:∃ N,w.heap.size = N:=⟨_,rfl⟩
 have hsz7:w7.heap.size = N + 7:=by rw [hh]; simp [hN]
 have at7:∀ i o,(#[.cells #[.slice none 0 0] 68 (0,0),.cells #[.int .i64 0,.int .i64 0] 30 (0,0),.cells #[.slice none 0 0] 68 (0,0),.cells #[.int .i64 0] 3 (0,0),.cells #[.string S] 9 (0,0),.cells #[.string ⟨#[10]⟩] 9 (0,0),.cells #[.int .i64 0] 3 (0,0)]:Array Obj)[i]? = some o->w7.heap[N + i]? = some o:=fun i o h=>by
  rw [hh,Array.getElem?_append_right (by omega),hN,Nat.add_sub_cancel_left]; exact h
 have hb7:Below N w w7:=⟨by rw [<- hw7]; rfl,by rw [<- hw7]; rfl,by rw [<- hw7]; rfl,by omega,fun k hk=>by rw [hh,Array.getElem?_append_left (by omega)]⟩
 have hc4:w7.cell? ⟨N + 4,0,none⟩ = some (.string S):=by simp [World.cell?,at7 4 _ rfl]
 have hf4:w7.frozen? ⟨N + 4,0,none⟩ = false:=by simp [World.frozen?,at7 4 _ rfl]
 have hc5:w7.cell? ⟨N + 5,0,none⟩ = some (.string ⟨#[10]⟩):=by simp [World.cell?,at7 5 _ rfl]
 have hc6:w7.cell? ⟨N + 6,0,none⟩ = some (.int .i64 0):=by simp [World.cell?,at7 6 _ rfl]
 have hL0:RI N w w7 (.slice none 0 0) [] [] 0:=⟨hb7,by omega,at7 0 _ rfl,at7 1 _ rfl,at7 2 _ rfl,at7 3 _ rfl,World.ownsRow_nil _ _ _ _,rfl,fun i b ws u h=>by simp at h⟩
 clear at7 hh hw7 hb7
 simp only [hN] at hM hWd
 simp only [hN,Nat.add_assoc,Nat.reduceAdd]
 have hZ:∀ k,(k = N + 4 ∨ k = N + 5 ∨ k = N + 6)->N + 4 <= k/\k < N + 7:=fun k hk=>by omega
 have hpl:=pieces_len 10 S.data.toList
 have hSl:S.data.toList.length = S.size:=Array.length_toList
 refine zdZ rfl (by decide) (gf:=119) (lb:=#[.pointer (some ⟨N + 5,0,none⟩),.pointer (some ⟨N + 4,0,none⟩),.pointer (some ⟨N + 6,0,none⟩)]) rfl trivial (enters_of Tryz.func119 (by kernel_rfl) rfl)
  (encs:=fun x:ByteArray=>#[.string x]) (G:=fun _=>True) (zrr.seqY (zn2 (m:=3) (by omega) (by omega) hc5 hc4 hf4 hc6) (fun k hk=>by have:=hZ k hk; omega)) (Z:=fun k=>k = N + 4 ∨ k = N + 5 ∨ k = N + 6) rfl ⟨by omega,by omega⟩ (fun x=>rfl)
  (fun pre W=>∃ (rest:List ByteArray) (o:List (Int × List Wd)) (a:Int) (v:Value) (vs:List Value),qA 10 S = pre++rest/\zbB (fun l=>wsF (qR l) (wdS (qR l)) (l.length + 1) 0) (rest.map (fun x=>x.data.toList)) o a = some (out,e1,e2)/\o.length <= pre.length/\(0 <= a/\a <= 20001 * (pre.length:Int))/\RI N w W v vs o a)
  (fun c pre W=>c = .ret/\out = []/\RX N w W e1 e2)
  (fun s A B ⟨rest,o,a,v,vs,q1,q2,q3,q4,q5⟩ ht=>⟨rest,o,a,v,vs,q1,q2,q3,q4,RI.turns hZ hN.symm q5 (by rw [hsz7] at ht; exact ht)⟩)
  (fun c s A B ⟨q0,q1,q2⟩ ht=>⟨q0,q1,RX.turns (fun k hk=>(hZ k hk).1) (by omega) hN.symm q2 ht⟩)
  (fun _ _ _=>trivial)
  ⟨qA 10 S,[],0,.slice none 0 0,[],rfl,by simpa [qA,qR,List.map_map,Function.comp_def] using hr,Nat.le_refl _,⟨by simp,by simp⟩,hL0⟩
  (fun x=>{ tmps:=#[.string S,undef,.pointer (some ⟨N,0,none⟩),.pointer (some ⟨N + 1,0,none⟩),.pointer (some ⟨N + 2,0,none⟩),.pointer (some ⟨N + 3,0,none⟩),.string x,undef,undef,undef,.string S,.int .i64 (S.size:Int),.bool false,undef,.string S,.func (.func 119) #[] #[.pointer (some ⟨N + 5,0,none⟩),.pointer (some ⟨N + 4,0,none⟩),.pointer (some ⟨N + 6,0,none⟩)],.string x,undef,undef,undef,undef,undef,undef,undef,undef,undef,undef,undef,undef,undef,undef,undef,undef,undef,undef,undef,undef,undef,undef,undef,undef,undef,undef,undef,undef,undef,undef,undef,undef,undef,undef,undef,undef,undef,undef,undef,undef,undef,undef],defers:=[] }) ?assign ?body ?done ?stop
 case assign =>
  intro l x W K hK
  gi_wp2
  exact hK
 case body =>
  rintro l pre x W hl hlr hZs ⟨rest,o,a,v,vs,q1,q2,q3,q4,q5⟩ hpre hszW
  obtain ⟨rest',rfl⟩:∃ rest',rest = x :: rest':=by
   rw [q1] at hpre
   have:=(List.prefix_append_right_inj pre).1 hpre
   obtain ⟨t,ht⟩:=this
   exact ⟨t,by simpa using ht.symm⟩
  simp only [List.map_cons,zbB] at q2
  have hplen:pre.length + 1 + rest'.length <= S.size + 1:=by
   have:=congrArg List.length q1
   simp [qA] at this
   omega
  have hxl:x.size <= S.size:=by
   have hx:x ∈ qA 10 S:=by rw [q1]; simp
   obtain ⟨p,hp1,rfl⟩:=List.mem_map.1 hx
   have:=hpl.2.2 p hp1
   show (qR p).data.size <= _
   simp [qR]; omega
  have hxd:x.data.toList.length = x.size:=Array.length_toList
  have hbx:qR x.data.toList = x:=ziL x
  rw [hxd,hbx] at q2
  have hcw:RI N w W v vs o a:=q5
  have d4:W.cell? ⟨N + 2,0,none⟩ = some v/\W.frozen? ⟨N + 2,0,none⟩ = false:=by simp [World.cell?,World.frozen?,q5.b4]
  have d5:W.cell? ⟨N + 3,0,none⟩ = some (.int .i64 a)/\W.frozen? ⟨N + 3,0,none⟩ = false:=by simp [World.cell?,World.frozen?,q5.b5]
  have d2:W.cell? ⟨N,0,none⟩ = some (.slice none 0 0)/\W.frozen? ⟨N,0,none⟩ = false:=by simp [World.cell?,World.frozen?,q5.b2]
  have d3:W.cell? ⟨N + 1,0,none⟩ = some (.int .i64 0)/\W.cell? ⟨N + 1,1,none⟩ = some (.int .i64 0)/\W.frozen? ⟨N + 1,0,none⟩ = false/\W.frozen? ⟨N + 1,1,none⟩ = false:=by simp [World.cell?,World.frozen?,q5.b3]
  obtain ⟨d4,f4⟩:=d4
  obtain ⟨d5,f5⟩:=d5
  obtain ⟨d2,f2⟩:=d2
  obtain ⟨d3,d3',f3,f3'⟩:=d3
  by_cases h1000:1000 < x.size
  ·rw [if_pos h1000] at q2
   simp only [Option.some.injEq,Prod.mk.injEq] at q2
   obtain ⟨r1,r2,r3⟩:=q2
   have h1000i:(1000:Int) < (x.size:Int):=by omega
   gi_wp2
   gi_region
   all_goals gi_wp2
   all_goals
    rw [hsz7,<- r2,<- r3]
    have key:∀ B:World,B.heap = (((W.setCell ⟨N,0,none⟩ (.slice none 0 0)).setCell ⟨N + 1,0,none⟩ (.int .i64 4)).setCell ⟨N + 1,1,none⟩ (.int .i64 a)).heap->B.os = W.os->B.tape = W.tape->B.output = W.output->RX N w B 4 a/\ZI (fun k=>k = N + 4 ∨ k = N + 5 ∨ k = N + 6) (N + 7) W B :=
     fun B h1 h2 h3 h4=>zsG (fun k hk=>(hZ k hk).1) hN.symm q5 4 a h1 h2 h3 h4
    refine ⟨(key _ ?_ ?_ ?_ ?_).2,rfl,r1.symm,(key _ ?_ ?_ ?_ ?_).1⟩ <;> rfl
  ·rw [if_neg h1000] at q2
   have h1000i:¬ (1000:Int) < (x.size:Int):=by omega
   cases hws:wsF x (wdS x) (x.size + 1) 0 with
   | none=>rw [hws] at q2; cases q2
   | some ws =>
   rw [hws] at q2
   simp only [Option.bind_some] at q2
   have hx1:x.size <= 1000:=Nat.not_lt.1 h1000
   have hpl1:pre.length <= 20001:=by omega
   obtain ⟨K,hK⟩:∃ K,W.heap.size = K:=⟨_,rfl⟩
   gi_wp2_with (refine ⟨trivial,?_⟩; gi_at_call 62; refine (CallsIn.inRound l (callsIn_wide.2 (zpI x _))).mono ?_; rintro e w' ⟨rfl,rfl⟩)
   obtain ⟨r0,hr0⟩:=hlr
   have hN7:N + 7 <= K:=by have:=q5.size; omega
   obtain ⟨Wa,hWa⟩:∃ Wa,(W.alloc (.cells #[.int .i64 a,.slice none 0 0] 72)).alloc (.cells #[.string x] 9) = Wa:=⟨_,rfl⟩
   have hsa:Wa.heap.size = K + 2:=by rw [<- hWa]; simp [hK]
   have hlt:∀ k,k < K->Wa.heap[k]? = W.heap[k]?:=fun k hk=>by rw [<- hWa]; exact (Below.heap_alloc _ _ _ (by simp; omega)).trans (Below.heap_alloc _ _ _ (by omega))
   have hrb:Wa.heap[K]? = some (.cells #[.int .i64 a,.slice none 0 0] 72 (0,0)):=by
    rw [<- hWa,<- hK]; exact (Below.heap_alloc _ _ _ (by simp)).trans (ahn W _)
   have hbl:Wa.cell? ⟨K + 1,0,none⟩ = some (.string x):=by
    have h9:Wa.heap[K + 1]? = some (.cells #[.string x] 9 (0,0)):=by
     rw [<- hWa,<- hK]
     have:=ahn (W.alloc (.cells #[.int .i64 a,.slice none 0 0] 72)) (.cells #[.string x] 9)
     rwa [World.size_alloc] at this
    simp [World.cell?,h9]
   have hII0:II K W Wa a (.slice none 0 0) []:=⟨⟨by rw [<- hWa]; rfl,by rw [<- hWa]; rfl,by rw [<- hWa]; rfl,by omega,hlt⟩,by omega,hrb,World.ownsRow_nil _ _ _ _⟩
   have hla:Wa.heap[l]? = some (.loop r0):=(hlt l (by have:=(Array.getElem?_eq_some_iff.1 hr0).1; omega)).trans hr0
   simp only [hWa]
   clear hWa hrb
   have haW:=zlS (hAt x) (hWp x) (Int.le_refl 0) hws
   refine zdr (l₀:=l) (r₀:=r0) rfl hla (by decide) (gf:=98) (lb:=#[.pointer (some ⟨K + 1,0,none⟩)]) rfl trivial (enters_of Tryz.func98 (by kernel_rfl) rfl)
    (encs:=zhb) (G:=Below N w) (zko.inRound l (zn8 (m:=1) (N:=N) (w:=w) (S:=x) (by omega) (hM x) (fun W s p r p'=>hWd x W s p r p' (by omega)) (hWp x) (by omega) hbl hws)) (Z:=fun k=>k = K + 3) (by funext k; simp only [hsa]) (by rw [hsa]; omega) (fun x=>rfl)
    (fun pre W2=>∃ v,II K W W2 a v (pre.map fun y=>shW a y.1)/\∀ y ∈ pre,y.2 = true)
    (fun c pre W2=>c = .ret/\out = []/\RX N w W2 e1 e2/\(∀ k,N + 4 <= k->k < K->W2.heap[k]? = W.heap[k]?)/\K <= W2.heap.size)
    (fun s A B ⟨v,q,h⟩ ht=>⟨v,II.turns hK.symm q (by rw [hsa] at ht; exact ht),h⟩)
    (fun c s A B ⟨g1,g2,g3,g4,g5⟩ ht=>⟨g1,g2,RX.turns (fun k hk=>by omega) (by omega) hN.symm g3 ht,fun k hk1 hk2=>by
     have h9:=g4 k hk1 hk2
     have hkw:k < W.heap.size:=by omega
     rw [Array.getElem?_eq_getElem hkw] at h9 ⊢
     exact ht.block k _ h9 (by omega) (.inl (by omega)),Nat.le_trans g5 ht.size⟩)
    (fun s A ⟨v,q,h⟩=>(RI.after (by omega) hK.symm q5 q).bel)
    ⟨_,hII0,fun y hy=>by simp at hy⟩
    (fun x2 a' W2=>∃ (b:Nat) (v0:Value),a' = { tmps:=#[.string S,undef,.pointer (some ⟨N,0,none⟩),.pointer (some ⟨N + 1,0,none⟩),.pointer (some ⟨N + 2,0,none⟩),.pointer (some ⟨N + 3,0,none⟩),.string x,.pointer (some ⟨K,0,none⟩),.pointer (some ⟨b,0,none⟩),.bool x2.2,.string S,.int .i64 (S.size:Int),.bool false,undef,.string S,.func (.func 119) #[] #[.pointer (some ⟨N + 5,0,none⟩),.pointer (some ⟨N + 4,0,none⟩),.pointer (some ⟨N + 6,0,none⟩)],.string x,.string x,.int .i64 (x.size:Int),.bool false,undef,undef,.int .i64 a,.agg #[.int .i64 a,.slice none 0 0],.string x,.func (.func 98) #[] #[.pointer (some ⟨K + 1,0,none⟩)],zd6 x2.1,.bool x2.2,undef,undef,undef,undef,undef,undef,undef,undef,undef,undef,undef,undef,undef,undef,undef,undef,undef,undef,undef,undef,undef,undef,undef,undef,undef,undef,undef,undef,undef,undef,undef],defers:=[] }/\W2.heap[b]? = some (Zm x2.1)/\K + 4 <= b/\W2.heap[K]? = some (.cells #[.int .i64 a,v0] 72 (0,0))/\v0.ownBlock ≠ some b)
    (fun x2 a' A B ⟨b,v0,g1,g2,g3,g4,g5⟩ ht=>⟨b,v0,g1,ht.block b _ g2 (by omega) (.inr rfl),g3,ht.block K _ g4 (by omega) (.inr rfl),g5⟩)
    ?assign2 ?body2 ?done2 ?stop2
   case assign2 =>
    rintro l2 pre2 ⟨⟨wa,wk,wt⟩,isw⟩ W2 Kc hsz2 hex2 ⟨v,q,h⟩ hKc
    unfold zhb zd6
    gi_wp2
    have hlt2:v.ownBlock ≠ some W2.heap.size:=fun e=>by
     obtain ⟨_,cur,hg⟩:=Zj q.own e
     exact absurd (Array.getElem?_eq_some_iff.1 hg).1 (by omega)
    exact hKc _ _ ⟨rfl,rfl,rfl,by simp,fun k hk _=>Below.heap_alloc _ _ _ hk⟩ ⟨W2.heap.size,v,rfl,ahn W2 _,hex2 _ rfl,(Below.heap_alloc _ _ _ (Array.getElem?_eq_some_iff.1 q.rb).1).trans q.rb,hlt2⟩
   case body2 =>
    rintro l2 pre2 ⟨⟨wa,wk,wt⟩,isw⟩ a2 W2 hl2 hlr2 hZs2 ⟨v2,hII,hall⟩ ⟨b,v0,rfl,hb1,hb2,hb3,hb4⟩ hpre2 hsz2
    have hs3:K + 3 < W2.heap.size:=hZs2 _ rfl
    obtain rfl:v0 = v2:=by have:=hII.rb.symm.trans hb3; simp at this; exact this.symm
    have hbc:∀ o,W2.heap[b]? = some o->o.isCells = true:=fun o ho=>by rw [hb1] at ho; cases ho; rfl
    have hRI2:=RI.after (by omega) hK.symm q5 hII
    obtain ⟨tl,htl⟩:∃ tl,ws = pre2++((wa,wk,wt),isw) :: tl:=by obtain ⟨tl,h⟩:=hpre2; exact ⟨tl,by simpa using h.symm⟩
    have hwa:=haW ((wa,wk,wt),isw) (by rw [htl]; simp)
    dsimp only at hwa
    have wr1:wrap64 (wa + a) = wa + a:=ztX hwa.1 (zha hwa.2 hx1) q4.1 q4.2 hpl1
    obtain ⟨t0,t1,t2,u0,u1,u2⟩:=qZ hb1
    dsimp only at t0 t1 t2
    have kc:W2.cell? ⟨K,1,none⟩ = some v0/\W2.frozen? ⟨K,1,none⟩ = false:=by simp [World.cell?,World.frozen?,hb3]
    obtain ⟨kc,kf⟩:=kc
    have e5:W2.cell? ⟨N + 3,0,none⟩ = some (.int .i64 a):=by simp [World.cell?,hRI2.b5]
    have e2':W2.cell? ⟨N,0,none⟩ = some (.slice none 0 0)/\W2.frozen? ⟨N,0,none⟩ = false:=by simp [World.cell?,World.frozen?,hRI2.b2]
    have e3':W2.cell? ⟨N + 1,0,none⟩ = some (.int .i64 0)/\W2.cell? ⟨N + 1,1,none⟩ = some (.int .i64 0)/\W2.frozen? ⟨N + 1,0,none⟩ = false/\W2.frozen? ⟨N + 1,1,none⟩ = false:=by simp [World.cell?,World.frozen?,hRI2.b3]
    obtain ⟨p2,p2f⟩:=e2'
    obtain ⟨p3,p3',p3f,p3f'⟩:=e3'
    have n1:¬ b = N:=by omega
    have n2:¬ b = N + 1:=by omega
    have n3:¬ b = N + 3:=by omega
    have n4:¬ b = K:=by omega
    have n1':¬ N = b:=by omega
    have n2':¬ N + 1 = b:=by omega
    have n3':¬ N + 3 = b:=by omega
    have n4':¬ K = b:=by omega
    clear d4 f4 d5 f5 d2 f2 d3 d3' f3 f3' hplen hxl hcw hla hszW hsz2 hl2 hlr2 hZs2 hl hr0
    cases isw with
    | false =>
     have hbad:ziM ws = some (wa,wk,wt):=by rw [htl]; exact zhP _ _ hall
     rw [hbad] at q2
     have key:∀ B:World,B.heap = ((((W2.setCell ⟨b,0,none⟩ (.int .i64 (wa + a))).setCell ⟨N,0,none⟩ (.slice none 0 0)).setCell ⟨N + 1,0,none⟩ (.int .i64 3)).setCell ⟨N + 1,1,none⟩ (.int .i64 (wa + a))).heap->B.os = W2.os->B.tape = W2.tape->B.output = W2.output->_ :=
      fun B h1 h2 h3 h4=>zsB hN.symm hK.symm q5 hII hs3 hb2 hbc 3 (wa + a) h1 h2 h3 h4
     clear hM hWd hall htl q1 q3 q4 hII hRI2 hws haW hpl
     gi_wp2
     gi_region
     all_goals gi_wp2
     all_goals
      simp only [Option.some.injEq,Prod.mk.injEq] at q2
      obtain ⟨r1,r2,r3⟩:=q2
      rw [hsa,<- r2,<- r3]
      refine ⟨(key _ ?_ ?_ ?_ ?_).2.2.2,rfl,r1.symm,(key _ ?_ ?_ ?_ ?_).1,(key _ ?_ ?_ ?_ ?_).2.1,(key _ ?_ ?_ ?_ ?_).2.2.1⟩ <;> rfl
    | true =>
     obtain ⟨iW,zW,uW,hiW,hzW,hsW,hbW,hcW⟩:=zrZ
     have hown1:((W2.setCell ⟨b,0,none⟩ (.int .i64 (wa + a))).alloc (.cells #[.int .i64 (wa + a),.string ⟨wk.toArray⟩,.string ⟨wt.toArray⟩] 57)).ownsRow (K + 4) 57 3 v0 (pre2.map fun y=>shW a y.1).length (cellsW (pre2.map fun y=>shW a y.1)) :=
      yG hII.own fun g cur hg hv _=>(Below.heap_alloc _ _ _ (by simpa using (Array.getElem?_eq_some_iff.1 hg).1)).trans (Below.heap_setCell _ _ _ _ (fun e=>hb4 (by rw [hv,e])))
     have hplen2:pre2.length < 1001:=by
      have h1:=congrArg List.length htl
      have h2:=ziO hws
      simp at h1
      omega
     have hnx:=fun (v2:Value) (W3:World) (hg) (hown)=>zrs (v2:=v2) (W2:=W3) (u:=.int .i64 (wa + a)) hK.symm hII hs3 hb2 (by rw [hb1]; rfl) hbc (wa + a,wk,wt) (.cells #[.int .i64 (wa + a),.string ⟨wk.toArray⟩,.string ⟨wt.toArray⟩] 57) hg hown
     have hkk:∀ W3:World,((W2.setCell ⟨b,0,none⟩ (.int .i64 (wa + a))).alloc (.cells #[.int .i64 (wa + a),.string ⟨wk.toArray⟩,.string ⟨wt.toArray⟩] 57)).grownBy W3 v0.ownBlock->W3.heap[K]? = W2.heap[K]?:=fun W3 hg =>
      (hg.block K (by simp; omega) (fun e=>by have:=(Zj hII.own e.symm).1; omega)).trans ((Below.heap_alloc _ _ _ (by simp; omega)).trans (Below.heap_setCell _ _ _ _ (by simpa using n4')))
     have hall':∀ y ∈ pre2++[((wa,wk,wt),true)],y.2 = true:=fun y hy=>by
      rcases List.mem_append.1 hy with h | h
      ·exact hall y h
      ·simp at h; rw [h]
     have hsz9:K + 4 <= ((W2.setCell ⟨b,0,none⟩ (.int .i64 (wa + a))).alloc (.cells #[.int .i64 (wa + a),.string ⟨wk.toArray⟩,.string ⟨wt.toArray⟩] 57)).heap.size:=by simp; omega
     clear hM hWd hall htl q1 q2 q3 q4 hRI2 hws haW hpl
     gi_wp2_with (gi_at_builtin; go_loud (refine wpListIn_append_own _ rfl _ _ 54 rfl (K + 4) 57 _ zW 3 40 uW hiW hzW hsW hbW hcW (by decide) _ _ _ rfl hown1 ⟨W2.heap.size,0,none⟩ 1 1 [.int .i64 (wa + a),.string ⟨wk.toArray⟩,.string ⟨wt.toArray⟩] rfl rfl ?c1 ?c2 ?c3 ?c4 ?c5 ?_))
     try case c1=>simpa using zhQ (W2.setCell ⟨b,0,none⟩ (.int .i64 (wa + a))) (.int .i64 (wa + a)) (.string ⟨wk.toArray⟩) (.string ⟨wt.toArray⟩) 57 W2.heap.size (by simp)
     case c2=>first | (intro u hu; simp at hu; rcases hu with rfl | rfl | rfl <;> rfl) | simp [Value.oneCell']
     case c3=>first | exact zr0 hplen2 | simpa using zr0 hplen2
     case c4=>first | exact zpM hplen2 | simpa using zpM hplen2
     case c5=>first | exact hsz9 | (simp at hsz9; exact hsz9) | omega
     intro v2 W3 hown2 hg2 _
     obtain ⟨ba2,cap2,rfl⟩:=YK hown2
     have h9:=hkk W3 hg2
     have kc3:W3.cell? ⟨K,1,none⟩ = some v0/\W3.frozen? ⟨K,1,none⟩ = false:=by simp [World.cell?,World.frozen?,h9,hb3]
     obtain ⟨kc3,kf3⟩:=kc3
     obtain ⟨z1,z2⟩:=hnx _ W3 hg2 (by simpa using hown2)
     have hfin:ZI (fun k=>k = K + 3) (K + 2) W2 (W3.setCell ⟨K,1,none⟩ (.slice ba2 _ cap2))/\∃ v,II K W (W3.setCell ⟨K,1,none⟩ (.slice ba2 _ cap2)) a v ((pre2++[((wa,wk,wt),true)]).map fun y=>shW a y.1)/\∀ y ∈ pre2++[((wa,wk,wt),true)],y.2 = true :=
      ⟨z2,_,by rw [List.map_append]; exact z1,hall'⟩
     clear z1 z2 hnx hkk hown2 hg2 h9 hown1 hall' hII hb1 hb2 hb3 hb4 hs3 hwa hplen2 hsz9 hbc q5 hII0
     gi_wp2
     rw [hsa]
     exact hfin
   case done2 =>
    rintro W2 ⟨v2,hII,hall⟩
    rw [zhO hall] at q2
    dsimp only at q2
    obtain ⟨ba,cap,rfl⟩:∃ ba cap,v2 = .slice ba ws.length cap:=by
     obtain ⟨_,⟨rfl,h0⟩ | ⟨g,cap,cur,rfl,_⟩⟩:=hII.own
     ·rw [List.length_map] at h0
      exact ⟨none,0,by rw [h0]⟩
     ·exact ⟨_,_,by rw [List.length_map]⟩
    have hRI2:=RI.after (by omega) hK.symm q5 hII
    have kc:W2.cell? ⟨K,0,none⟩ = some (.int .i64 a)/\W2.cell? ⟨K,1,none⟩ = some (.slice ba ws.length cap):=by simp [World.cell?,hII.rb]
    obtain ⟨kc0,kc1⟩:=kc
    have e4:W2.cell? ⟨N + 2,0,none⟩ = some v/\W2.frozen? ⟨N + 2,0,none⟩ = false:=by simp [World.cell?,World.frozen?,hRI2.b4]
    have e5:W2.cell? ⟨N + 3,0,none⟩ = some (.int .i64 a)/\W2.frozen? ⟨N + 3,0,none⟩ = false:=by simp [World.cell?,World.frozen?,hRI2.b5]
    obtain ⟨e4,g4⟩:=e4
    obtain ⟨e5,g5⟩:=e5
    have wr1:=ztY x.size hx1
    have wr2:=ztZ x.size q4.1 q4.2 hpl1 hx1
    have hat:=zru pre x q4 hx1
    clear d4 f4 d5 f5 d2 f2 d3 d3' f3 f3' hM hWd hla hr0 hws haW hpl hl hszW
    by_cases hemp:ws = []
    ·have hl0:ws.length = 0:=by rw [hemp]; rfl
     rw [hl0] at kc1
     have hsk:=zn4 (a2:=a + ((x.size:Int) + 1)) hZ hN.symm hK.symm q5 hII
     rw [if_pos hemp] at q2
     have hfin:ZI (fun k=>k = N + 4 ∨ k = N + 5 ∨ k = N + 6) (N + 7) W (W2.setCell ⟨N + 3,0,none⟩ (.int .i64 (a + ((x.size:Int) + 1)))) /\
       ∃ (rest:List ByteArray) (o9:List (Int × List Wd)) (a2:Int) (v:Value) (vs:List Value),qA 10 S = (pre++[x])++rest/\zbB (fun l=>wsF (qR l) (wdS (qR l)) (l.length + 1) 0) (rest.map (fun x=>x.data.toList)) o9 a2 = some (out,e1,e2)/\o9.length <= (pre++[x]).length/\(0 <= a2/\a2 <= 20001 * ((pre++[x]).length:Int))/\RI N w (W2.setCell ⟨N + 3,0,none⟩ (.int .i64 (a + ((x.size:Int) + 1)))) v vs o9 a2 :=
      ⟨hsk.2,rest',o,_,v,vs,by rw [q1]; simp,q2,by rw [List.length_append]; exact Nat.le_trans q3 (Nat.le_add_right _ _),hat,hsk.1⟩
     clear hsk hemp hl0 q1 q2 q3 q4 q5 hat hall hII hRI2 hII0 hplen hxl hcw
     try clear hS; try clear hSi; try clear hpl1; try clear hx1; try clear h1000; try clear h1000i; try clear hN7; try clear hlt; try clear hbl; try clear hsa; try clear hSl; try clear hxd; try clear hbx; try clear hWp; try clear hAt; try clear hr; try clear hZ; try clear hL0; try clear hc4; try clear hf4; try clear hc5; try clear hc6; try clear hpre; try clear hpos; try clear hposi; try clear hemp; try clear hall; try clear hK; try clear hN
     gi_wp2
     rw [hsz7]
     exact hfin
    ·have hpos:0 < ws.length:=List.length_pos_iff.2 hemp
     have hposi:(0:Int) < (ws.length:Int):=zgh hpos
     obtain ⟨iR,zR,uR,hiR,hzR,hsR,hbR,hcR⟩:=zpJ
     rw [if_neg hemp] at q2
     have hown1:(W2.alloc (.cells #[.int .i64 a,.slice ba ws.length cap] 72)).ownsRow (N + 7) 72 2 v o.length (Ze o vs):=yG hRI2.own fun g cur hg _ _=>Below.heap_alloc _ _ _ (Array.getElem?_eq_some_iff.1 hg).1
     have hnx:=fun (vo2:Value) (W3:World) (hg) (hown)=>zn5 (vo2:=vo2) (W2:=W3) (a2:=a + ((x.size:Int) + 1)) hZ hN.symm hK.symm q5 hII (.cells #[.int .i64 a,.slice ba ws.length cap] 72) hg hown
     have hol:o.length < 20002:=Nat.lt_succ_of_le (Nat.le_trans q3 hpl1)
     have hkk:∀ W3:World,(W2.alloc (.cells #[.int .i64 a,.slice ba ws.length cap] 72)).grownBy W3 v.ownBlock->W3.heap[N + 2]? = W2.heap[N + 2]?/\W3.heap[N + 3]? = W2.heap[N + 3]?:=fun W3 hg=>zlR hRI2.size hRI2.own hg
     have hsz9:N + 7 <= (W2.alloc (.cells #[.int .i64 a,.slice ba ws.length cap] 72)).heap.size:=zrv hRI2.size _
     have hq1:qA 10 S = (pre++[x])++rest':=by rw [q1]; simp
     have hol2:(o++[(a,ws.map fun y=>shW a y.1)]).length <= (pre++[x]).length:=by rw [List.length_append,List.length_append]; exact Nat.add_le_add_right q3 1
     clear q1 q3 q4 q5 hII hRI2 hII0 hplen hxl hcw
     gi_wp2_with (gi_at_builtin; go_loud (refine wpListIn_append_own _ rfl _ _ 68 rfl (N + 7) 72 _ zR 2 32 uR hiR hzR hsR hbR hcR (by decide) _ _ _ rfl hown1 ⟨W2.heap.size,0,none⟩ 1 1 [.int .i64 a,.slice ba ws.length cap] rfl rfl ?d1 ?d2 ?d3 ?d4 ?d5 ?_))
     try case d1=>simpa using zd2 W2 (.int .i64 a) (.slice ba ws.length cap) 72 W2.heap.size rfl
     case d2=>first | (intro u hu; simp at hu; rcases hu with rfl | rfl <;> rfl) | simp [Value.oneCell']
     case d3=>exact zty hol
     case d4=>exact zsF hol
     case d5=>first | exact hsz9 | (simp at hsz9; omega)
     intro vo2 W3 hown2 hg2 _
     obtain ⟨ba2,cap2,rfl⟩:=YK hown2
     obtain ⟨h9,h9'⟩:=hkk W3 hg2
     have k4:W3.cell? ⟨N + 2,0,none⟩ = some v/\W3.frozen? ⟨N + 2,0,none⟩ = false:=⟨(cell_of_heap h9).trans e4,(frozen_of_heap h9).trans g4⟩
     have k5:W3.cell? ⟨N + 3,0,none⟩ = some (.int .i64 a)/\W3.frozen? ⟨N + 3,0,none⟩ = false:=⟨(cell_of_heap h9').trans e5,(frozen_of_heap h9').trans g5⟩
     obtain ⟨k4,k4f⟩:=k4
     obtain ⟨k5,k5f⟩:=k5
     obtain ⟨z1,z2⟩:=hnx _ W3 hg2 hown2
     have hfin:ZI (fun k=>k = N + 4 ∨ k = N + 5 ∨ k = N + 6) (N + 7) W ((W3.setCell ⟨N + 2,0,none⟩ (.slice ba2 (o.length + 1) cap2)).setCell ⟨N + 3,0,none⟩ (.int .i64 (a + ((x.size:Int) + 1)))) /\
       ∃ (rest:List ByteArray) (o9:List (Int × List Wd)) (a2:Int) (v:Value) (vs:List Value),qA 10 S = (pre++[x])++rest/\zbB (fun l=>wsF (qR l) (wdS (qR l)) (l.length + 1) 0) (rest.map (fun x=>x.data.toList)) o9 a2 = some (out,e1,e2)/\o9.length <= (pre++[x]).length/\(0 <= a2/\a2 <= 20001 * ((pre++[x]).length:Int))/\RI N w ((W3.setCell ⟨N + 2,0,none⟩ (.slice ba2 (o.length + 1) cap2)).setCell ⟨N + 3,0,none⟩ (.int .i64 (a + ((x.size:Int) + 1)))) v vs o9 a2 :=
      ⟨z2,rest',_,_,_,_,hq1,q2,hol2,hat,z1⟩
     clear z1 z2 hnx hkk hown2 hg2 h9 h9' hown1 hsz9 hq1 q2 hol2 hat hol
     try clear hS; try clear hSi; try clear hpl1; try clear hx1; try clear h1000; try clear h1000i; try clear hN7; try clear hlt; try clear hbl; try clear hsa; try clear hSl; try clear hxd; try clear hbx; try clear hWp; try clear hAt; try clear hr; try clear hZ; try clear hL0; try clear hc4; try clear hf4; try clear hc5; try clear hc6; try clear hpre; try clear hpos; try clear hposi; try clear hemp; try clear hall; try clear hK; try clear hN
     gi_wp2
     rw [hsz7]
     exact hfin
   case stop2 =>
    rintro c pre2 W2 ⟨rfl,g2,g3,g4,g5⟩
    gi_wp2
    rw [hsz7]
    exact ⟨zgd hK.symm hZ fun k ob ho hc=>g4 k hc.1 (by have:=(Array.getElem?_eq_some_iff.1 ho).1; omega),rfl,g2,g3⟩
 case done =>
  rintro D W hD ⟨rest,o,a,v,vs,q1,q2,q3,q4,q5⟩ hKd
  obtain rfl:rest = []:=by simpa using q1
  simp only [List.map_nil,zbB,Option.some.injEq,Prod.mk.injEq] at q2
  obtain ⟨rfl,rfl,rfl⟩:=q2
  obtain ⟨bv,cv,rfl⟩:=YK q5.own
  have d4:W.cell? ⟨N + 2,0,none⟩ = some (.slice bv o.length cv):=by simp [World.cell?,q5.b4]
  have d2:W.cell? ⟨N,0,none⟩ = some (.slice none 0 0)/\W.frozen? ⟨N,0,none⟩ = false:=by simp [World.cell?,World.frozen?,q5.b2]
  have d3:W.cell? ⟨N + 1,0,none⟩ = some (.int .i64 0)/\W.cell? ⟨N + 1,1,none⟩ = some (.int .i64 0)/\W.frozen? ⟨N + 1,0,none⟩ = false/\W.frozen? ⟨N + 1,1,none⟩ = false:=by simp [World.cell?,World.frozen?,q5.b3]
  obtain ⟨d2,f2⟩:=d2
  obtain ⟨d3,d3',f3,f3'⟩:=d3
  clear hM hWd hr q1 q3 q4
  gi_wp2
  obtain ⟨r0,r1,r2,r4⟩:=zpL q5 0 0
  have hK':=(r4 D (by omega)).trans hKd
  obtain ⟨l0,l1,l2⟩:=zpK (D:=D) (by omega) r0 r1
  refine ⟨by simp,.inl ⟨_,_,rfl,run_takeDeferred hK',?_⟩⟩
  refine ⟨.tuple #[.slice bv o.length cv,.agg #[.int .i64 0,.int .i64 0]],?_,_,vs,rfl,?_,?_,q5.len,?_⟩
  ·simp [results,Tryz.f29,go_sem,l0,l1,l2]
  ·rw [hN]; exact zgg r2 (by omega) _
  ·rw [hN]; exact Y4 (zkt (yG q5.own fun g _ _ _ hge=>r4 g (by omega)) hK' rfl _) (by omega)
  ·intro i b ws u h1 h2
   rw [hN]; exact Y4 (zkt (yG (q5.rows i b ws u h1 h2) fun g _ _ _ hge=>r4 g (by omega)) hK' rfl _) (by omega)
 case stop =>
  rintro D c pre W hD ⟨rfl,rfl,q2⟩ hKd
  clear hM hWd hr
  gi_wp2
  obtain ⟨l0,l1,l2⟩:=zpK (D:=D) (by omega) q2.b2 q2.b3
  refine ⟨by simp,.inl ⟨_,_,rfl,run_takeDeferred hKd,?_⟩⟩
  refine ⟨.tuple #[.slice none 0 0,.agg #[.int .i64 e1,.int .i64 e2]],?_,.slice none 0 0,[],rfl,?_,World.ownsRow_nil _ _ _ _,rfl,fun i b ws u h=>by simp at h⟩
  ·simp [results,Tryz.f29,go_sem,l0,l1,l2]
  ·rw [hN]; exact zgg q2.bel (by omega) _
end Go.Seq
