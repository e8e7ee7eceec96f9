import Derived.RangeFuncNested
import Derived.RangeFuncBound
import Derived.RangeFuncCalls
import Derived.RangeFuncLeaves
import Derived.Shelf.Abstract
import Derived.Shelf.RegionOpen
import Derived.WalkKit
import Derived.OwnWalkIn
import Derived.TacticsInMore
import Derived.LoopNIn
import Derived.LoopIn
import Derived.Lib.IndexLaws
import Derived.Test.YtjcbpfhlgebgdaaGreatDoorPLayP
import Derived.Test.YtjcbpfhlgebgdaaGreatDoorChecked
import Derived.Test.YtjcbpfhlgebgdaaGreatDoorRS2
import Derived.Shelf.Strings.BuilderK
set_option linter.unusedSimpArgs false
set_option linter.unusedVariables false
namespace Go.Seq
open Go.RowKit Go.Shelf Go.Proofs
attribute [local go_sem] Oper.semAt_some
def yF (c:UInt8):List UInt8->List (List UInt8)
 | []=>[[]]
 | x :: s=>if x = c then [] :: yF c s else match yF c s with
  | p :: ps=>(x :: p) :: ps
  | []=>[[x]]
def qR (l:List UInt8):ByteArray:=⟨l.toArray⟩
def qA (c:UInt8) (S:ByteArray):List ByteArray:=(yF c S.data.toList).map qR
theorem zeD {c:UInt8}:∀ {l:List UInt8},Lib.indexByte l c = -1->yF c l = [l]
 | [],_=>rfl
 | x :: l,h=>by
  unfold Lib.indexByte at h
  split at h
  ·cases h
  ·rename_i hx
   split at h
   ·rename_i h1
    have:=zeD (l:=l) (by simpa using h1)
    unfold yF
    rw [if_neg (by simpa using hx),this]
   ·have:=Lib.indexByte_ge l c
    omega
theorem zeE {c:UInt8}:∀ {l:List UInt8} {o:Nat},Lib.indexByte l c = o->yF c l = l.take o :: yF c (l.drop (o + 1))/\o < l.length
 | [],o,h=>by simp [Lib.indexByte] at h
 | x :: l,o,h=>by
  unfold Lib.indexByte at h
  split at h
  ·rename_i hx
   have:o = 0:=by omega
   subst this
   refine ⟨?_,by simp⟩
   conv=>lhs; unfold yF
   rw [if_pos (by simpa using hx)]
   rfl
  ·rename_i hx
   split at h
   ·omega
   ·rename_i h1
    have hge:=Lib.indexByte_ge l c
    have h1':Lib.indexByte l c ≠ -1:=by simpa using h1
    obtain ⟨o',rfl⟩:∃ o',o = o' + 1:=⟨o - 1,by omega⟩
    obtain ⟨q1,q2⟩:=zeE (l:=l) (c:=c) (o:=o') (by omega)
    refine ⟨?_,by simp; omega⟩
    conv=>lhs; unfold yF
    rw [if_neg (by simpa using hx),q1]
    rfl
theorem ziL (S:ByteArray):qR S.data.toList = S:=by cases S; rfl
theorem ztV (T:ByteArray) (o:Nat):T.extract 0 o = qR (T.data.toList.take o):=by
 apply ByteArray.ext
 rw [<- Array.toList_inj]
 simp [qR]
theorem ztW (T:ByteArray) (o:Nat):T.extract o T.size = qR (T.data.toList.drop o):=by
 apply ByteArray.ext
 rw [<- Array.toList_inj]
 have e:T.data.toList.length = T.size:=Array.length_toList
 simp only [qR,ByteArray.data_extract,Array.toList_extract,List.extract_eq_take_drop]
 exact List.take_of_length_le (by rw [List.length_drop]; omega)
theorem cell_of_heap {A B:World} {b:Nat} (h:B.heap[b]? = A.heap[b]?):B.cell? ⟨b,0,none⟩ = A.cell? ⟨b,0,none⟩:=by simp [World.cell?,h]
theorem frozen_of_heap {A B:World} {b:Nat} (h:B.heap[b]? = A.heap[b]?):B.frozen? ⟨b,0,none⟩ = A.frozen? ⟨b,0,none⟩:=by simp [World.frozen?,h]
set_option maxHeartbeats 8000000 in
theorem zn1 {m:Nat} (bsep bs bsave l:Nat) (c:UInt8) (S:ByteArray) (hS:S.size < 4294967281) (J Jx:List ByteArray->World->Prop) (W:World)
  (hd:bs ≠ bsep/\bs ≠ bsave) (hJ:∀ s A B,J s A->Zq (fun k=>k = bs) A B->J s B)
  (h1:W.cell? ⟨bsep,0,none⟩ = some (.string ⟨#[c]⟩)) (h2:W.cell? ⟨bs,0,none⟩ = some (.string S)) (hf:W.frozen? ⟨bs,0,none⟩ = false) (h3:W.cell? ⟨bsave,0,none⟩ = some (.int .i64 0)) (h0:J [] W)
  (hY:∀ pre x W1,J pre W1->pre++[x] <+: qA c S->YieldAt Fence.wide m Tryz.prog l #[.string x] W1 fun e W' =>
   (e = .returned (.bool true)/\J (pre++[x]) W'/\∀ k,(k = bs ∨ k = bsep ∨ k = bsave)->W'.heap[k]? = W1.heap[k]?) ∨ (e = .returned (.bool false)/\Jx (pre++[x]) W')) :
  CallsIn Fence.wide (m + 1) Tryz.prog 119 #[.func (.yield l) #[] #[],.pointer (some ⟨bsep,0,none⟩),.pointer (some ⟨bs,0,none⟩),.pointer (some ⟨bsave,0,none⟩)] W fun e W'=>(∃ v,e = .returned v)/\(J (qA c S) W' ∨ ∃ pre,Jx pre W'):=by
 refine callsIn_of_wp Tryz.func119 rfl trivial ?_ rfl
 simp only [Tryz.ntmps119,List.size_toArray,List.length_cons,List.length_nil,Nat.reduceAdd,Nat.reduceSub,Array.replicate_succ,Array.replicate_zero,List.push_toArray,List.append_toArray,List.nil_append,List.cons_append]
 gi_wp2
 gi_loopw [] (fun wr=>∃ (pre:List ByteArray) (T:ByteArray),qA c S = pre++qA c T/\T.size <= S.size/\wr.cell? ⟨bsep,0,none⟩ = some (.string ⟨#[c]⟩)/\wr.cell? ⟨bs,0,none⟩ = some (.string T)/\wr.frozen? ⟨bs,0,none⟩ = false/\wr.cell? ⟨bsave,0,none⟩ = some (.int .i64 0)/\J pre wr)
  (fun wr=>match wr.cell? ⟨bs,0,none⟩ with | some (.string s)=>s.size | _=>0)
 case atStart =>
  exact ⟨[],S,rfl,Nat.le_refl _,h1,h2,hf,h3,h0⟩
 case round =>
  obtain ⟨pre,T,hx,hT,k1,k2,k3,k4,k5⟩:=hrel
  have hge:=Lib.indexByte_ge T.data.toList c
  by_cases hi:Lib.indexByte T.data.toList c = -1
  ·have hpc:qA c T = [T]:=by unfold qA; rw [zeD hi]; simp [ziL]
   rw [hpc] at hx
   obtain ⟨fn,tmps,assign,body,hy,hR⟩:=hY pre T wr k5 (by rw [hx]; exact List.prefix_refl _)
   gi_wp2_with (refine ⟨trivial,?_⟩; gi_at_call 121; refine (callsIn_wide.2 (Any.strings_Index_one Tryz.indexI T c _)).mono ?_; rintro e w' ⟨rfl,rfl⟩; rw [hi])
   refine hR.mono ?_
   rintro e W' (⟨rfl,hJ',hk⟩ | ⟨rfl,hJx'⟩)
   ·gi_wp2
    go_end0
    refine ⟨⟨_,rfl⟩,.inl ?_⟩
    rw [hx]; exact hJ'
   ·gi_wp2
    go_end0
    exact ⟨⟨_,rfl⟩,.inr ⟨_,hJx'⟩⟩
  ·obtain ⟨o,ho⟩:∃ o:Nat,Lib.indexByte T.data.toList c = o:=⟨(Lib.indexByte T.data.toList c).toNat,by omega⟩
   obtain ⟨q1,q2⟩:=zeE ho
   have hpc:qA c T = T.extract 0 o :: qA c (T.extract (o + 1) T.size):=by
    unfold qA
    rw [q1,ztV,ztW]
    rfl
   rw [hpc] at hx
   obtain ⟨fn,tmps,assign,body,hy,hR⟩:=hY pre (T.extract 0 o) wr k5 (by rw [hx]; exact ⟨qA c (T.extract (o + 1) T.size),by simp⟩)
   have hTl:T.data.toList.length = T.size:=Array.length_toList
   have i1:¬ ((o:Int) < 0):=by omega
   have i2:(o:Int) <= (T.size:Int):=by omega
   have i3:wrap64 (o:Int) = (o:Int):=IntWalk.wrap64_in _ (by omega)
   have i4:wrap64 ((o:Int) + 1) = ((o + 1:Nat):Int):=by rw [IntWalk.wrap64_in _ (by omega)]; omega
   gi_wp2_with (refine ⟨trivial,?_⟩; gi_at_call 121; refine (callsIn_wide.2 (Any.strings_Index_one Tryz.indexI T c _)).mono ?_; rintro e w' ⟨rfl,rfl⟩; rw [ho])
   refine hR.mono ?_
   rintro e W' (⟨rfl,hJ',hk⟩ | ⟨rfl,hJx'⟩)
   ·have c1:=(cell_of_heap (hk bsep (.inr (.inl rfl)))).trans k1
    have c2:=(cell_of_heap (hk bs (.inl rfl))).trans k2
    have c3:=(frozen_of_heap (hk bs (.inl rfl))).trans k3
    have c4:=(cell_of_heap (hk bsave (.inr (.inr rfl)))).trans k4
    have hs1:(⟨#[c]⟩:ByteArray).size = 1:=rfl
    gi_wp2
    have hg:=grownBy_setCell' W' bs (.string (T.extract (o + 1) T.size))
    have hlt:∀ b v,W'.cell? ⟨b,0,none⟩ = some v->b < W'.heap.size:=fun b v h=>World.block_lt_of_cell? W' _ h
    have hne1:some bsep ≠ some bs:=fun e=>hd.1 (by cases e; rfl)
    have hne2:some bsave ≠ some bs:=fun e=>hd.2 (by cases e; rfl)
    have hcs:(W'.setCell ⟨bs,0,none⟩ (.string (T.extract (o + 1) T.size))).cell? ⟨bs,0,none⟩ = some (.string (T.extract (o + 1) T.size)):=World.cell?_setCell_same' _ _ _ (by rw [c2]; rfl)
    have hsz:(T.extract (o + 1) T.size).size < T.size:=by rw [ByteArray.size_extract]; omega
    refine ⟨⟨pre++[T.extract 0 o],T.extract (o + 1) T.size,by rw [hx]; simp,by omega,(cell_of_heap (hg.block bsep (hlt _ _ c1) hne1)).trans c1,hcs,by rw [World.frozen?_setCell]; exact c3,
     (cell_of_heap (hg.block bsave (hlt _ _ c4) hne2)).trans c4,hJ _ _ _ hJ' ⟨hg.os,hg.tape,hg.output,hg.size,fun k hk' hne=>hg.block k hk' (fun e=>hne (by cases e; rfl))⟩⟩,?_⟩
    rw [hcs,k2]
    exact hsz
   ·gi_wp2
    refine bodyPost_ret (results_none rfl _ _ _) rfl ?_
    exact ⟨⟨_,rfl⟩,.inr ⟨_,hJx'⟩⟩
theorem zn2 {m:Nat} {bsep bs bsave:Nat} {c:UInt8} {S:ByteArray} (hS:S.size < 4294967281) {w:World} (hd:bs ≠ bsep/\bs ≠ bsave)
  (h1:w.cell? ⟨bsep,0,none⟩ = some (.string ⟨#[c]⟩)) (h2:w.cell? ⟨bs,0,none⟩ = some (.string S)) (hf:w.frozen? ⟨bs,0,none⟩ = false) (h3:w.cell? ⟨bsave,0,none⟩ = some (.int .i64 0)) :
  zrr Fence.wide (m + 1) Tryz.prog 119 #[.pointer (some ⟨bsep,0,none⟩),.pointer (some ⟨bs,0,none⟩),.pointer (some ⟨bsave,0,none⟩)] (fun x:ByteArray=>#[.string x]) (fun k=>k = bs ∨ k = bsep ∨ k = bsave) (qA c S) w:=by
 intro l J Jx hJ _ W hW hY h0
 have hlt:∀ b v,w.cell? ⟨b,0,none⟩ = some v->W.heap[b]? = w.heap[b]?:=fun b v h=>hW.block b (World.block_lt_of_cell? w _ h) (fun q=>q)
 exact zn1 bsep bs bsave l c S hS J Jx W hd (fun s A B hs hm=>hJ s A B hs ⟨hm.os,hm.tape,hm.output,hm.size,fun k hk hz=>hm.block k hk fun e=>hz (.inl e)⟩)
  ((cell_of_heap (hlt _ _ h1)).trans h1) ((cell_of_heap (hlt _ _ h2)).trans h2) ((frozen_of_heap (hlt _ _ h2)).trans hf) ((cell_of_heap (hlt _ _ h3)).trans h3) h0 hY
theorem pieces_len (c:UInt8):∀ l:List UInt8,(yF c l).length <= l.length + 1/\1 <= (yF c l).length/\∀ p ∈ yF c l,p.length <= l.length
 | []=>by simp [yF]
 | x :: l=>by
  obtain ⟨h1,h2,h3⟩:=pieces_len c l
  unfold yF
  split
  ·refine ⟨by simp; omega,by simp,fun p hp=>?_⟩
   rcases List.mem_cons.1 hp with rfl | hp
   ·simp
   ·have:=h3 p hp; simp; omega
  ·split
   ·rename_i p ps hq
    rw [hq] at h1 h2 h3
    refine ⟨by simpa using Nat.le_succ_of_le h1,by simp,fun q hq'=>?_⟩
    rcases List.mem_cons.1 hq' with rfl | hq'
    ·have:=h3 p (by simp); simp; omega
    ·have:=h3 q (by simp [hq']); simp; omega
   ·exact ⟨by simp,by simp,fun p hp=>by simp at hp; subst hp; simp⟩
end Go.Seq
namespace Go.Seq
open Go.RowKit Go.Shelf Go.Proofs
structure Fr (s:Nat) (A B:World):Prop where
 os:B.os = A.os
 tape:B.tape = A.tape
 output:B.output = A.output
 size:A.heap.size <= B.heap.size
 block:∀ k,k < A.heap.size->k ≠ s->B.heap[k]? = A.heap[k]?
theorem Fr.refl (s:Nat) (A:World):Fr s A A:=⟨rfl,rfl,rfl,Nat.le_refl _,fun _ _ _=>rfl⟩
theorem Fr.trans {s:Nat} {A B C:World} (h:Fr s A B) (k:Fr s B C):Fr s A C :=
 ⟨k.os.trans h.os,k.tape.trans h.tape,k.output.trans h.output,Nat.le_trans h.size k.size,fun i hi hn=>(k.block i (Nat.lt_of_lt_of_le hi h.size) hn).trans (h.block i hi hn)⟩
theorem Fr.of_below {s B:Nat} {A C:World} (h:Below B A C) (hB:A.heap.size <= B):Fr s A C:=⟨h.os,h.tape,h.output,Nat.le_trans (by omega) h.size,fun k hk _=>h.block k (by omega)⟩
structure FrB (s:Nat) (w A B:World):Prop where
 os:B.os = A.os
 tape:B.tape = A.tape
 output:B.output = A.output
 size:A.heap.size <= B.heap.size
 block:∀ k,k < w.heap.size->k ≠ s->B.heap[k]? = A.heap[k]?
theorem Fr.transB {s:Nat} {w A B:World} (h:Fr s w A) (k:FrB s w A B):Fr s w B :=
 ⟨k.os.trans h.os,k.tape.trans h.tape,k.output.trans h.output,Nat.le_trans h.size k.size,fun i hi hn=>(k.block i hi hn).trans (h.block i hi hn)⟩
theorem Fr.of_below' {s B:Nat} {w A C:World} (h:Below B A C) (hB:w.heap.size <= B):FrB s w A C:=⟨h.os,h.tape,h.output,h.size,fun k hk _=>h.block k (by omega)⟩
def Bx (s:Nat) (S:ByteArray) (W:World) (p:Int):Prop:=W.heap[s]? = some (.cells #[.string S,.int .i64 p] 164 (0,0))
def qF (len:Int) (nx:Int->Option (Int × Int)) (es:Int->Option ((Int × Bool) × Int)):Nat->List UInt8->Int->Option ((List UInt8 × Bool) × Int)
 | 0,_,_=>none
 | k + 1,acc,p=>if p < len then (nx p).bind fun r =>
   if r.1 = 34 then some ((acc,true),r.2)
   else if r.1 = 92 then (es r.2).bind fun e=>if e.1.2 then qF len nx es k (acc++[UInt8.ofNat e.1.1.toNat]) e.2 else some (([],false),e.2)
   else if 32 <= r.1/\r.1 < 127 then qF len nx es k (acc++[UInt8.ofNat r.1.toNat]) r.2 else some (([],false),r.2)
  else some (([],false),p)
theorem zcC {s N:Nat} {bs:List Value} {A B:World} (h:Lib.IsBuilderF 51 5 N N bs A) (hf:Fr s A B) (hs:s < N):Lib.IsBuilderF 51 5 N N bs B:=by
 have key:∀ p,Lib.BuilderAtF 51 5 N N p bs A->Lib.BuilderAtF 51 5 N N p bs B:=by
  rintro p ⟨h1,v,h2,⟨hl,h0 | ⟨g,cap,cur,fz,hv,hb,hg,r⟩⟩,h4⟩
  ·exact ⟨h1,v,(hf.block N (Array.getElem?_eq_some_iff.1 h2).1 (by omega)).trans h2,⟨hl,.inl h0⟩,h4⟩
  ·exact ⟨h1,v,(hf.block N (Array.getElem?_eq_some_iff.1 h2).1 (by omega)).trans h2,⟨hl,.inr ⟨g,cap,cur,fz,hv,hb,(hf.block g (Array.getElem?_eq_some_iff.1 hg).1 (by omega)).trans hg,r⟩⟩,h4⟩
 exact h.imp (key _) (key _)
theorem ZO {s:Nat} {S:ByteArray} {A B:World} {p:Int} (h:Bx s S A p) {N:Nat} (hb:Below N A B) (hs:s < N):Bx s S B p:=(hb.block s hs).trans h
theorem qB {s:Nat} {S:ByteArray} {A:World} {p:Int} (h:Bx s S A p):A.cell? ⟨s,1,none⟩ = some (.int .i64 p):=by
 have h':A.heap[s]? = some (.cells #[.string S,.int .i64 p] 164 (0,0)):=h
 simp [World.cell?,h']
theorem zgb (acc:List UInt8) {c:Int} (h0:0 <= c) (h1:c < 256):Lib.byteCells (acc++[UInt8.ofNat c.toNat]) = Lib.byteCells acc++[.int .u8 c]:=by
 have:((UInt8.ofNat c.toNat).toNat:Int) = c:=by rw [UInt8.toNat_ofNat']; omega
 simp only [Lib.byteCells,List.map_append,List.map_cons,List.map_nil]
 rw [this]
theorem zgc:Go.Proofs.Builder.Extra Tryz.prog Tryz.bsI_ren where
 sizeBuilder:=by kernel_rfl
 liesBuilder:=by kernel_rfl
 t5:=Tryz.underlying5
 a5:=Tryz.isAgg5
 z5:=Tryz.sizeOf5
 v5:=Tryz.zeroValue5
 infoByte:=by kernel_rfl
 cellsByte:=by kernel_rfl
 sizeByte:=by kernel_rfl
 neB5:=by decide
theorem zkn:Go.Proofs.Builder.Extra Tryz.prog Tryz.wbI_ren where
 sizeBuilder:=by kernel_rfl
 liesBuilder:=by kernel_rfl
 t5:=Tryz.underlying5
 a5:=Tryz.isAgg5
 z5:=Tryz.sizeOf5
 v5:=Tryz.zeroValue5
 infoByte:=by kernel_rfl
 cellsByte:=by kernel_rfl
 sizeByte:=by kernel_rfl
 neB5:=by decide
set_option maxRecDepth 20000 in
set_option maxHeartbeats 8000000 in
theorem zn3 (s:Nat) (S:ByteArray) (len:Int) (hlen:len = S.size) (nx:Int->Option (Int × Int)) (es:Int->Option ((Int × Bool) × Int)) (w:World) (hsw:s < w.heap.size)
  (hM:∀ W p,Fr s w W->Bx s S W p->Calls Tryz.prog 99 #[.pointer (some ⟨s,0,none⟩)] W fun e W'=>e = .returned (.bool (decide (p < len)))/\Bx s S W' p/\Fr s W W')
  (hN:∀ W p c p',Fr s w W->Bx s S W p->nx p = some (c,p')->Calls Tryz.prog 156 #[.pointer (some ⟨s,0,none⟩)] W fun e W'=>e = .returned (.int .u8 c)/\Bx s S W' p'/\Fr s W W')
  (hE:∀ W p c b p',Fr s w W->Bx s S W p->es p = some ((c,b),p')->Calls Tryz.prog 155 #[.pointer (some ⟨s,0,none⟩)] W fun e W'=>e = .returned (.tuple #[.int .u8 c,.bool b])/\Bx s S W' p'/\Fr s W W')
  (hNp:∀ p c p',p < len->nx p = some (c,p')->p < p'/\p' <= len/\0 <= c/\c < 256) (hEp:∀ p c b p',es p = some ((c,b),p')->p <= len->p <= p'/\p' <= len/\0 <= c/\c < 256)
  (hS:S.size <= 1000000) (p0:Int) (hp0:0 <= p0/\p0 <= len) (h0:Bx s S w p0) (k:Nat) (acc:List UInt8) (ok:Bool) (p1:Int) (hq:qF len nx es k [] p0 = some ((acc,ok),p1)) :
  Calls Tryz.prog 139 #[.pointer (some ⟨s,0,none⟩)] w fun e W'=>e = .returned (.tuple #[.string ⟨acc.toArray⟩,.bool ok])/\Bx s S W' p1/\Fr s w W':=by
 go_enter Tryz.func139,Tryz.ntmps139
 go_wp2
 obtain ⟨N,hN0⟩:∃ N,w.heap.size = N:=⟨_,rfl⟩
 simp only [hN0]
 go_loopw [] (fun wr=>∃ (k:Nat) (acc':List UInt8) (p:Int),Bx s S wr p/\qF len nx es k acc' p = some ((acc,ok),p1)/\Lib.IsBuilderF 51 5 N N (Lib.byteCells acc') wr/\Fr s w wr/\N + 1 <= wr.heap.size/\(acc'.length:Int) <= p/\p <= len)
  (fun wr=>match wr.cell? ⟨s,1,none⟩ with | some (.int _ p)=>(len - p).toNat | _=>0)
 case atStart =>
  have hsz:(w.alloc (.cells #[.pointer none,.slice none 0 0] 51)).heap.size = N + 1:=by simp [hN0]
  refine ⟨k,[],p0,(Below.heap_alloc _ _ _ hsw).trans h0,hq,by rw [<- hN0]; exact Lib.IsBuilderF.of (Lib.fresh_isBuilder _ _ _),⟨rfl,rfl,rfl,by omega,fun j hj _=>Below.heap_alloc _ _ _ hj⟩,by omega,by simpa using hp0.1,hp0.2⟩
 case round =>
  obtain ⟨k',acc',p,i1,i2,i3,i4,i5,i6,i7⟩:=hrel
  have hcell:=qB i1
  by_cases hpl:p < len
  ·cases k' with
   | zero=>cases i2
   | succ k' =>
   rw [qF,if_pos hpl] at i2
   cases hnx:nx p with
   | none=>rw [hnx] at i2; cases i2
   | some r =>
   obtain ⟨c,p'⟩:=r
   rw [hnx] at i2
   simp only [Option.bind_some] at i2
   obtain ⟨n1,n2,n3,n4⟩:=hNp p c p' hpl hnx
   by_cases h34:c = 34
   ·rw [if_pos h34] at i2
    go_wp2_with (first
     | (go_at_call 99; refine (hM wr p i4 i1).mono ?_; rintro e W1 ⟨rfl,x1,x2⟩; rw [decide_eq_true hpl])
     | (go_at_call 156; refine (hN W1 p c p' (i4.trans x2) x1 hnx).mono ?_; rintro e W2 ⟨rfl,y1,y2⟩; have i3':=zcC (zcC i3 x2 (by omega)) y2 (by omega); have z2:=x2.size; have z3:=y2.size)
     | (go_at_call 26; refine (Any.Builder_String_any_k Tryz.bsI zgc N N acc' W2 i3' (by omega)).mono ?_; rintro e W3 ⟨rfl,v1,v2,v3⟩))
    simp only [Option.some.injEq,Prod.mk.injEq] at i2
    obtain ⟨⟨rfl,rfl⟩,rfl⟩:=i2
    go_ret2
    exact ⟨rfl,ZO y1 v2 (by omega),((i4.trans x2).trans y2).transB (Fr.of_below' v2 (by omega))⟩
   ·rw [if_neg h34] at i2
    by_cases h92:c = 92
    ·rw [if_pos h92] at i2
     cases hes:es p' with
     | none=>rw [hes] at i2; cases i2
     | some e =>
     obtain ⟨⟨d,b⟩,p2⟩:=e
     rw [hes] at i2
     simp only [Option.bind_some] at i2
     obtain ⟨m1,m2,m3,m4⟩:=hEp p' d b p2 hes (by omega)
     cases b with
     | true =>
      rw [if_pos rfl] at i2
      go_wp2_with (first
       | (go_at_call 99; refine (hM wr p i4 i1).mono ?_; rintro e W1 ⟨rfl,x1,x2⟩; rw [decide_eq_true hpl])
       | (go_at_call 156; refine (hN W1 p c p' (i4.trans x2) x1 hnx).mono ?_; rintro e W2 ⟨rfl,y1,y2⟩; have i3':=zcC (zcC i3 x2 (by omega)) y2 (by omega); have z2:=x2.size; have z3:=y2.size)
       | (go_at_call 155; refine (hE W2 p' d true p2 ((i4.trans x2).trans y2) y1 hes).mono ?_; rintro e W4 ⟨rfl,q1,q2⟩; have i3'':=zcC i3' q2 (by omega); have z4:=q2.size)
       | (go_at_call 23; refine (Any.Builder_WriteByte_k Tryz.wbI zkn N N (Lib.byteCells acc') d W4 i3'' (by rw [Lib.byteCells_length]; omega) (by omega)).mono ?_; rintro e W3 ⟨rfl,v1,v2,v3⟩))
      go_roundw
      case rel =>
       exact ⟨k',acc'++[UInt8.ofNat d.toNat],p2,ZO q1 v2 (by omega),i2,by rw [zgb _ m3 m4]; exact .inr v1,(((i4.trans x2).trans y2).trans q2).transB (Fr.of_below' v2 (by omega)),by have:=v2.size; omega,by simp; omega,m2⟩
      case measure =>
       rw [hcell,qB (ZO q1 v2 (by omega))]
       show (len - p2).toNat < (len - p).toNat
       omega
     | false =>
      rw [if_neg (by simp)] at i2
      go_wp2_with (first
       | (go_at_call 99; refine (hM wr p i4 i1).mono ?_; rintro e W1 ⟨rfl,x1,x2⟩; rw [decide_eq_true hpl])
       | (go_at_call 156; refine (hN W1 p c p' (i4.trans x2) x1 hnx).mono ?_; rintro e W2 ⟨rfl,y1,y2⟩)
       | (go_at_call 155; refine (hE W2 p' d false p2 ((i4.trans x2).trans y2) y1 hes).mono ?_; rintro e W4 ⟨rfl,q1,q2⟩))
      simp only [Option.some.injEq,Prod.mk.injEq] at i2
      obtain ⟨⟨rfl,rfl⟩,rfl⟩:=i2
      go_ret2
      exact ⟨rfl,q1,((i4.trans x2).trans y2).trans q2⟩
    ·rw [if_neg h92] at i2
     by_cases hpr:32 <= c/\c < 127
     ·rw [if_pos hpr] at i2
      obtain ⟨hp1,hp2⟩:=hpr
      go_wp2_with (first
       | (go_at_call 99; refine (hM wr p i4 i1).mono ?_; rintro e W1 ⟨rfl,x1,x2⟩; rw [decide_eq_true hpl])
       | (go_at_call 156; refine (hN W1 p c p' (i4.trans x2) x1 hnx).mono ?_; rintro e W2 ⟨rfl,y1,y2⟩; have i3':=zcC (zcC i3 x2 (by omega)) y2 (by omega); have z2:=x2.size; have z3:=y2.size)
       | (go_at_call 23; refine (Any.Builder_WriteByte_k Tryz.wbI zkn N N (Lib.byteCells acc') c W2 i3' (by rw [Lib.byteCells_length]; omega) (by omega)).mono ?_; rintro e W3 ⟨rfl,v1,v2,v3⟩))
      all_goals (try omega)
      go_roundw
      case rel =>
       exact ⟨k',acc'++[UInt8.ofNat c.toNat],p',ZO y1 v2 (by omega),i2,by rw [zgb _ n3 n4]; exact .inr v1,((i4.trans x2).trans y2).transB (Fr.of_below' v2 (by omega)),by have:=v2.size; omega,by simp; omega,n2⟩
      case measure =>
       rw [hcell,qB (ZO y1 v2 (by omega))]
       show (len - p').toNat < (len - p).toNat
       omega
     ·rw [if_neg hpr] at i2
      simp only [Option.some.injEq,Prod.mk.injEq] at i2
      obtain ⟨⟨rfl,rfl⟩,rfl⟩:=i2
      by_cases h32:32 <= c
      ·have h127:¬ c < 127:=fun h=>hpr ⟨h32,h⟩
       go_wp2_with (first
        | (go_at_call 99; refine (hM wr p i4 i1).mono ?_; rintro e W1 ⟨rfl,x1,x2⟩; rw [decide_eq_true hpl])
        | (go_at_call 156; refine (hN W1 p c p' (i4.trans x2) x1 hnx).mono ?_; rintro e W2 ⟨rfl,y1,y2⟩))
       all_goals first
        | (go_ret2; exact ⟨rfl,y1,(i4.trans x2).trans y2⟩)
        | (exfalso; have hh:=‹(!decide (c < 127)) = false›; simp at hh; omega)
      ·go_wp2_with (first
        | (go_at_call 99; refine (hM wr p i4 i1).mono ?_; rintro e W1 ⟨rfl,x1,x2⟩; rw [decide_eq_true hpl])
        | (go_at_call 156; refine (hN W1 p c p' (i4.trans x2) x1 hnx).mono ?_; rintro e W2 ⟨rfl,y1,y2⟩))
       all_goals (try omega)
       go_ret2
       exact ⟨rfl,y1,(i4.trans x2).trans y2⟩
  ·cases k' with
   | zero=>cases i2
   | succ k' =>
   rw [qF,if_neg hpl] at i2
   simp only [Option.some.injEq,Prod.mk.injEq] at i2
   obtain ⟨⟨rfl,rfl⟩,rfl⟩:=i2
   go_wp2_with (go_at_call 99; refine (hM wr p i4 i1).mono ?_; rintro e W1 ⟨rfl,x1,x2⟩; rw [decide_eq_false hpl])
   go_ret2
   exact ⟨rfl,x1,i4.trans x2⟩
end Go.Seq
