import Derived.RangeFuncRecord
import Derived.RangeFuncNested
import Derived.RangeFuncBound
import Derived.RangeFuncCalls
import Derived.RangeFuncLeaves
import Derived.Shelf.Abstract
import Derived.Shelf.RegionOpen
import Derived.WalkKit
import Derived.OwnWalkIn
import Derived.TacticsInMore
import Derived.LoopNIn
import Derived.LoopIn
import Derived.Lib.IndexLaws
import Derived.Test.YtjcbpfhlgebgdaaDoorPLayS
import Derived.Test.YtjcbpfhlgebgdaaDoorChecked
namespace Go.Seq
open Go.RowKit
structure Moves (Z:Nat→Prop) (A B:World):Prop where
 os:B.os = A.os
 tape:B.tape = A.tape
 output:B.output = A.output
 size:A.heap.size ≤ B.heap.size
 block:∀ k,k < A.heap.size→¬ Z k→B.heap[k]? = A.heap[k]?
theorem Moves.refl (Z:Nat→Prop) (A:World):Moves Z A A:=⟨rfl,rfl,rfl,Nat.le_refl _,fun _ _ _=>rfl⟩
def SeqZ {α:Type} (F:Fence) (n:Nat) (P:Program) (g:Nat) (lb:Array Value) (encs:α→Array Value) (Z:Nat→Prop) (xs:List α) (w:World):Prop :=
 ∀ (l:Nat) (J Jx:List α→World→Prop),(∀ s A B,J s A→Moves Z A B→J s B)→(∀ s A B,Jx s A→Moves Z A B→Jx s B) →
  ∀ W,Moves (fun _=>False) w W →
  (∀ pre x W1,J pre W1→pre++[x] <+: xs→YieldAt F (n - 1) P l (encs x) W1 fun e W' =>
   (e = .returned (.bool true)∧J (pre++[x]) W'∧∀ k,Z k→W'.heap[k]? = W1.heap[k]?) ∨ (e = .returned (.bool false)∧Jx (pre++[x]) W')) →
  J [] W →
  CallsIn F n P g (#[.func (.yield l) #[] #[]]++lb) W fun e W'=>(∃ v,e = .returned v)∧(J xs W' ∨ ∃ pre,Jx pre W')
structure Turns (Z:Nat→Prop) (N:Nat) (A B:World):Prop where
 os:B.os = A.os
 tape:B.tape = A.tape
 output:B.output = A.output
 size:A.heap.size ≤ B.heap.size
 block:∀ k o,A.heap[k]? = some o→¬ Z k→(k < N ∨ o.isCells = true)→B.heap[k]? = some o
theorem Moves.turns {Z:Nat→Prop} {N:Nat} {A B:World} (h:Moves Z A B):Turns Z N A B :=
 ⟨h.os,h.tape,h.output,h.size,fun k o ho hz _=>(h.block k (Array.getElem?_eq_some_iff.1 ho).1 hz).trans ho⟩
theorem Turns.putObj {Z:Nat→Prop} {N l:Nat} {A:World} {o:Obj} (o':Obj) (hl:A.heap[l]? = some o) (hN:N ≤ l) (ho:o.isCells = false):Turns Z N A (A.putObj l o') :=
 ⟨rfl,rfl,rfl,by simp,fun k o2 h2 _ hc=>by
  by_cases e:k = l
  ·subst e
   rw [hl] at h2; cases h2
   rcases hc with hc | hc
   ·omega
   ·rw [ho] at hc; cases hc
  ·exact (World.putObj_heap_other e).trans h2⟩
theorem Turns.alloc {Z:Nat→Prop} {N:Nat} {A:World} (o:Obj):Turns Z N A (A.alloc o) :=
 ⟨rfl,rfl,rfl,by simp,fun k o2 h2 _ _=>by
  have:=(Array.getElem?_eq_some_iff.1 h2).1
  show (A.heap.push o)[k]? = _
  rw [Array.getElem?_push_lt this,← h2,Array.getElem?_eq_getElem this]⟩
def Keeps (Z:Nat→Prop) (N:Nat) (A B:World):Prop:=∀ k o,A.heap[k]? = some o→(Z k ∨ (N ≤ k∧o.isCells = false))→B.heap[k]? = some o
theorem Keeps.refl (Z:Nat→Prop) (N:Nat) (A:World):Keeps Z N A A:=fun _ _ h _=>h
theorem Keeps.trans {Z:Nat→Prop} {N:Nat} {A B C:World} (h:Keeps Z N A B) (k:Keeps Z N B C):Keeps Z N A C:=fun i o ho hc=>k i o (h i o ho hc) hc
def postZ {α:Type} (Z:Nat→Prop) (N:Nat) (I:List α→World→Prop) (Ix:Code→List α→World→Prop) (xs:List α) (W:World):Exit→Act→World→Prop
 | .normal,_,W'=>Keeps Z N W W'∧I xs W'
 | .ret,_,W'=>Keeps Z N W W'∧Ix .ret xs W'
 | .exit id,_,W'=>Keeps Z N W W'∧Ix (.exit id) xs W'
 | _,_,_=>False
variable {F:Fence} {n:Nat} {P:Program}
theorem wpIn_rangeFunc_Z {α:Type} {g:Operand} {ps:Array Tmp} {assign body:Code} {Q:Exit→Act→World→Prop} {a:Act} {w:World}
  (hro:F.round = none) (h1:1 ≤ n) {gf:Nat} {lb:Array Value} (hg:a.eval g = .func (.func gf) #[] lb) (hFg:F.fn gf) (eg:∀ args w,(callFunc gf args).run P w = .ok (.enter gf args) w)
  {encs:α→Array Value} {Z:Nat→Prop} {xs:List α} (hseq:SeqZ F (n - 1) P gf lb encs Z xs w) (hZ:∀ k,Z k→k < w.heap.size) (hps:∀ x,(encs x).size = ps.size)
  (I:List α→World→Prop) (Ix:Code→List α→World→Prop) (hI:∀ s A B,I s A→Turns Z w.heap.size A B→I s B) (hIx:∀ c s A B,Ix c s A→Turns Z w.heap.size A B→Ix c s B) (h0:I [] w) (a₁:α→Act)
  (hassign:∀ (l:Nat) (x:α) (W:World) (K:Act→World→Prop),K (a₁ x) W →
   assign.wpIn (F.inRound l) (n - 1 - 1) P (Exit.then K (fun _ _ _=>False)) { tmps:=(ps.zip (encs x)).foldl (fun t (p,v)=>t.setIfInBounds p v) a.tmps,defers:=[] } W)
  (hbody:∀ (l:Nat) (pre:List α) (x:α) (W:World),w.heap.size ≤ l→I pre W→pre++[x] <+: xs→w.heap.size ≤ W.heap.size→body.wpIn (F.inRound l) (n - 1 - 1) P (postZ Z w.heap.size I Ix (pre++[x]) W) (a₁ x) W)
  (hdone:∀ (D:Nat) (W:World),w.heap.size ≤ D→I xs W→W.heap[D]? = some (.deferred (some []))→Q .normal { a with defers:={ target:=.collected D,args:=#[] } :: a.defers } W)
  (hstop:∀ (D:Nat) (c:Code) (pre:List α) (W:World),w.heap.size ≤ D→Ix c pre W→W.heap[D]? = some (.deferred (some []))→c.wpIn F n P Q { a with defers:={ target:=.collected D,args:=#[] } :: a.defers } W) :
  (Code.rangeFunc g ps assign body).wpIn F n P Q a w:=by
 refine wpIn_rangeFunc ?_
 intro fn hfn
 rw [hro]
 obtain ⟨rec,hrec⟩:∃ rec:LoopState→Option Code→Loop,rec = fun st pe=>{ state:=st,pending:=pe,fn,tmps:=a.tmps,params:=ps,assign,body,defers:=w.heap.size }:=⟨_,rfl⟩
 obtain ⟨W1,hW1⟩:∃ W1,(w.alloc (.deferred (some []))).alloc (.loop (rec .ready none)) = W1:=⟨_,rfl⟩
 have hL1:W1.heap[w.heap.size + 1]? = some (.loop (rec .ready none)):=by
  rw [← hW1]; have:=World.alloc_heap_new (w.alloc (.deferred (some []))) (.loop (rec .ready none)); rwa [World.size_alloc] at this
 have hK1:W1.heap[w.heap.size]? = some (.deferred (some [])):=by
  rw [← hW1]; exact (Below.heap_alloc _ _ _ (by simp)).trans (World.alloc_heap_new w _)
 have hI1:I [] W1:=by rw [← hW1]; exact hI _ _ _ (hI _ _ _ h0 (Turns.alloc _)) (Turns.alloc _)
 have hm1:Moves (fun _=>False) w W1:=by
  rw [← hW1]
  refine ⟨rfl,rfl,rfl,by simp; omega,fun k hk _=>?_⟩
  exact (Below.heap_alloc _ _ _ (by simp; omega)).trans (Below.heap_alloc _ _ _ hk)
 have hnz:∀ k,w.heap.size ≤ k→¬ Z k:=fun k hk hz=>by have:=hZ k hz; omega
 refine ⟨w.heap.size + 1,[{ target:=.collected w.heap.size,args:=#[] }],W1,{ target:=.fn (.func gf) lb,args:=#[.func (.yield (w.heap.size + 1)) #[] #[]] },W1,gf,
  #[.func (.yield (w.heap.size + 1)) #[] #[]]++lb,W1,?_,?_,?_,?_,fun _=>h1,?_⟩
 ·rw [← hW1,hrec]; exact run_enterLoop_outer _ _ _ _ _
 ·simp only [resolve,hg]
  simp [go_sem]
 ·intro f' hf'; simp [Target.leads] at hf'; subst hf'; exact hFg
 ·simp [invoke,go_sem,eg]
 ·refine (hseq (w.heap.size + 1)
   (fun pre W=>I pre W∧w.heap.size ≤ W.heap.size∧W.heap[w.heap.size + 1]? = some (.loop (rec .ready none))∧W.heap[w.heap.size]? = some (.deferred (some [])))
   (fun pre W=>∃ c,Ix c pre W∧W.heap[w.heap.size + 1]? = some (.loop (rec .done (some c)))∧W.heap[w.heap.size]? = some (.deferred (some [])))
   (fun s A B hs hm=>⟨hI s A B hs.1 hm.turns,Nat.le_trans hs.2.1 hm.size,(hm.block _ (Array.getElem?_eq_some_iff.1 hs.2.2.1).1 (hnz _ (by omega))).trans hs.2.2.1,(hm.block _ (Array.getElem?_eq_some_iff.1 hs.2.2.2).1 (hnz _ (Nat.le_refl _))).trans hs.2.2.2⟩)
   (fun s A B hs hm=>by
    obtain ⟨c,hc,hl,hk⟩:=hs
    exact ⟨c,hIx c s A B hc hm.turns,(hm.block _ (Array.getElem?_eq_some_iff.1 hl).1 (hnz _ (by omega))).trans hl,(hm.block _ (Array.getElem?_eq_some_iff.1 hk).1 (hnz _ (Nat.le_refl _))).trans hk⟩)
   W1 hm1 ?_ ⟨hI1,hm1.size,hL1,hK1⟩).mono ?_
  ·rintro pre x W ⟨hi,hsz,hl,hk⟩ hlen
   have hlt:w.heap.size + 1 < W.heap.size:=(Array.getElem?_eq_some_iff.1 hl).1
   have hy:=run_yield (P:=P) (args:=encs x) hl (by rw [hrec]; exact hps x)
   rw [hrec] at hy
   refine ⟨fn,_,assign,body,hy,roundIn_of_wpIn hfn (hassign _ x W _ ?_)⟩
   clear hy
   refine ⟨_,run_beginRound hl (by rw [hrec]),?_⟩
   have hl2:(W.putObj (w.heap.size + 1) (.loop { rec .ready none with state:=.busy })).heap[w.heap.size + 1]? = some (.loop { rec .ready none with state:=.busy }):=World.putObj_heap_same hlt
   have hk2:(W.putObj (w.heap.size + 1) (.loop { rec .ready none with state:=.busy })).heap[w.heap.size]? = some (.deferred (some [])):=(World.putObj_heap_other (by omega)).trans hk
   refine wpIn_mono (hbody _ pre x _ (by omega) (hI _ _ _ hi (Turns.putObj _ hl (by omega) rfl)) hlen (by simpa using hsz)) ?_
   have fin:∀ (jump:Option Code) (W3:World),Keeps Z w.heap.size (W.putObj (w.heap.size + 1) (.loop { rec .ready none with state:=.busy })) W3 →
     (Instr.endRound (w.heap.size + 1) jump).run P W3 = .ok (.bool jump.isNone) (W3.putObj (w.heap.size + 1) (.loop (rec (if jump.isNone then .ready else .done) jump))) ∧
     W3.heap[w.heap.size + 1]? = some (.loop { rec .ready none with state:=.busy }) ∧
     (W3.putObj (w.heap.size + 1) (.loop (rec (if jump.isNone then .ready else .done) jump))).heap[w.heap.size + 1]? = some (.loop (rec (if jump.isNone then .ready else .done) jump)) ∧
     (W3.putObj (w.heap.size + 1) (.loop (rec (if jump.isNone then .ready else .done) jump))).heap[w.heap.size]? = some (.deferred (some [])):=fun jump W3 hk3=>by
    have hl3:=hk3 _ _ hl2 (.inr ⟨by omega,rfl⟩)
    have:=run_endRound (P:=P) jump hl3
    rw [hrec] at this ⊢
    exact ⟨this,by rw [hrec] at hl3; exact hl3,World.putObj_heap_same (Array.getElem?_eq_some_iff.1 hl3).1,(World.putObj_heap_other (by omega)).trans (hk3 _ _ hk2 (.inr ⟨Nat.le_refl _,rfl⟩))⟩
   have keepZ:∀ (o':Obj) (W3:World),Keeps Z w.heap.size (W.putObj (w.heap.size + 1) (.loop { rec .ready none with state:=.busy })) W3→∀ k,Z k→(W3.putObj (w.heap.size + 1) o').heap[k]? = W.heap[k]?:=fun o' W3 hk3 k hz=>by
    have hkl:=hZ k hz
    have hkW:k < W.heap.size:=by omega
    have e1:(W.putObj (w.heap.size + 1) (.loop { rec .ready none with state:=.busy })).heap[k]? = some W.heap[k]:=(World.putObj_heap_other (by omega)).trans (Array.getElem?_eq_getElem hkW)
    rw [World.putObj_heap_other (by omega),hk3 _ _ e1 (.inl hz),Array.getElem?_eq_getElem hkW]
   rintro e a3 W3 hp
   have hsz3:Keeps Z w.heap.size (W.putObj (w.heap.size + 1) (.loop { rec .ready none with state:=.busy })) W3→w.heap.size + 1 < W3.heap.size:=fun hk3 =>
    (Array.getElem?_eq_some_iff.1 (hk3 _ _ hl2 (.inr ⟨by omega,rfl⟩))).1
   cases e with
   | normal =>
    obtain ⟨hk3,hi3⟩:=hp
    obtain ⟨hr,hl3,hl4,hk4⟩:=fin none W3 hk3
    exact ⟨_,_,hr,.inl ⟨rfl,⟨hI _ _ _ hi3 (Turns.putObj _ hl3 (by omega) rfl),by have:=hsz3 hk3; simp; omega,hl4,hk4⟩,keepZ _ W3 hk3⟩⟩
   | ret =>
    obtain ⟨hk3,hi3⟩:=hp
    obtain ⟨hr,hl3,hl4,hk4⟩:=fin (some .ret) W3 hk3
    exact ⟨_,_,hr,.inr ⟨rfl,.ret,hIx _ _ _ _ hi3 (Turns.putObj _ hl3 (by omega) rfl),hl4,hk4⟩⟩
   | exit id =>
    obtain ⟨hk3,hi3⟩:=hp
    obtain ⟨hr,hl3,hl4,hk4⟩:=fin (some (.exit id)) W3 hk3
    exact ⟨_,_,hr,.inr ⟨rfl,.exit id,hIx _ _ _ _ hi3 (Turns.putObj _ hl3 (by omega) rfl),hl4,hk4⟩⟩
   | goto t=>exact hp.elim
   | panic ch=>exact hp.elim
   | outgrown=>exact hp.elim
  ·rintro e W2 ⟨⟨v,rfl⟩,⟨hi,hsz,hl,hk⟩ | ⟨pre,c,hi,hl,hk⟩⟩
   ·exact ⟨none,_,by have:=run_endLoop (P:=P) hl (by rw [hrec]; simp); rw [hrec] at this; exact this,hdone _ _ (Nat.le_refl _) (hI _ _ _ hi (Turns.putObj _ hl (by omega) rfl)) ((World.putObj_heap_other (by omega)).trans hk)⟩
   ·exact ⟨some c,_,by have:=run_endLoop (P:=P) hl (by rw [hrec]; simp); rw [hrec] at this; exact this,hstop _ c pre _ (Nat.le_refl _) (hIx _ _ _ _ hi (Turns.putObj _ hl (by omega) rfl)) ((World.putObj_heap_other (by omega)).trans hk)⟩
end Go.Seq
namespace Go.Seq
open Go.RowKit Go.Shelf Go.Proofs
attribute [local go_sem] Oper.semAt_some
def pieces (c:UInt8):List UInt8→List (List UInt8)
 | []=>[[]]
 | x :: s=>if x = c then [] :: pieces c s else match pieces c s with
  | p :: ps=>(x :: p) :: ps
  | []=>[[x]]
def bsOf (l:List UInt8):ByteArray:=⟨l.toArray⟩
def piecesB (c:UInt8) (S:ByteArray):List ByteArray:=(pieces c S.data.toList).map bsOf
theorem pieces_none {c:UInt8}:∀ {l:List UInt8},Lib.indexByte l c = -1→pieces c l = [l]
 | [],_=>rfl
 | x :: l,h=>by
  unfold Lib.indexByte at h
  split at h
  ·cases h
  ·rename_i hx
   split at h
   ·rename_i h1
    have:=pieces_none (l:=l) (by simpa using h1)
    unfold pieces
    rw [if_neg (by simpa using hx),this]
   ·have:=Lib.indexByte_ge l c
    omega
theorem pieces_some {c:UInt8}:∀ {l:List UInt8} {o:Nat},Lib.indexByte l c = o→pieces c l = l.take o :: pieces c (l.drop (o + 1))∧o < l.length
 | [],o,h=>by simp [Lib.indexByte] at h
 | x :: l,o,h=>by
  unfold Lib.indexByte at h
  split at h
  ·rename_i hx
   have:o = 0:=by omega
   subst this
   refine ⟨?_,by simp⟩
   conv=>lhs; unfold pieces
   rw [if_pos (by simpa using hx)]
   rfl
  ·rename_i hx
   split at h
   ·omega
   ·rename_i h1
    have hge:=Lib.indexByte_ge l c
    have h1':Lib.indexByte l c ≠ -1:=by simpa using h1
    obtain ⟨o',rfl⟩:∃ o',o = o' + 1:=⟨o - 1,by omega⟩
    obtain ⟨q1,q2⟩:=pieces_some (l:=l) (c:=c) (o:=o') (by omega)
    refine ⟨?_,by simp; omega⟩
    conv=>lhs; unfold pieces
    rw [if_neg (by simpa using hx),q1]
    rfl
theorem bs_data (S:ByteArray):bsOf S.data.toList = S:=by cases S; rfl
theorem ext0 (T:ByteArray) (o:Nat):T.extract 0 o = bsOf (T.data.toList.take o):=by
 apply ByteArray.ext
 rw [← Array.toList_inj]
 simp [bsOf]
theorem ext1 (T:ByteArray) (o:Nat):T.extract o T.size = bsOf (T.data.toList.drop o):=by
 apply ByteArray.ext
 rw [← Array.toList_inj]
 have e:T.data.toList.length = T.size:=Array.length_toList
 simp only [bsOf,ByteArray.data_extract,Array.toList_extract,List.extract_eq_take_drop]
 exact List.take_of_length_le (by rw [List.length_drop]; omega)
theorem cell_of_heap {A B:World} {b:Nat} (h:B.heap[b]? = A.heap[b]?):B.cell? ⟨b,0,none⟩ = A.cell? ⟨b,0,none⟩:=by simp [World.cell?,h]
theorem frozen_of_heap {A B:World} {b:Nat} (h:B.heap[b]? = A.heap[b]?):B.frozen? ⟨b,0,none⟩ = A.frozen? ⟨b,0,none⟩:=by simp [World.frozen?,h]
set_option maxHeartbeats 8000000 in
theorem split1_in {m:Nat} (bsep bs bsave l:Nat) (c:UInt8) (S:ByteArray) (hS:S.size < 4294967281) (J Jx:List ByteArray→World→Prop) (W:World)
  (hd:bs ≠ bsep∧bs ≠ bsave) (hJ:∀ s A B,J s A→Moves (fun k=>k = bs) A B→J s B)
  (h1:W.cell? ⟨bsep,0,none⟩ = some (.string ⟨#[c]⟩)) (h2:W.cell? ⟨bs,0,none⟩ = some (.string S)) (hf:W.frozen? ⟨bs,0,none⟩ = false) (h3:W.cell? ⟨bsave,0,none⟩ = some (.int .i64 0)) (h0:J [] W)
  (hY:∀ pre x W1,J pre W1→pre++[x] <+: piecesB c S→YieldAt Fence.wide m Tryd.prog l #[.string x] W1 fun e W' =>
   (e = .returned (.bool true)∧J (pre++[x]) W'∧∀ k,(k = bs ∨ k = bsep ∨ k = bsave)→W'.heap[k]? = W1.heap[k]?) ∨ (e = .returned (.bool false)∧Jx (pre++[x]) W')) :
  CallsIn Fence.wide (m + 1) Tryd.prog 180 #[.func (.yield l) #[] #[],.pointer (some ⟨bsep,0,none⟩),.pointer (some ⟨bs,0,none⟩),.pointer (some ⟨bsave,0,none⟩)] W fun e W'=>(∃ v,e = .returned v)∧(J (piecesB c S) W' ∨ ∃ pre,Jx pre W'):=by
 refine callsIn_of_wp Tryd.func180 rfl trivial ?_ rfl
 simp only [Tryd.ntmps180,List.size_toArray,List.length_cons,List.length_nil,Nat.reduceAdd,Nat.reduceSub,Array.replicate_succ,Array.replicate_zero,List.push_toArray,List.append_toArray,List.nil_append,List.cons_append]
 gi_wp2
 gi_loopw [] (fun wr=>∃ (pre:List ByteArray) (T:ByteArray),piecesB c S = pre++piecesB c T∧T.size ≤ S.size∧wr.cell? ⟨bsep,0,none⟩ = some (.string ⟨#[c]⟩)∧wr.cell? ⟨bs,0,none⟩ = some (.string T)∧wr.frozen? ⟨bs,0,none⟩ = false∧wr.cell? ⟨bsave,0,none⟩ = some (.int .i64 0)∧J pre wr)
  (fun wr=>match wr.cell? ⟨bs,0,none⟩ with | some (.string s)=>s.size | _=>0)
 case atStart =>
  exact ⟨[],S,rfl,Nat.le_refl _,h1,h2,hf,h3,h0⟩
 case round =>
  obtain ⟨pre,T,hx,hT,k1,k2,k3,k4,k5⟩:=hrel
  have hge:=Lib.indexByte_ge T.data.toList c
  by_cases hi:Lib.indexByte T.data.toList c = -1
  ·have hpc:piecesB c T = [T]:=by unfold piecesB; rw [pieces_none hi]; simp [bs_data]
   rw [hpc] at hx
   obtain ⟨fn,tmps,assign,body,hy,hR⟩:=hY pre T wr k5 (by rw [hx]; exact List.prefix_refl _)
   gi_wp2_with (refine ⟨trivial,?_⟩; gi_at_call 182; refine (callsIn_wide.2 (Any.strings_Index_one Tryd.indexI T c _)).mono ?_; rintro e w' ⟨rfl,rfl⟩; rw [hi])
   refine hR.mono ?_
   rintro e W' (⟨rfl,hJ',hk⟩ | ⟨rfl,hJx'⟩)
   ·gi_wp2
    go_end0
    refine ⟨⟨_,rfl⟩,.inl ?_⟩
    rw [hx]; exact hJ'
   ·gi_wp2
    go_end0
    exact ⟨⟨_,rfl⟩,.inr ⟨_,hJx'⟩⟩
  ·obtain ⟨o,ho⟩:∃ o:Nat,Lib.indexByte T.data.toList c = o:=⟨(Lib.indexByte T.data.toList c).toNat,by omega⟩
   obtain ⟨q1,q2⟩:=pieces_some ho
   have hpc:piecesB c T = T.extract 0 o :: piecesB c (T.extract (o + 1) T.size):=by
    unfold piecesB
    rw [q1,ext0,ext1]
    rfl
   rw [hpc] at hx
   obtain ⟨fn,tmps,assign,body,hy,hR⟩:=hY pre (T.extract 0 o) wr k5 (by rw [hx]; exact ⟨piecesB c (T.extract (o + 1) T.size),by simp⟩)
   have hTl:T.data.toList.length = T.size:=Array.length_toList
   have i1:¬ ((o:Int) < 0):=by omega
   have i2:(o:Int) ≤ (T.size:Int):=by omega
   have i3:wrap64 (o:Int) = (o:Int):=IntWalk.wrap64_in _ (by omega)
   have i4:wrap64 ((o:Int) + 1) = ((o + 1:Nat):Int):=by rw [IntWalk.wrap64_in _ (by omega)]; omega
   gi_wp2_with (refine ⟨trivial,?_⟩; gi_at_call 182; refine (callsIn_wide.2 (Any.strings_Index_one Tryd.indexI T c _)).mono ?_; rintro e w' ⟨rfl,rfl⟩; rw [ho])
   refine hR.mono ?_
   rintro e W' (⟨rfl,hJ',hk⟩ | ⟨rfl,hJx'⟩)
   ·have c1:=(cell_of_heap (hk bsep (.inr (.inl rfl)))).trans k1
    have c2:=(cell_of_heap (hk bs (.inl rfl))).trans k2
    have c3:=(frozen_of_heap (hk bs (.inl rfl))).trans k3
    have c4:=(cell_of_heap (hk bsave (.inr (.inr rfl)))).trans k4
    have hs1:(⟨#[c]⟩:ByteArray).size = 1:=rfl
    gi_wp2
    have hg:=grownBy_setCell' W' bs (.string (T.extract (o + 1) T.size))
    have hlt:∀ b v,W'.cell? ⟨b,0,none⟩ = some v→b < W'.heap.size:=fun b v h=>World.block_lt_of_cell? W' _ h
    have hne1:some bsep ≠ some bs:=fun e=>hd.1 (by cases e; rfl)
    have hne2:some bsave ≠ some bs:=fun e=>hd.2 (by cases e; rfl)
    have hcs:(W'.setCell ⟨bs,0,none⟩ (.string (T.extract (o + 1) T.size))).cell? ⟨bs,0,none⟩ = some (.string (T.extract (o + 1) T.size)):=World.cell?_setCell_same' _ _ _ (by rw [c2]; rfl)
    have hsz:(T.extract (o + 1) T.size).size < T.size:=by rw [ByteArray.size_extract]; omega
    refine ⟨⟨pre++[T.extract 0 o],T.extract (o + 1) T.size,by rw [hx]; simp,by omega,(cell_of_heap (hg.block bsep (hlt _ _ c1) hne1)).trans c1,hcs,by rw [World.frozen?_setCell]; exact c3,
     (cell_of_heap (hg.block bsave (hlt _ _ c4) hne2)).trans c4,hJ _ _ _ hJ' ⟨hg.os,hg.tape,hg.output,hg.size,fun k hk' hne=>hg.block k hk' (fun e=>hne (by cases e; rfl))⟩⟩,?_⟩
    rw [hcs,k2]
    exact hsz
   ·gi_wp2
    refine bodyPost_ret (results_none rfl _ _ _) rfl ?_
    exact ⟨⟨_,rfl⟩,.inr ⟨_,hJx'⟩⟩
theorem split_seq {m:Nat} {bsep bs bsave:Nat} {c:UInt8} {S:ByteArray} (hS:S.size < 4294967281) {w:World} (hd:bs ≠ bsep∧bs ≠ bsave)
  (h1:w.cell? ⟨bsep,0,none⟩ = some (.string ⟨#[c]⟩)) (h2:w.cell? ⟨bs,0,none⟩ = some (.string S)) (hf:w.frozen? ⟨bs,0,none⟩ = false) (h3:w.cell? ⟨bsave,0,none⟩ = some (.int .i64 0)) :
  SeqZ Fence.wide (m + 1) Tryd.prog 180 #[.pointer (some ⟨bsep,0,none⟩),.pointer (some ⟨bs,0,none⟩),.pointer (some ⟨bsave,0,none⟩)] (fun x:ByteArray=>#[.string x]) (fun k=>k = bs ∨ k = bsep ∨ k = bsave) (piecesB c S) w:=by
 intro l J Jx hJ _ W hW hY h0
 have hlt:∀ b v,w.cell? ⟨b,0,none⟩ = some v→W.heap[b]? = w.heap[b]?:=fun b v h=>hW.block b (World.block_lt_of_cell? w _ h) (fun q=>q)
 exact split1_in bsep bs bsave l c S hS J Jx W hd (fun s A B hs hm=>hJ s A B hs ⟨hm.os,hm.tape,hm.output,hm.size,fun k hk hz=>hm.block k hk fun e=>hz (.inl e)⟩)
  ((cell_of_heap (hlt _ _ h1)).trans h1) ((cell_of_heap (hlt _ _ h2)).trans h2) ((frozen_of_heap (hlt _ _ h2)).trans hf) ((cell_of_heap (hlt _ _ h3)).trans h3) h0 hY
theorem pieces_len (c:UInt8):∀ l:List UInt8,(pieces c l).length ≤ l.length + 1∧1 ≤ (pieces c l).length∧∀ p ∈ pieces c l,p.length ≤ l.length
 | []=>by simp [pieces]
 | x :: l=>by
  obtain ⟨h1,h2,h3⟩:=pieces_len c l
  unfold pieces
  split
  ·refine ⟨by simp; omega,by simp,fun p hp=>?_⟩
   rcases List.mem_cons.1 hp with rfl | hp
   ·simp
   ·have:=h3 p hp; simp; omega
  ·split
   ·rename_i p ps hq
    rw [hq] at h1 h2 h3
    refine ⟨by simpa using Nat.le_succ_of_le h1,by simp,fun q hq'=>?_⟩
    rcases List.mem_cons.1 hq' with rfl | hq'
    ·have:=h3 p (by simp); simp; omega
    ·have:=h3 q (by simp [hq']); simp; omega
   ·exact ⟨by simp,by simp,fun p hp=>by simp at hp; subst hp; simp⟩
end Go.Seq
namespace Go.Seq
open Go.RowKit Go.Shelf Go.Proofs
attribute [local go_sem] Oper.semAt_some
theorem maker1 (c:UInt8) (S:ByteArray) (w:World):Calls Tryd.prog 153 #[.string S,.string ⟨#[c]⟩,.int .i64 0] w fun e w' =>
  e = .returned (.func (.func 180) #[] #[.pointer (some ⟨w.heap.size + 1,0,none⟩),.pointer (some ⟨w.heap.size,0,none⟩),.pointer (some ⟨w.heap.size + 2,0,none⟩)]) ∧
  w' = ((w.alloc (.cells #[.string S] 9)).alloc (.cells #[.string ⟨#[c]⟩] 9)).alloc (.cells #[.int .i64 0] 3):=by
 go_enter Tryd.func153,Tryd.ntmps153
 go_wp2
 go_ret
 exact ⟨rfl,rfl⟩
theorem maker (c:UInt8) (S:ByteArray) (w:World):Calls Tryd.prog 108 #[.string S,.string ⟨#[c]⟩] w fun e w' =>
  e = .returned (.func (.func 180) #[] #[.pointer (some ⟨w.heap.size + 1,0,none⟩),.pointer (some ⟨w.heap.size,0,none⟩),.pointer (some ⟨w.heap.size + 2,0,none⟩)]) ∧
  w' = ((w.alloc (.cells #[.string S] 9)).alloc (.cells #[.string ⟨#[c]⟩] 9)).alloc (.cells #[.int .i64 0] 3):=by
 go_enter Tryd.func108,Tryd.ntmps108
 go_wp2_with (go_at_call 153; refine (maker1 c S _).mono ?_; rintro e w' ⟨rfl,rfl⟩)
 go_ret
 exact ⟨rfl,rfl⟩
def listF (parseF:List UInt8→Option (Int × Int × Int × Int)):List (List UInt8)→List (Int × Int × Int)→Int→Option (List (Int × Int × Int) × Int × Int)
 | [],out,_=>some (out,0,0)
 | p :: ps,out,at'=>(parseF p).bind fun (a,b,c,err) =>
   if out.length = 20 then some ([],5,at') else if err ≠ 0 then some ([],err,at') else listF parseF ps (out++[(a,b,c)]) (at' + (p.length + 1))
def cells3 (l:List (Int × Int × Int)):List Value:=l.flatMap fun x=>[.int .i64 x.1,.int .i64 x.2.1,.int .i64 x.2.2]
structure LI (N:Nat) (w W:World) (v:Value) (o:List (Int × Int × Int)) (at':Int):Prop where
 bel:Below N w W
 size:N + 7 ≤ W.heap.size
 b2:W.heap[N]? = some (.cells #[.slice none 0 0] 74 (0,0))
 b3:W.heap[N + 1]? = some (.cells #[.int .i64 0,.int .i64 0] 30 (0,0))
 b4:W.heap[N + 2]? = some (.cells #[v] 74 (0,0))
 b5:W.heap[N + 3]? = some (.cells #[.int .i64 at'] 3 (0,0))
 own:W.ownsRow (N + 7) 69 3 v o.length (cells3 o)
theorem LI.turns {N:Nat} {w A B:World} {v:Value} {o:List (Int × Int × Int)} {at':Int} {Z:Nat→Prop} (hZ:∀ k,Z k→N + 4 ≤ k∧k < N + 7) (hN:N = w.heap.size) (h:LI N w A v o at') (ht:Turns Z (N + 7) A B):LI N w B v o at':=by
 have nz:∀ k,k < N + 4→¬ Z k:=fun k hk hz=>by have:=hZ k hz; omega
 have key:∀ k c ty fz,A.heap[k]? = some (.cells c ty fz)→(k < N + 4 ∨ N + 7 ≤ k)→B.heap[k]? = some (.cells c ty fz):=fun k c ty fz hk hc=>ht.block k _ hk (fun hz=>by have:=hZ k hz; omega) (.inr rfl)
 refine ⟨⟨ht.os.trans h.bel.os,ht.tape.trans h.bel.tape,ht.output.trans h.bel.output,Nat.le_trans h.bel.size ht.size,fun k hk=>?_⟩,Nat.le_trans h.size ht.size,key _ _ _ _ h.b2 (by omega),key _ _ _ _ h.b3 (by omega),key _ _ _ _ h.b4 (by omega),key _ _ _ _ h.b5 (by omega),?_⟩
 ·have hb:=h.bel.block k hk
  have hkw:k < w.heap.size:=by omega
  rw [Array.getElem?_eq_getElem hkw] at hb ⊢
  exact ht.block k _ hb (nz k (by omega)) (.inl (by omega))
 ·obtain ⟨hl,h0 | ⟨g,cap,cur,hv,hb,hh,r⟩⟩:=h.own
  ·exact ⟨hl,.inl h0⟩
  ·exact ⟨hl,.inr ⟨g,cap,cur,hv,hb,key _ _ _ _ hh (.inr hb),r⟩⟩
theorem cal {W:World} {a:Addr} {v:Value} (o:Obj) (h:W.cell? a = some v):(W.alloc o).cell? a = some v:=cell_kept h (World.grownBy_alloc W o none) (fun r e=>by cases e)
theorem fal {W:World} {a:Addr} {v:Value} (o:Obj) (h:W.cell? a = some v) (hf:W.frozen? a = false):(W.alloc o).frozen? a = false:=(frozen_kept h (World.grownBy_alloc W o none) (fun r e=>by cases e)).trans hf
theorem LI.below {N:Nat} {w A B:World} {v:Value} {o:List (Int × Int × Int)} {at':Int} (hA:N + 7 ≤ A.heap.size) (h:LI N w A v o at') (hb:Below A.heap.size A B):LI N w B v o at':=by
 have key:∀ k o,A.heap[k]? = some o→B.heap[k]? = some o:=fun k o hk=>(hb.block k (Array.getElem?_eq_some_iff.1 hk).1).trans hk
 refine ⟨⟨hb.os.trans h.bel.os,hb.tape.trans h.bel.tape,hb.output.trans h.bel.output,Nat.le_trans h.bel.size hb.size,fun k hk=>(hb.block k (by omega)).trans (h.bel.block k hk)⟩,Nat.le_trans hA hb.size,key _ _ h.b2,key _ _ h.b3,key _ _ h.b4,key _ _ h.b5,?_⟩
 obtain ⟨hl,h0 | ⟨g,cap,cur,hv,hbb,hh,r⟩⟩:=h.own
 ·exact ⟨hl,.inl h0⟩
 ·exact ⟨hl,.inr ⟨g,cap,cur,hv,hbb,key _ _ hh,r⟩⟩
theorem LI.cell2 {N:Nat} {w A:World} {v:Value} {o:List (Int × Int × Int)} {at':Int} (h:LI N w A v o at'):A.cell? ⟨N,0,none⟩ = some (.slice none 0 0)∧A.frozen? ⟨N,0,none⟩ = false:=by
 simp [World.cell?,World.frozen?,h.b2]
theorem LI.cell3 {N:Nat} {w A:World} {v:Value} {o:List (Int × Int × Int)} {at':Int} (h:LI N w A v o at'):A.cell? ⟨N + 1,0,none⟩ = some (.int .i64 0)∧A.cell? ⟨N + 1,1,none⟩ = some (.int .i64 0)∧A.frozen? ⟨N + 1,0,none⟩ = false∧A.frozen? ⟨N + 1,1,none⟩ = false:=by
 simp [World.cell?,World.frozen?,h.b3]
theorem LI.cell4 {N:Nat} {w A:World} {v:Value} {o:List (Int × Int × Int)} {at':Int} (h:LI N w A v o at'):A.cell? ⟨N + 2,0,none⟩ = some v∧A.frozen? ⟨N + 2,0,none⟩ = false:=by
 simp [World.cell?,World.frozen?,h.b4]
theorem LI.cell5 {N:Nat} {w A:World} {v:Value} {o:List (Int × Int × Int)} {at':Int} (h:LI N w A v o at'):A.cell? ⟨N + 3,0,none⟩ = some (.int .i64 at')∧A.frozen? ⟨N + 3,0,none⟩ = false:=by
 simp [World.cell?,World.frozen?,h.b5]
theorem cell_three_new (w:World) (x y z:Value) (t:TypeId):∀ j u,[x,y,z][j]? = some u→(w.alloc (.cells #[x,y,z] t)).cell? ((⟨w.heap.size,0,none⟩:Addr).add j) = some u:=by
 intro j u hj
 match j,hj with
 | 0,hj=>simp at hj; subst hj; simp [Addr.add]
 | 1,hj=>simp at hj; subst hj; simp [Addr.add]
 | 2,hj=>simp at hj; subst hj; simp [Addr.add]
 | j + 3,hj=>simp at hj
theorem own_alloc {W:World} {base:Nat} {e:TypeId} {size:Nat} {v:Value} {n:Nat} {xs:List Value} (h:W.ownsRow base e size v n xs) (o:Obj):(W.alloc o).ownsRow base e size v n xs:=by
 obtain ⟨hl,h0 | ⟨g,cap,cur,hv,hb,hh,r⟩⟩:=h
 ·exact ⟨hl,.inl h0⟩
 ·exact ⟨hl,.inr ⟨g,cap,cur,hv,hb,(Below.heap_alloc _ _ _ (Array.getElem?_eq_some_iff.1 hh).1).trans hh,r⟩⟩
theorem own_nb {W:World} {base:Nat} {e:TypeId} {size:Nat} {v:Value} {n:Nat} {xs:List Value} (h:W.ownsRow base e size v n xs) {k:Nat} (hk:k < base):some k ≠ v.ownBlock:=by
 obtain ⟨hl,⟨rfl,_⟩ | ⟨g,cap,cur,rfl,hb,hh,r⟩⟩:=h
 ·simp [Value.ownBlock]
 ·simp [Value.ownBlock]; omega
theorem after_app {N:Nat} {w A W2:World} {v:Value} {o:List (Int × Int × Int)} {at':Int} (hA:LI N w A v o at') (o1 o2:Obj) (hg:((A.alloc o1).alloc o2).grownBy W2 v.ownBlock):∀ k,k < A.heap.size→some k ≠ v.ownBlock→W2.heap[k]? = A.heap[k]?:=fun k hk hn =>
 (hg.block k (by simp; omega) hn).trans ((Below.heap_alloc _ _ _ (by simp; omega)).trans (Below.heap_alloc _ _ _ hk))
theorem fin_ok {N:Nat} {w W A W2:World} {v v2:Value} {o:List (Int × Int × Int)} {at' at2:Int} {Z:Nat→Prop} (hZ:∀ k,Z k→N + 4 ≤ k∧k < N + 7) (hW:LI N w W v o at') (hA:LI N w A v o at') (hk:∀ k,k < W.heap.size→A.heap[k]? = W.heap[k]?) (hs:W.heap.size ≤ A.heap.size) (o1 o2:Obj)
  (hg:((A.alloc o1).alloc o2).grownBy W2 v.ownBlock) (x:Int × Int × Int) (hown:W2.ownsRow (N + 7) 69 3 v2 (o.length + 1) (cells3 o++[.int .i64 x.1,.int .i64 x.2.1,.int .i64 x.2.2])) :
  LI N w ((W2.setCell ⟨N + 2,0,none⟩ v2).setCell ⟨N + 3,0,none⟩ (.int .i64 at2)) v2 (o++[x]) at2∧Keeps Z (N + 7) W ((W2.setCell ⟨N + 2,0,none⟩ v2).setCell ⟨N + 3,0,none⟩ (.int .i64 at2)):=by
 have hA2:=after_app hA o1 o2 hg
 have hAN:=hA.size
 have hsz:A.heap.size ≤ W2.heap.size:=by have:=hg.size; simp at this; omega
 obtain ⟨B,hB⟩:∃ B,(W2.setCell ⟨N + 2,0,none⟩ v2).setCell ⟨N + 3,0,none⟩ (.int .i64 at2) = B:=⟨_,rfl⟩
 rw [hB]
 have hBs:B.heap.size = W2.heap.size:=by rw [← hB]; simp
 have oth:∀ k,k ≠ N + 2→k ≠ N + 3→B.heap[k]? = W2.heap[k]?:=fun k h2 h3=>by
  rw [← hB,Below.heap_setCell _ _ _ _ (by simpa using h3),Below.heap_setCell _ _ _ _ (by simpa using h2)]
 have nb:=fun k (h:k < N + 7)=>own_nb hA.own h
 have g4:W2.heap[N + 2]? = some (.cells #[v] 74 (0,0)):=(hA2 _ (by omega) (nb _ (by omega))).trans hA.b4
 have g5:W2.heap[N + 3]? = some (.cells #[.int .i64 at'] 3 (0,0)):=(hA2 _ (by omega) (nb _ (by omega))).trans hA.b5
 have k4:B.heap[N + 2]? = some (.cells #[v2] 74 (0,0)):=by
  rw [← hB,Below.heap_setCell _ _ _ _ (by simp)]
  exact heap_setCell_same _ _ 0 _ _ _ g4
 have k5:B.heap[N + 3]? = some (.cells #[.int .i64 at2] 3 (0,0)):=by
  rw [← hB]
  exact heap_setCell_same _ _ 0 _ _ _ ((Below.heap_setCell _ _ _ _ (by simp)).trans g5)
 refine ⟨⟨⟨?_,?_,?_,by have:=hA.bel.size; omega,fun k h1=>?_⟩,by omega,?_,?_,k4,k5,?_⟩,fun k ob ho hc=>?_⟩
 ·rw [← hB]; exact hg.os.trans hA.bel.os
 ·rw [← hB]; exact hg.tape.trans hA.bel.tape
 ·rw [← hB]; exact hg.output.trans hA.bel.output
 ·exact (oth k (by omega) (by omega)).trans ((hA2 k (by omega) (nb k (by omega))).trans (hA.bel.block k h1))
 ·exact (oth _ (by omega) (by omega)).trans ((hA2 _ (by omega) (nb _ (by omega))).trans hA.b2)
 ·exact (oth _ (by omega) (by omega)).trans ((hA2 _ (by omega) (nb _ (by omega))).trans hA.b3)
 ·have e1:(o++[x]).length = o.length + 1:=by simp
  have e2:cells3 (o++[x]) = cells3 o++[.int .i64 x.1,.int .i64 x.2.1,.int .i64 x.2.2]:=by simp [cells3]
  rw [e1,e2]
  obtain ⟨hl,h0 | ⟨g,cap,cur,hv,hb,hh,r⟩⟩:=hown
  ·exact ⟨hl,.inl h0⟩
  ·exact ⟨hl,.inr ⟨g,cap,cur,hv,hb,(oth g (by omega) (by omega)).trans hh,r⟩⟩
 ·have hlt:=(Array.getElem?_eq_some_iff.1 ho).1
  have hge:N + 4 ≤ k:=hc.elim (fun h=>(hZ k h).1) (fun h=>by omega)
  have hne:some k ≠ v.ownBlock:=by
   rcases hc with h | ⟨h,h'⟩
   ·exact nb k (hZ k h).2
   ·obtain ⟨_,⟨rfl,_⟩ | ⟨g,cap,cur,rfl,hb,hh,r⟩⟩:=hW.own
    ·simp [Value.ownBlock]
    ·simp only [Value.ownBlock,ne_eq,Option.some.injEq]
     rintro rfl
     rw [ho] at hh
     cases hh
     cases h'
  exact (oth k (by omega) (by omega)).trans ((hA2 k (by omega) hne).trans ((hk k hlt).trans ho))
theorem wr_a (x:Nat) (h:x ≤ 100000):wrap64 ((x:Int) + 1) = (x:Int) + 1:=IntWalk.wrap64_in _ (by omega)
theorem wr_b (a:Int) (x:Nat) (h0:0 ≤ a) (h1:a ≤ 10000200001) (h:x ≤ 100000):wrap64 (a + ((x:Int) + 1)) = a + ((x:Int) + 1):=IntWalk.wrap64_in _ (by omega)
theorem at_bound {n p r:Nat} {a:Int} (h:n < 100000) (hp:p + 1 + r ≤ n + 1) (ha:a ≤ 100001 * (p:Int)):a ≤ 10000200001:=by
 have:(p:Int) ≤ 100000:=by omega
 omega
theorem info69:∃ i z,Tryd.prog.underlying 74 = some (.slice 69)∧Tryd.prog.info? 69 = some i∧i.zero = some z∧i.size = 3∧i.bytes = 24∧z.cells.size = 3:=by
 obtain ⟨i,h1,h2,h3,h4⟩:=info_parts (P:=Tryd.prog) (e:=69) (z:=.agg #[.int .i64 0,.int .i64 0,.int .i64 0]) (size:=3) (bytes:=24) (by kernel_rfl)
 exact ⟨i,_,by kernel_rfl,h1,h2,h3,h4,rfl⟩
theorem len_a {n p r:Nat} (h:n < 100000) (hp:p + 1 + r ≤ n + 1):p + 1 ≤ maxLen:=by unfold maxLen; omega
theorem len_b {n p r:Nat} (h:n < 100000) (hp:p + 1 + r ≤ n + 1):(p + 1) * 24 ≤ 140737488355328:=by omega
theorem size_a {N:Nat} {W A:World} {o1 o2:Obj} (h:N + 7 ≤ W.heap.size) (h2:W.heap.size ≤ A.heap.size):N + 7 ≤ ((A.alloc o1).alloc o2).heap.size:=by simp; omega
theorem after_two {N:Nat} {w A W2:World} {v:Value} {o:List (Int × Int × Int)} {at':Int} (hA:LI N w A v o at') (o1 o2:Obj) (hg:((A.alloc o1).alloc o2).grownBy W2 v.ownBlock):W2.heap[N + 2]? = A.heap[N + 2]?∧W2.heap[N + 3]? = A.heap[N + 3]? :=
 ⟨after_app hA o1 o2 hg _ (by have:=hA.size; omega) (own_nb hA.own (by omega)),after_app hA o1 o2 hg _ (by have:=hA.size; omega) (own_nb hA.own (by omega))⟩
theorem at_next (pre:List ByteArray) (x:ByteArray) {a:Int} (q:0 ≤ a∧a ≤ 100001 * (pre.length:Int)) (h:x.size ≤ 100000):0 ≤ a + ((x.size:Int) + 1)∧a + ((x.size:Int) + 1) ≤ 100001 * ((pre++[x]).length:Int):=by
 have e:((pre++[x]).length:Int) = (pre.length:Int) + 1:=by simp
 rw [e]
 omega
theorem own_put {W:World} {base D:Nat} {e:TypeId} {size:Nat} {v:Value} {n:Nat} {xs:List Value} {ob:Obj} (h:W.ownsRow base e size v n xs) (hD:W.heap[D]? = some ob) (hc:ob.isCells = false) (o':Obj):(W.putObj D o').ownsRow base e size v n xs:=by
 obtain ⟨hl,h0 | ⟨g,cap,cur,hv,hb,hh,r⟩⟩:=h
 ·exact ⟨hl,.inl h0⟩
 ·refine ⟨hl,.inr ⟨g,cap,cur,hv,hb,(World.putObj_heap_other (fun e=>?_)).trans hh,r⟩⟩
  subst e
  rw [hD] at hh; cases hh; cases hc
theorem below_put {N D:Nat} {w W:World} (h:Below N w W) (hD:N ≤ D) (o':Obj):Below N w (W.putObj D o') :=
 ⟨h.os,h.tape,h.output,by simpa using h.size,fun k hk=>(World.putObj_heap_other (by omega)).trans (h.block k hk)⟩
theorem own_set {W:World} {base:Nat} {e:TypeId} {size:Nat} {v:Value} {n:Nat} {xs:List Value} (h:W.ownsRow base e size v n xs) {a:Addr} (ha:a.block < base) (u:Value):(W.setCell a u).ownsRow base e size v n xs:=by
 obtain ⟨hl,h0 | ⟨g,cap,cur,hv,hb,hh,r⟩⟩:=h
 ·exact ⟨hl,.inl h0⟩
 ·exact ⟨hl,.inr ⟨g,cap,cur,hv,hb,(Below.heap_setCell _ _ _ _ (by omega)).trans hh,r⟩⟩
theorem below_set {N:Nat} {w W:World} (h:Below N w W) {a:Addr} (ha:N ≤ a.block) (u:Value):Below N w (W.setCell a u) :=
 ⟨h.os,h.tape,h.output,by simpa using h.size,fun k hk=>(Below.heap_setCell _ _ _ _ (by omega)).trans (h.block k hk)⟩
theorem leave {N D:Nat} {w B:World} {v:Value} {f1 f2:Int} {n:Nat} {xs:List Value} (hD:N + 7 ≤ D) (b0:B.heap[N]? = some (.cells #[v] 74 (0,0))) (b1:B.heap[N + 1]? = some (.cells #[.int .i64 f1,.int .i64 f2] 30 (0,0))) (hK:B.heap[D]? = some (.deferred (some []))) :
  (B.putObj D (.deferred none)).cell? ⟨N,0,none⟩ = some v∧(B.putObj D (.deferred none)).cell? ⟨N + 1,0,none⟩ = some (.int .i64 f1)∧(B.putObj D (.deferred none)).cell? ⟨N + 1,1,none⟩ = some (.int .i64 f2):=by
 have e0:(B.putObj D (.deferred none)).heap[N]? = _:=(World.putObj_heap_other (by omega)).trans b0
 have e1:(B.putObj D (.deferred none)).heap[N + 1]? = _:=(World.putObj_heap_other (by omega)).trans b1
 simp [World.cell?,e0,e1]
theorem fin_ret {N:Nat} {w W:World} {v:Value} {o:List (Int × Int × Int)} {at':Int} (h:LI N w W v o at') (f1 f2:Int) :
  let B:=(((W.setCell ⟨N,0,none⟩ v).setCell ⟨N + 1,0,none⟩ (.int .i64 f1)).setCell ⟨N + 1,1,none⟩ (.int .i64 f2))
  B.heap[N]? = some (.cells #[v] 74 (0,0))∧B.heap[N + 1]? = some (.cells #[.int .i64 f1,.int .i64 f2] 30 (0,0))∧Below N w B∧B.ownsRow (N + 7) 69 3 v o.length (cells3 o)∧(∀ k,N + 2 ≤ k→B.heap[k]? = W.heap[k]?):=by
 intro B
 refine ⟨?_,?_,below_set (below_set (below_set h.bel (Nat.le_refl _) _) (Nat.le_succ _) _) (Nat.le_succ _) _,own_set (own_set (own_set h.own (by simp) _) (by simp) _) (by simp) _,fun k hk=>?_⟩
 ·show (World.setCell _ _ _).heap[N]? = _
  rw [Below.heap_setCell _ _ _ _ (by simp),Below.heap_setCell _ _ _ _ (by simp),heap_setCell_same _ _ 0 _ _ _ h.b2]
  rfl
 ·show (World.setCell _ _ _).heap[N + 1]? = _
  have c0:(W.setCell ⟨N,0,none⟩ v).heap[N + 1]? = some (.cells #[.int .i64 0,.int .i64 0] 30 (0,0)):=(Below.heap_setCell _ _ _ _ (by simp)).trans h.b3
  exact heap_setCell_same _ _ 1 _ _ (.int .i64 f2) (heap_setCell_same _ _ 0 _ _ (.int .i64 f1) c0)
 ·show (World.setCell _ _ _).heap[k]? = _
  rw [Below.heap_setCell _ _ _ _ (by simp; omega),Below.heap_setCell _ _ _ _ (by simp; omega),Below.heap_setCell _ _ _ _ (by simp; omega)]
theorem own_mono {w:World} {base base':Nat} {e:TypeId} {size:Nat} {v:Value} {n:Nat} {xs:List Value} (h:w.ownsRow base e size v n xs) (hb:base' ≤ base):w.ownsRow base' e size v n xs :=
 ⟨h.1,h.2.imp id fun ⟨g,cap,cur,h1,h2,h3⟩=>⟨g,cap,cur,h1,Nat.le_trans hb h2,h3⟩⟩
theorem heap_drew (w:World):w.drew.heap = w.heap:=rfl
theorem fin_err {N:Nat} {w W A:World} {v:Value} {o:List (Int × Int × Int)} {at':Int} (hA:LI N w A v o at') (hW:W.heap.size ≤ A.heap.size) (hk:∀ k,k < W.heap.size→A.heap[k]? = W.heap[k]?) (ob:Obj) (f1 f2:Value) :
  let B:=((((A.alloc ob).setCell ⟨N,0,none⟩ (.slice none 0 0)).setCell ⟨N + 1,0,none⟩ f1).setCell ⟨N + 1,1,none⟩ f2).drew
  (∀ k,k < W.heap.size→N + 4 ≤ k→B.heap[k]? = W.heap[k]?)∧Below N w B∧N + 7 ≤ B.heap.size∧B.heap[N]? = some (.cells #[.slice none 0 0] 74 (0,0))∧B.heap[N + 1]? = some (.cells #[f1,f2] 30 (0,0)):=by
 intro B
 have hsz:B.heap.size = A.heap.size + 1:=by simp [B,heap_drew]
 have hAN:=hA.size
 have oth:∀ k,k < A.heap.size→k ≠ N→k ≠ N + 1→B.heap[k]? = A.heap[k]?:=fun k hkA h1 h2=>by
  show (World.setCell _ _ _).heap[k]? = _
  rw [Below.heap_setCell _ _ _ _ (by simpa using h2),Below.heap_setCell _ _ _ _ (by simpa using h2),Below.heap_setCell _ _ _ _ (by simpa using h1),Below.heap_alloc _ _ _ hkA]
 have b0:(A.alloc ob).heap[N]? = some (.cells #[.slice none 0 0] 74 (0,0)):=(Below.heap_alloc _ _ _ (by omega)).trans hA.b2
 have b1:(A.alloc ob).heap[N + 1]? = some (.cells #[.int .i64 0,.int .i64 0] 30 (0,0)):=(Below.heap_alloc _ _ _ (by omega)).trans hA.b3
 refine ⟨fun k h1 h2=>(oth k (by omega) (by omega) (by omega)).trans (hk k h1),⟨hA.bel.os,hA.bel.tape,hA.bel.output,by have:=hA.bel.size; omega,fun k h1=>(oth k (by omega) (by omega) (by omega)).trans (hA.bel.block k h1)⟩,by omega,?_,?_⟩
 ·show (World.setCell _ _ _).heap[N]? = _
  rw [Below.heap_setCell _ _ _ _ (by simp),Below.heap_setCell _ _ _ _ (by simp),heap_setCell_same _ _ 0 _ _ _ b0]
  rfl
 ·show (World.setCell _ _ _).heap[N + 1]? = _
  have c0:((A.alloc ob).setCell ⟨N,0,none⟩ (.slice none 0 0)).heap[N + 1]? = some (.cells #[.int .i64 0,.int .i64 0] 30 (0,0)):=(Below.heap_setCell _ _ _ _ (by simp)).trans b1
  have c1:=heap_setCell_same _ _ 0 _ _ f1 c0
  have c2:=heap_setCell_same _ _ 1 _ _ f2 c1
  exact c2
theorem keeps_of {N:Nat} {Z:Nat→Prop} {W B:World} (hZ:∀ k,Z k→N + 4 ≤ k) (hb:∀ k,k < W.heap.size→N + 4 ≤ k→B.heap[k]? = W.heap[k]?):Keeps Z (N + 7) W B:=fun k o ho hc=>by
 rw [hb k (Array.getElem?_eq_some_iff.1 ho).1 (hc.elim (hZ k) (fun h=>by omega))]
 exact ho
set_option maxRecDepth 20000 in
set_option maxHeartbeats 8000000 in
theorem list_in (parseF:List UInt8→Option (Int × Int × Int × Int)) (S:ByteArray) (hS:S.size < 100000) (hne:S.data.toList ≠ []) (w:World)
  (hP:∀ W (p:ByteArray) a b c err,Below w.heap.size w W→parseF p.data.toList = some (a,b,c,err)→Calls Tryd.prog 45 #[.string p] W fun en W'=>en = .returned (.tuple #[.agg #[.int .i64 a,.int .i64 b,.int .i64 c],.int .i64 err])∧Below W.heap.size W W')
  {out:List (Int × Int × Int)} {e1 e2:Int} (hr:listF parseF (pieces 44 S.data.toList) [] 0 = some (out,e1,e2)) :
  Calls Tryd.prog 47 #[.string S] w fun en w'=>∃ v,en = .returned (.tuple #[v,.agg #[.int .i64 e1,.int .i64 e2]])∧w'.ownsRow w.heap.size 69 3 v out.length (cells3 out)∧Below w.heap.size w w':=by
 refine (callsIn_wide (n:=3)).1 ?_
 refine callsIn_of_wp_marks Tryd.func47 rfl trivial ?_ rfl
 simp only [Tryd.ntmps47,List.size_toArray,List.length_cons,List.length_nil,Nat.reduceAdd,Nat.reduceSub,Array.replicate_succ,Array.replicate_zero,List.push_toArray,List.append_toArray,List.nil_append,List.cons_append]
 have mixed:Tryd.prog.follows .mixedOrders = true:=by kernel_rfl
 have hE:S.toList.isEmpty = false:=by
  rw [Lib.toList_data]
  cases h:S.data.toList with
  | nil=>exact absurd h hne
  | cons _ _=>rfl
 gi_wp2_with (refine ⟨trivial,?_⟩; gi_at_call 108; refine (callsIn_wide.2 (maker 44 S _)).mono ?_; rintro e w' ⟨rfl,rfl⟩)
 generalize hw7:(((((((w.alloc (.cells #[.slice none 0 0] 74)).alloc (.cells #[.int .i64 0,.int .i64 0] 30)).alloc (.cells #[.slice none 0 0] 74)).alloc (.cells #[.int .i64 0] 3)).alloc (.cells #[.string S] 9)).alloc (.cells #[.string ⟨#[44]⟩] 9)).alloc (.cells #[.int .i64 0] 3)) = w7
 have hh:w7.heap = w.heap++#[.cells #[.slice none 0 0] 74 (0,0),.cells #[.int .i64 0,.int .i64 0] 30 (0,0),.cells #[.slice none 0 0] 74 (0,0),.cells #[.int .i64 0] 3 (0,0),.cells #[.string S] 9 (0,0),.cells #[.string ⟨#[44]⟩] 9 (0,0),.cells #[.int .i64 0] 3 (0,0)]:=by
  rw [← hw7]
  apply Array.ext'
  simp only [World.alloc,Array.toList_push,Array.toList_append,List.append_assoc,List.cons_append,List.nil_append]
 obtain ⟨N,hN⟩:∃ N,w.heap.size = N:=⟨_,rfl⟩
 have hsz7:w7.heap.size = N + 7:=by rw [hh]; simp [hN]
 have at7:∀ i o,(#[.cells #[.slice none 0 0] 74 (0,0),.cells #[.int .i64 0,.int .i64 0] 30 (0,0),.cells #[.slice none 0 0] 74 (0,0),.cells #[.int .i64 0] 3 (0,0),.cells #[.string S] 9 (0,0),.cells #[.string ⟨#[44]⟩] 9 (0,0),.cells #[.int .i64 0] 3 (0,0)]:Array Obj)[i]? = some o→w7.heap[N + i]? = some o:=fun i o h=>by
  rw [hh,Array.getElem?_append_right (by omega),hN,Nat.add_sub_cancel_left]; exact h
 have hb7:Below N w w7:=⟨by rw [← hw7]; rfl,by rw [← hw7]; rfl,by rw [← hw7]; rfl,by omega,fun k hk=>by rw [hh,Array.getElem?_append_left (by omega)]⟩
 have hc4:w7.cell? ⟨N + 4,0,none⟩ = some (.string S):=by simp [World.cell?,at7 4 _ rfl]
 have hf4:w7.frozen? ⟨N + 4,0,none⟩ = false:=by simp [World.frozen?,at7 4 _ rfl]
 have hc5:w7.cell? ⟨N + 5,0,none⟩ = some (.string ⟨#[44]⟩):=by simp [World.cell?,at7 5 _ rfl]
 have hc6:w7.cell? ⟨N + 6,0,none⟩ = some (.int .i64 0):=by simp [World.cell?,at7 6 _ rfl]
 have hL0:LI N w w7 (.slice none 0 0) [] 0:=⟨hb7,by omega,at7 0 _ rfl,at7 1 _ rfl,at7 2 _ rfl,at7 3 _ rfl,World.ownsRow_nil _ _ _ _⟩
 clear at7 hh hw7
 simp only [hN,Nat.add_assoc,Nat.reduceAdd]
 have hZ:∀ k,(k = N + 4 ∨ k = N + 5 ∨ k = N + 6)→N + 4 ≤ k∧k < N + 7:=fun k hk=>by omega
 have hpl:=pieces_len 44 S.data.toList
 have hSl:S.data.toList.length = S.size:=Array.length_toList
 refine wpIn_rangeFunc_Z rfl (by decide) (gf:=180) (lb:=#[.pointer (some ⟨N + 5,0,none⟩),.pointer (some ⟨N + 4,0,none⟩),.pointer (some ⟨N + 6,0,none⟩)]) rfl trivial (enters_of Tryd.func180 (by kernel_rfl) rfl)
  (encs:=fun x:ByteArray=>#[.string x]) (split_seq (by omega) (by omega) hc5 hc4 hf4 hc6) (fun k hk=>by have:=hZ k hk; omega) (fun x=>rfl)
  (fun pre W=>∃ (rest:List ByteArray) (o:List (Int × Int × Int)) (at':Int) (v:Value),piecesB 44 S = pre++rest∧listF parseF (rest.map (fun x=>x.data.toList)) o at' = some (out,e1,e2)∧o.length = pre.length∧(0 ≤ at'∧at' ≤ 100001 * (pre.length:Int))∧LI N w W v o at')
  (fun c pre W=>c = .ret∧out = []∧Below N w W∧N + 7 ≤ W.heap.size∧W.heap[N]? = some (.cells #[.slice none 0 0] 74 (0,0))∧W.heap[N + 1]? = some (.cells #[.int .i64 e1,.int .i64 e2] 30 (0,0)))
  (fun s A B ⟨rest,o,at',v,q1,q2,q3,q4,q5⟩ ht=>⟨rest,o,at',v,q1,q2,q3,q4,LI.turns hZ hN.symm q5 (by rw [hsz7] at ht; exact ht)⟩)
  (fun c s A B ⟨q0,q1,q2,q3,q4,q5⟩ ht=>by
   rw [hsz7] at ht
   have key:∀ k c ty fz,A.heap[k]? = some (.cells c ty fz)→k < N + 4→B.heap[k]? = some (.cells c ty fz):=fun k c ty fz hk hc=>ht.block k _ hk (fun hz=>by have:=hZ k hz; omega) (.inr rfl)
   refine ⟨q0,q1,⟨ht.os.trans q2.os,ht.tape.trans q2.tape,ht.output.trans q2.output,Nat.le_trans q2.size ht.size,fun k hk=>?_⟩,Nat.le_trans q3 ht.size,key _ _ _ _ q4 (by omega),key _ _ _ _ q5 (by omega)⟩
   have hb:=q2.block k hk
   have hkw:k < w.heap.size:=by omega
   rw [Array.getElem?_eq_getElem hkw] at hb ⊢
   exact ht.block k _ hb (fun hz=>by have:=hZ k hz; omega) (.inl (by omega)))
  ⟨piecesB 44 S,[],0,.slice none 0 0,rfl,by simpa [piecesB,bsOf,List.map_map,Function.comp_def] using hr,rfl,⟨by simp,by simp⟩,hL0⟩
  (fun x=>{ tmps:=#[.string S,undef,.pointer (some ⟨N,0,none⟩),.pointer (some ⟨N + 1,0,none⟩),.pointer (some ⟨N + 2,0,none⟩),.pointer (some ⟨N + 3,0,none⟩),.string x,undef,undef,.string S,.bool false,undef,.string S,
   .func (.func 180) #[] #[.pointer (some ⟨N + 5,0,none⟩),.pointer (some ⟨N + 4,0,none⟩),.pointer (some ⟨N + 6,0,none⟩)],.string x,undef,undef,undef,undef,undef,undef,undef,undef,undef,undef,undef,undef,undef,undef,undef,undef,undef,undef,undef,undef,undef,undef,undef,undef],defers:=[] }) ?assign ?body ?done ?stop
 case assign =>
  intro l x W K hK
  gi_wp2
  exact hK
 case body =>
  rintro l pre x W hl ⟨rest,o,at',v,q1,q2,q3,q4,q5⟩ hpre hszW
  obtain ⟨rest',rfl⟩:∃ rest',rest = x :: rest':=by
   rw [q1] at hpre
   have:=(List.prefix_append_right_inj pre).1 hpre
   obtain ⟨t,ht⟩:=this
   exact ⟨t,by simpa using ht.symm⟩
  simp only [List.map_cons,listF] at q2
  cases hp:parseF x.data.toList with
  | none=>rw [hp] at q2; cases q2
  | some abce =>
  obtain ⟨a,b,c,err⟩:=abce
  rw [hp] at q2
  simp only [Option.bind_some] at q2
  obtain ⟨ba,cap,rfl⟩:∃ ba cap,v = .slice ba o.length cap:=by
   obtain ⟨_,⟨rfl,h0⟩ | ⟨g,cap,cur,rfl,_⟩⟩:=q5.own
   ·exact ⟨none,0,by rw [h0]⟩
   ·exact ⟨_,_,rfl⟩
  have hplen:pre.length + 1 + rest'.length ≤ S.size + 1:=by
   have:=congrArg List.length q1
   simp [piecesB] at this
   omega
  have hxl:x.size ≤ S.size:=by
   have hx:x ∈ piecesB 44 S:=by rw [q1]; simp
   obtain ⟨p,hp1,rfl⟩:=List.mem_map.1 hx
   have:=hpl.2.2 p hp1
   show (bsOf p).data.size ≤ _
   simp [bsOf]; omega
  have hbw:Below N w W:=q5.bel
  have hWN:N + 7 ≤ W.heap.size:=q5.size
  by_cases h20:(o.length:Int) = 20
  ·rw [if_pos (by omega)] at q2
   gi_wp2_with (refine ⟨trivial,?_⟩; gi_at_call 45; refine (CallsIn.inRound l (callsIn_wide.2 (hP W x a b c err (by rw [hN]; exact hbw) hp))).mono ?_; rintro e W1 ⟨rfl,hW1⟩; have hLI1:=LI.below hWN q5 hW1; obtain ⟨d4,f4⟩:=hLI1.cell4; obtain ⟨d5,f5⟩:=hLI1.cell5; obtain ⟨d2,f2⟩:=hLI1.cell2; obtain ⟨d3,d3',f3,f3'⟩:=hLI1.cell3; have D4:=cal (.cells #[.int .i64 a,.int .i64 b,.int .i64 c] 69) d4; have D5:=cal (.cells #[.int .i64 a,.int .i64 b,.int .i64 c] 69) d5; have F4:=fal (.cells #[.int .i64 a,.int .i64 b,.int .i64 c] 69) d4 f4; have F5:=fal (.cells #[.int .i64 a,.int .i64 b,.int .i64 c] 69) d5 f5; have D2:=cal (.cells #[.int .i64 a,.int .i64 b,.int .i64 c] 69) d2; have F2:=fal (.cells #[.int .i64 a,.int .i64 b,.int .i64 c] 69) d2 f2; have D3:=cal (.cells #[.int .i64 a,.int .i64 b,.int .i64 c] 69) d3; have F3:=fal (.cells #[.int .i64 a,.int .i64 b,.int .i64 c] 69) d3 f3; have D3':=cal (.cells #[.int .i64 a,.int .i64 b,.int .i64 c] 69) d3'; have F3':=fal (.cells #[.int .i64 a,.int .i64 b,.int .i64 c] 69) d3' f3')
   all_goals gi_wp2
   gi_region
   all_goals gi_wp2
   all_goals
    have hf:=fin_err hLI1 hW1.size (fun k hk=>hW1.block k hk) (.cells #[.int .i64 a,.int .i64 b,.int .i64 c] 69) (.int .i64 5) (.int .i64 at')
    simp only [Option.some.injEq,Prod.mk.injEq] at q2
    obtain ⟨r1,r2,r3⟩:=q2
    rw [hsz7]
    refine ⟨keeps_of (fun k hk=>(hZ k hk).1) hf.1,rfl,r1.symm,hf.2.1,hf.2.2.1,hf.2.2.2.1,?_⟩
    rw [← r2,← r3]
    exact hf.2.2.2.2
  ·rw [if_neg (by omega)] at q2
   by_cases he:err = 0
   ·rw [if_neg (by omega)] at q2
    obtain ⟨i69,z69,u74,hi69,hz69,hs69,hb69,hc69⟩:=info69
    gi_wp2_with (first | (refine ⟨trivial,?_⟩; gi_at_call 45; refine (CallsIn.inRound l (callsIn_wide.2 (hP W x a b c err (by rw [hN]; exact hbw) hp))).mono ?_; rintro e W1 ⟨rfl,hW1⟩; have hLI1:=LI.below hWN q5 hW1; have hown1:=hLI1.own; rw [q3] at hown1; obtain ⟨d4,f4⟩:=hLI1.cell4; obtain ⟨d5,f5⟩:=hLI1.cell5; obtain ⟨d2,f2⟩:=hLI1.cell2; obtain ⟨d3,d3',f3,f3'⟩:=hLI1.cell3; have D4:=cal (.cells #[.int .i64 a,.int .i64 b,.int .i64 c] 69) d4; have D5:=cal (.cells #[.int .i64 a,.int .i64 b,.int .i64 c] 69) d5; have F4:=fal (.cells #[.int .i64 a,.int .i64 b,.int .i64 c] 69) d4 f4; have F5:=fal (.cells #[.int .i64 a,.int .i64 b,.int .i64 c] 69) d5 f5; have D2:=cal (.cells #[.int .i64 a,.int .i64 b,.int .i64 c] 69) d2; have F2:=fal (.cells #[.int .i64 a,.int .i64 b,.int .i64 c] 69) d2 f2; have D3:=cal (.cells #[.int .i64 a,.int .i64 b,.int .i64 c] 69) d3; have F3:=fal (.cells #[.int .i64 a,.int .i64 b,.int .i64 c] 69) d3 f3; have D3':=cal (.cells #[.int .i64 a,.int .i64 b,.int .i64 c] 69) d3'; have F3':=fal (.cells #[.int .i64 a,.int .i64 b,.int .i64 c] 69) d3' f3') | (gi_at_builtin; go_loud (refine wpListIn_append_own _ rfl _ _ 74 rfl (N + 7) 69 _ z69 3 24 u74 hi69 hz69 hs69 hb69 hc69 (by decide) _ _ _ rfl (own_alloc (own_alloc hown1 _) _) ⟨W1.heap.size + 1,0,none⟩ 1 1 [.int .i64 a,.int .i64 b,.int .i64 c] rfl rfl ?c1 ?c2 ?c3 ?c4 ?c5 ?_)))
    case c1=>simpa using cell_three_new (W1.alloc (.cells #[.int .i64 a,.int .i64 b,.int .i64 c] 69)) (.int .i64 a) (.int .i64 b) (.int .i64 c) 69
    case c2=>intro u hu; simp at hu; rcases hu with rfl | rfl | rfl <;> rfl
    case c3=>exact len_a hS hplen
    case c4=>exact len_b hS hplen
    case c5=>exact size_a q5.size hW1.size
    intro v2 W2 hown2 hg2 _
    obtain ⟨ba2,cap2,rfl⟩:∃ ba2 cap2,v2 = .slice ba2 (pre.length + 1) cap2:=by
     obtain ⟨_,⟨rfl,h0⟩ | ⟨g,cap,cur,rfl,_⟩⟩:=hown2
     ·exact absurd h0 (Nat.succ_ne_zero _)
     ·exact ⟨_,_,rfl⟩
    obtain ⟨ha4,ha5⟩:=after_two hLI1 _ _ (by rw [q3]; exact hg2)
    have e4:=(cell_of_heap ha4).trans d4
    have e5:=(cell_of_heap ha5).trans d5
    have g4:=(frozen_of_heap ha4).trans f4
    have g5:=(frozen_of_heap ha5).trans f5
    have hx5:x.size ≤ 100000:=Nat.le_trans hxl (Nat.le_of_lt hS)
    have wr1:=wr_a x.size hx5
    have wr2:=wr_b at' x.size q4.1 (at_bound hS hplen q4.2) hx5
    have hfo:=fin_ok hZ q5 hLI1 (fun k hk=>hW1.block k hk) hW1.size _ _ (by rw [q3]; exact hg2) (a,b,c) (v2:=.slice ba2 (pre.length + 1) cap2) (at2:=at' + ((x.size:Int) + 1)) (by rw [q3]; exact hown2)
    have hfin:Keeps (fun k=>k = N + 4 ∨ k = N + 5 ∨ k = N + 6) (N + 7) W ((W2.setCell ⟨N + 2,0,none⟩ (.slice ba2 (pre.length + 1) cap2)).setCell ⟨N + 3,0,none⟩ (.int .i64 (at' + ((x.size:Int) + 1)))) ∧
      ∃ (rest:List ByteArray) (o:List (Int × Int × Int)) (at2:Int) (v:Value),piecesB 44 S = (pre++[x])++rest∧listF parseF (rest.map (fun x=>x.data.toList)) o at2 = some (out,e1,e2)∧o.length = (pre++[x]).length∧(0 ≤ at2∧at2 ≤ 100001 * ((pre++[x]).length:Int)) ∧
       LI N w ((W2.setCell ⟨N + 2,0,none⟩ (.slice ba2 (pre.length + 1) cap2)).setCell ⟨N + 3,0,none⟩ (.int .i64 (at' + ((x.size:Int) + 1)))) v o at2 :=
     ⟨hfo.2,rest',o++[(a,b,c)],at' + ((x.size:Int) + 1),.slice ba2 (pre.length + 1) cap2,by rw [q1]; simp,q2,by simp [q3],at_next pre x q4 hx5,hfo.1⟩
    clear q1 q2 q3 q4 q5 hfo hplen hpl hSl hxl hS hown1 hown2 hg2 hWN hszW hL0 hb7 hP hZ hl hbw hr h20 hp hx5 hLI1 hW1
    gi_wp2
    rw [hsz7]
    exact hfin
   ·rw [if_pos he] at q2
    gi_wp2_with (refine ⟨trivial,?_⟩; gi_at_call 45; refine (CallsIn.inRound l (callsIn_wide.2 (hP W x a b c err (by rw [hN]; exact hbw) hp))).mono ?_; rintro e W1 ⟨rfl,hW1⟩; have hLI1:=LI.below hWN q5 hW1; obtain ⟨d4,f4⟩:=hLI1.cell4; obtain ⟨d5,f5⟩:=hLI1.cell5; obtain ⟨d2,f2⟩:=hLI1.cell2; obtain ⟨d3,d3',f3,f3'⟩:=hLI1.cell3; have D4:=cal (.cells #[.int .i64 a,.int .i64 b,.int .i64 c] 69) d4; have D5:=cal (.cells #[.int .i64 a,.int .i64 b,.int .i64 c] 69) d5; have F4:=fal (.cells #[.int .i64 a,.int .i64 b,.int .i64 c] 69) d4 f4; have F5:=fal (.cells #[.int .i64 a,.int .i64 b,.int .i64 c] 69) d5 f5; have D2:=cal (.cells #[.int .i64 a,.int .i64 b,.int .i64 c] 69) d2; have F2:=fal (.cells #[.int .i64 a,.int .i64 b,.int .i64 c] 69) d2 f2; have D3:=cal (.cells #[.int .i64 a,.int .i64 b,.int .i64 c] 69) d3; have F3:=fal (.cells #[.int .i64 a,.int .i64 b,.int .i64 c] 69) d3 f3; have D3':=cal (.cells #[.int .i64 a,.int .i64 b,.int .i64 c] 69) d3'; have F3':=fal (.cells #[.int .i64 a,.int .i64 b,.int .i64 c] 69) d3' f3')
    all_goals gi_wp2
    gi_region
    all_goals gi_wp2
    all_goals
     have hf:=fin_err hLI1 hW1.size (fun k hk=>hW1.block k hk) (.cells #[.int .i64 a,.int .i64 b,.int .i64 c] 69) (.int .i64 err) (.int .i64 at')
     simp only [Option.some.injEq,Prod.mk.injEq] at q2
     obtain ⟨r1,r2,r3⟩:=q2
     rw [hsz7]
     refine ⟨keeps_of (fun k hk=>(hZ k hk).1) hf.1,rfl,r1.symm,hf.2.1,hf.2.2.1,hf.2.2.2.1,?_⟩
     rw [← r2,← r3]
     exact hf.2.2.2.2
 case done =>
  rintro D W hD ⟨rest,o,at',v,q1,q2,q3,q4,q5⟩ hK
  obtain rfl:rest = []:=by simpa using q1
  simp only [List.map_nil,listF,Option.some.injEq,Prod.mk.injEq] at q2
  obtain ⟨rfl,rfl,rfl⟩:=q2
  obtain ⟨ba,cap,rfl⟩:∃ ba cap,v = .slice ba o.length cap:=by
   obtain ⟨_,⟨rfl,h0⟩ | ⟨g,cap,cur,rfl,_⟩⟩:=q5.own
   ·exact ⟨none,0,by rw [h0]⟩
   ·exact ⟨_,_,rfl⟩
  obtain ⟨d4,f4⟩:=q5.cell4
  obtain ⟨d2,f2⟩:=q5.cell2
  obtain ⟨d3,d3',f3,f3'⟩:=q5.cell3
  clear hP hr q1 q3 q4
  gi_wp2
  obtain ⟨r0,r1,r2,r3,r4⟩:=fin_ret q5 0 0
  have hK':=(r4 D (by omega)).trans hK
  obtain ⟨l0,l1,l2⟩:=leave (w:=w) (n:=0) (xs:=[]) (by omega) r0 r1 hK'
  refine ⟨by simp,.inl ⟨_,_,rfl,run_takeDeferred hK',?_⟩⟩
  refine ⟨.tuple #[.slice ba o.length cap,.agg #[.int .i64 0,.int .i64 0]],?_,.slice ba o.length cap,rfl,?_,?_⟩
  ·simp [results,Tryd.f47,go_sem,l0,l1,l2]
  ·rw [hN]; exact own_mono (own_put r3 hK' rfl _) (by omega)
  ·rw [hN]; exact below_put r2 (by omega) _
 case stop =>
  rintro D c pre W hD ⟨rfl,rfl,q2,q3,q4,q5⟩ hK
  clear hP hr
  gi_wp2
  obtain ⟨l0,l1,l2⟩:=leave (w:=w) (n:=0) (xs:=[]) (by omega) q4 q5 hK
  refine ⟨by simp,.inl ⟨_,_,rfl,run_takeDeferred hK,?_⟩⟩
  refine ⟨.tuple #[.slice none 0 0,.agg #[.int .i64 e1,.int .i64 e2]],?_,.slice none 0 0,rfl,World.ownsRow_nil _ _ _ _,?_⟩
  ·simp [results,Tryd.f47,go_sem,l0,l1,l2]
  ·rw [hN]; exact below_put q2 (by omega) _
set_option maxRecDepth 20000 in
set_option maxHeartbeats 8000000 in
theorem list_none (S:ByteArray) (hne:S.data.toList = []) (w:World) :
  Calls Tryd.prog 47 #[.string S] w fun en w'=>en = .returned (.tuple #[.slice none 0 0,.agg #[.int .i64 0,.int .i64 0]])∧Below w.heap.size w w':=by
 refine (callsIn_wide (n:=3)).1 ?_
 refine callsIn_of_wp_marks Tryd.func47 rfl trivial ?_ rfl
 simp only [Tryd.ntmps47,List.size_toArray,List.length_cons,List.length_nil,Nat.reduceAdd,Nat.reduceSub,Array.replicate_succ,Array.replicate_zero,List.push_toArray,List.append_toArray,List.nil_append,List.cons_append]
 have mixed:Tryd.prog.follows .mixedOrders = true:=by kernel_rfl
 have hE:S.toList.isEmpty = true:=by rw [Lib.toList_data,hne]; rfl
 gi_wp2
 refine ⟨.tuple #[.slice none 0 0,.agg #[.int .i64 0,.int .i64 0]],?_,rfl,((Below.refl _ _).alloc (Nat.le_refl _) _).alloc (by simp) _⟩
 simp [results,Tryd.f47,go_sem]
end Go.Seq
