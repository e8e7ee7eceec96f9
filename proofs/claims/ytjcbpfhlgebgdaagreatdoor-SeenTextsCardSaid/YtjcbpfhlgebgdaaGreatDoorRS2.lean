import Derived.RangeFuncRecord
import Derived.RangeFuncNested
set_option linter.unusedSimpArgs false
set_option linter.unusedVariables false
namespace Go.Seq
open Go.RowKit
structure Zq (Z:Nat->Prop) (A B:World):Prop where
 os:B.os = A.os
 tape:B.tape = A.tape
 output:B.output = A.output
 size:A.heap.size <= B.heap.size
 block:∀ k,k < A.heap.size->¬ Z k->B.heap[k]? = A.heap[k]?
def zrr {α:Type} (F:Fence) (n:Nat) (P:Program) (g:Nat) (lb:Array Value) (encs:α->Array Value) (Z:Nat->Prop) (xs:List α) (w:World):Prop :=
 ∀ (l:Nat) (J Jx:List α->World->Prop),(∀ s A B,J s A->Zq Z A B->J s B)->(∀ s A B,Jx s A->Zq Z A B->Jx s B) ->
  ∀ W,Zq (fun _=>False) w W ->
  (∀ pre x W1,J pre W1->pre++[x] <+: xs->YieldAt F (n - 1) P l (encs x) W1 fun e W' =>
   (e = .returned (.bool true)/\J (pre++[x]) W'/\∀ k,Z k->W'.heap[k]? = W1.heap[k]?) ∨ (e = .returned (.bool false)/\Jx (pre++[x]) W')) ->
  J [] W ->
  CallsIn F n P g (#[.func (.yield l) #[] #[]]++lb) W fun e W'=>(∃ v,e = .returned v)/\(J xs W' ∨ ∃ pre,Jx pre W')
structure yZ (Z:Nat->Prop) (N:Nat) (A B:World):Prop where
 os:B.os = A.os
 tape:B.tape = A.tape
 output:B.output = A.output
 size:A.heap.size <= B.heap.size
 block:∀ k o,A.heap[k]? = some o->¬ Z k->(k < N ∨ o.isCells = true)->B.heap[k]? = some o
theorem Zq.turns {Z:Nat->Prop} {N:Nat} {A B:World} (h:Zq Z A B):yZ Z N A B :=
 ⟨h.os,h.tape,h.output,h.size,fun k o ho hz _=>(h.block k (Array.getElem?_eq_some_iff.1 ho).1 hz).trans ho⟩
theorem yZ.putObj {Z:Nat->Prop} {N l:Nat} {A:World} {o:Obj} (o':Obj) (hl:A.heap[l]? = some o) (hN:N <= l) (ho:o.isCells = false):yZ Z N A (A.putObj l o') :=
 ⟨rfl,rfl,rfl,by simp,fun k o2 h2 _ hc=>by
  by_cases e:k = l
  ·subst e
   rw [hl] at h2; cases h2
   rcases hc with hc | hc
   ·omega
   ·rw [ho] at hc; cases hc
  ·exact (World.putObj_heap_other e).trans h2⟩
theorem yZ.alloc {Z:Nat->Prop} {N:Nat} {A:World} (o:Obj):yZ Z N A (A.alloc o) :=
 ⟨rfl,rfl,rfl,by simp,fun k o2 h2 _ _=>by
  have:=(Array.getElem?_eq_some_iff.1 h2).1
  show (A.heap.push o)[k]? = _
  rw [Array.getElem?_push_lt this,<- h2,Array.getElem?_eq_getElem this]⟩
def ZI (Z:Nat->Prop) (N:Nat) (A B:World):Prop:=∀ k o,A.heap[k]? = some o->(Z k ∨ (N <= k/\o.isCells = false))->B.heap[k]? = some o
def zpC {α:Type} (Z:Nat->Prop) (N:Nat) (I:List α->World->Prop) (Ix:Code->List α->World->Prop) (xs:List α) (W:World):Exit->Act->World->Prop
 | .normal,_,W'=>ZI Z N W W'/\I xs W'
 | .ret,_,W'=>ZI Z N W W'/\Ix .ret xs W'
 | .exit id,_,W'=>ZI Z N W W'/\Ix (.exit id) xs W'
 | _,_,_=>False
variable {F:Fence} {n:Nat} {P:Program}
end Go.Seq
namespace Go.Seq
open Go.RowKit
def zko {α:Type} (G:World->Prop) (F:Fence) (n:Nat) (P:Program) (g:Nat) (lb:Array Value) (encs:α->Array Value) (Z:Nat->Nat->Prop) (xs:List α) (w:World):Prop :=
 ∀ (l:Nat) (W:World),Zq (fun _=>False) w W->∀ (J Jx:List α->World->Prop),(∀ s A,J s A->G A)->(∀ s A B,J s A->Zq (Z W.heap.size) A B->J s B)->(∀ s A B,Jx s A->Zq (Z W.heap.size) A B->Jx s B) ->
  (∀ pre x W1,J pre W1->(∀ k,Z W.heap.size k->k < W1.heap.size)->pre++[x] <+: xs->YieldAt F (n - 1) P l (encs x) W1 fun e W' =>
   (e = .returned (.bool true)/\J (pre++[x]) W'/\∀ k,Z W.heap.size k->W'.heap[k]? = W1.heap[k]?) ∨ (e = .returned (.bool false)/\Jx (pre++[x]) W')) ->
  J [] W ->
  CallsIn F n P g (#[.func (.yield l) #[] #[]]++lb) W fun e W'=>(∃ v,e = .returned v)/\(J xs W' ∨ ∃ pre,Jx pre W')
theorem zrr.seqY {α:Type} {G:World->Prop} {F:Fence} {n:Nat} {P:Program} {g:Nat} {lb:Array Value} {encs:α->Array Value} {Z:Nat->Prop} {xs:List α} {w:World} (h:zrr F n P g lb encs Z xs w) (hZ:∀ k,Z k->k < w.heap.size):zko G F n P g lb encs (fun _=>Z) xs w:=by
 intro l W hW J Jx _ hJ hJx hY h0
 refine (h l (fun s A=>J s A/\∀ k,Z k->k < A.heap.size) Jx (fun s A B hs hm=>⟨hJ s A B hs.1 hm,fun k hk=>Nat.lt_of_lt_of_le (hs.2 k hk) hm.size⟩) hJx W hW ?_ ⟨h0,fun k hk=>Nat.lt_of_lt_of_le (hZ k hk) hW.size⟩).mono ?_
 ·intro pre x W1 hs hp
  obtain ⟨fn,tmps,assign,body,hy,hR⟩:=hY pre x W1 hs.1 hs.2 hp
  refine ⟨fn,tmps,assign,body,hy,hR.mono ?_⟩
  rintro e W' (⟨rfl,q1,q2⟩ | ⟨rfl,q⟩)
  ·refine .inl ⟨rfl,⟨q1,fun k hk=>?_⟩,q2⟩
   have h1:=hs.2 k hk
   have h2:=q2 k hk
   rw [Array.getElem?_eq_getElem h1] at h2
   exact (Array.getElem?_eq_some_iff.1 h2).1
  ·exact .inr ⟨rfl,q⟩
 ·rintro e W' ⟨he,q | q⟩
  ·exact ⟨he,.inl q.1⟩
  ·exact ⟨he,.inr q⟩
theorem zko.inRound {α:Type} {G:World->Prop} {F:Fence} {n:Nat} {P:Program} {g:Nat} {lb:Array Value} {encs:α->Array Value} {Z:Nat->Nat->Prop} {xs:List α} {w:World} (l:Nat) (h:zko G F n P g lb encs Z xs w):zko G (F.inRound l) n P g lb encs Z xs w:=h
variable {F:Fence} {n:Nat} {P:Program}
theorem zdZ {α:Type} {g:Operand} {ps:Array Tmp} {assign body:Code} {Q:Exit->Act->World->Prop} {a:Act} {w:World}
  (hro:F.round = none) (h1:1 <= n) {gf:Nat} {lb:Array Value} (hg:a.eval g = .func (.func gf) #[] lb) (hFg:F.fn gf) (eg:∀ args w,(callFunc gf args).run P w = .ok (.enter gf args) w)
  {encs:α->Array Value} {Z0:Nat->Nat->Prop} {Z:Nat->Prop} {xs:List α} {G:World->Prop} (hseq:zko G F (n - 1) P gf lb encs Z0 xs w) (hZ0:Z0 (w.heap.size + 2) = Z) (hZ:¬ Z w.heap.size/\¬ Z (w.heap.size + 1)) (hps:∀ x,(encs x).size = ps.size)
  (I:List α->World->Prop) (Ix:Code->List α->World->Prop) (hI:∀ s A B,I s A->yZ Z w.heap.size A B->I s B) (hIx:∀ c s A B,Ix c s A->yZ Z w.heap.size A B->Ix c s B) (hIG:∀ s A,I s A->G A) (h0:I [] w) (a₁:α->Act)
  (hassign:∀ (l:Nat) (x:α) (W:World) (K:Act->World->Prop),K (a₁ x) W ->
   assign.wpIn (F.inRound l) (n - 1 - 1) P (Exit.then K (fun _ _ _=>False)) { tmps:=(ps.zip (encs x)).foldl (fun t (p,v)=>t.setIfInBounds p v) a.tmps,defers:=[] } W)
  (hbody:∀ (l:Nat) (pre:List α) (x:α) (W:World),w.heap.size <= l->(∃ r,W.heap[l]? = some (.loop r))->(∀ k,Z k->k < W.heap.size)->I pre W->pre++[x] <+: xs->w.heap.size <= W.heap.size->body.wpIn (F.inRound l) (n - 1 - 1) P (zpC Z w.heap.size I Ix (pre++[x]) W) (a₁ x) W)
  (hdone:∀ (D:Nat) (W:World),w.heap.size <= D->I xs W->W.heap[D]? = some (.deferred (some []))->Q .normal { a with defers:={ target:=.collected D,args:=#[] } :: a.defers } W)
  (hstop:∀ (D:Nat) (c:Code) (pre:List α) (W:World),w.heap.size <= D->Ix c pre W->W.heap[D]? = some (.deferred (some []))->c.wpIn F n P Q { a with defers:={ target:=.collected D,args:=#[] } :: a.defers } W) :
  (Code.rangeFunc g ps assign body).wpIn F n P Q a w:=by
 refine wpIn_rangeFunc ?_
 intro fn hfn
 rw [hro]
 obtain ⟨rec,hrec⟩:∃ rec:LoopState->Option Code->Loop,rec = fun st pe=>{ state:=st,pending:=pe,fn,tmps:=a.tmps,params:=ps,assign,body,defers:=w.heap.size }:=⟨_,rfl⟩
 obtain ⟨W1,hW1⟩:∃ W1,(w.alloc (.deferred (some []))).alloc (.loop (rec .ready none)) = W1:=⟨_,rfl⟩
 have hL1:W1.heap[w.heap.size + 1]? = some (.loop (rec .ready none)):=by
  rw [<- hW1]; have:=World.alloc_heap_new (w.alloc (.deferred (some []))) (.loop (rec .ready none)); rwa [World.size_alloc] at this
 have hK1:W1.heap[w.heap.size]? = some (.deferred (some [])):=by
  rw [<- hW1]; exact (Below.heap_alloc _ _ _ (by simp)).trans (World.alloc_heap_new w _)
 have hI1:I [] W1:=by rw [<- hW1]; exact hI _ _ _ (hI _ _ _ h0 (yZ.alloc _)) (yZ.alloc _)
 have hm1:Zq (fun _=>False) w W1:=by
  rw [<- hW1]
  refine ⟨rfl,rfl,rfl,by simp; omega,fun k hk _=>?_⟩
  exact (Below.heap_alloc _ _ _ (by simp; omega)).trans (Below.heap_alloc _ _ _ hk)
 have hW1s:W1.heap.size = w.heap.size + 2:=by rw [<- hW1]; simp
 refine ⟨w.heap.size + 1,[{ target:=.collected w.heap.size,args:=#[] }],W1,{ target:=.fn (.func gf) lb,args:=#[.func (.yield (w.heap.size + 1)) #[] #[]] },W1,gf,
  #[.func (.yield (w.heap.size + 1)) #[] #[]]++lb,W1,?_,?_,?_,?_,fun _=>h1,?_⟩
 ·rw [<- hW1,hrec]; exact run_enterLoop_outer _ _ _ _ _
 ·simp only [resolve,hg]
  simp [go_sem]
 ·intro f' hf'; simp [Target.leads] at hf'; subst hf'; exact hFg
 ·simp [invoke,go_sem,eg]
 ·rw [<- hW1s] at hZ0
  subst hZ0
  refine (hseq (w.heap.size + 1) W1 hm1
   (fun pre W=>I pre W/\w.heap.size <= W.heap.size/\W.heap[w.heap.size + 1]? = some (.loop (rec .ready none))/\W.heap[w.heap.size]? = some (.deferred (some [])))
   (fun pre W=>∃ c,Ix c pre W/\W.heap[w.heap.size + 1]? = some (.loop (rec .done (some c)))/\W.heap[w.heap.size]? = some (.deferred (some [])))
   (fun s A hs=>hIG s A hs.1)
   (fun s A B hs hm=>⟨hI s A B hs.1 hm.turns,Nat.le_trans hs.2.1 hm.size,(hm.block _ (Array.getElem?_eq_some_iff.1 hs.2.2.1).1 hZ.2).trans hs.2.2.1,(hm.block _ (Array.getElem?_eq_some_iff.1 hs.2.2.2).1 hZ.1).trans hs.2.2.2⟩)
   (fun s A B hs hm=>by
    obtain ⟨c,hc,hl,hk⟩:=hs
    exact ⟨c,hIx c s A B hc hm.turns,(hm.block _ (Array.getElem?_eq_some_iff.1 hl).1 hZ.2).trans hl,(hm.block _ (Array.getElem?_eq_some_iff.1 hk).1 hZ.1).trans hk⟩)
   ?_ ⟨hI1,hm1.size,hL1,hK1⟩).mono ?_
  ·rintro pre x W ⟨hi,hsz,hl,hk⟩ hex hlen
   have hlt:w.heap.size + 1 < W.heap.size:=(Array.getElem?_eq_some_iff.1 hl).1
   have hy:=run_yield (P:=P) (args:=encs x) hl (by rw [hrec]; exact hps x)
   rw [hrec] at hy
   refine ⟨fn,_,assign,body,hy,roundIn_of_wpIn hfn (hassign _ x W _ ?_)⟩
   clear hy
   refine ⟨_,run_beginRound hl (by rw [hrec]),?_⟩
   have hl2:(W.putObj (w.heap.size + 1) (.loop { rec .ready none with state:=.busy })).heap[w.heap.size + 1]? = some (.loop { rec .ready none with state:=.busy }):=World.putObj_heap_same hlt
   have hk2:(W.putObj (w.heap.size + 1) (.loop { rec .ready none with state:=.busy })).heap[w.heap.size]? = some (.deferred (some [])):=(World.putObj_heap_other (by omega)).trans hk
   refine wpIn_mono (hbody _ pre x _ (by omega) ⟨_,hl2⟩ (fun k hk=>by simpa using hex k hk) (hI _ _ _ hi (yZ.putObj _ hl (by omega) rfl)) hlen (by simpa using hsz)) ?_
   have fin:∀ (jump:Option Code) (W3:World),ZI (Z0 W1.heap.size) w.heap.size (W.putObj (w.heap.size + 1) (.loop { rec .ready none with state:=.busy })) W3 ->
     (Instr.endRound (w.heap.size + 1) jump).run P W3 = .ok (.bool jump.isNone) (W3.putObj (w.heap.size + 1) (.loop (rec (if jump.isNone then .ready else .done) jump))) /\
     W3.heap[w.heap.size + 1]? = some (.loop { rec .ready none with state:=.busy }) /\
     (W3.putObj (w.heap.size + 1) (.loop (rec (if jump.isNone then .ready else .done) jump))).heap[w.heap.size + 1]? = some (.loop (rec (if jump.isNone then .ready else .done) jump)) /\
     (W3.putObj (w.heap.size + 1) (.loop (rec (if jump.isNone then .ready else .done) jump))).heap[w.heap.size]? = some (.deferred (some [])):=fun jump W3 hk3=>by
    have hl3:=hk3 _ _ hl2 (.inr ⟨by omega,rfl⟩)
    have:=run_endRound (P:=P) jump hl3
    rw [hrec] at this ⊢
    exact ⟨this,by rw [hrec] at hl3; exact hl3,World.putObj_heap_same (Array.getElem?_eq_some_iff.1 hl3).1,(World.putObj_heap_other (by omega)).trans (hk3 _ _ hk2 (.inr ⟨Nat.le_refl _,rfl⟩))⟩
   have keepZ:∀ (o':Obj) (W3:World),ZI (Z0 W1.heap.size) w.heap.size (W.putObj (w.heap.size + 1) (.loop { rec .ready none with state:=.busy })) W3->∀ k,Z0 W1.heap.size k->(W3.putObj (w.heap.size + 1) o').heap[k]? = W.heap[k]?:=fun o' W3 hk3 k hz=>by
    have hkW:k < W.heap.size:=hex k hz
    have hne:k ≠ w.heap.size + 1:=fun e=>hZ.2 (by rw [<- e]; exact hz)
    have e1:(W.putObj (w.heap.size + 1) (.loop { rec .ready none with state:=.busy })).heap[k]? = some W.heap[k]:=(World.putObj_heap_other hne).trans (Array.getElem?_eq_getElem hkW)
    rw [World.putObj_heap_other hne,hk3 _ _ e1 (.inl hz),Array.getElem?_eq_getElem hkW]
   rintro e a3 W3 hp
   have hsz3:ZI (Z0 W1.heap.size) w.heap.size (W.putObj (w.heap.size + 1) (.loop { rec .ready none with state:=.busy })) W3->w.heap.size + 1 < W3.heap.size:=fun hk3 =>
    (Array.getElem?_eq_some_iff.1 (hk3 _ _ hl2 (.inr ⟨by omega,rfl⟩))).1
   cases e with
   | normal =>
    obtain ⟨hk3,hi3⟩:=hp
    obtain ⟨hr,hl3,hl4,hk4⟩:=fin none W3 hk3
    exact ⟨_,_,hr,.inl ⟨rfl,⟨hI _ _ _ hi3 (yZ.putObj _ hl3 (by omega) rfl),by have:=hsz3 hk3; simp; omega,hl4,hk4⟩,keepZ _ W3 hk3⟩⟩
   | ret =>
    obtain ⟨hk3,hi3⟩:=hp
    obtain ⟨hr,hl3,hl4,hk4⟩:=fin (some .ret) W3 hk3
    exact ⟨_,_,hr,.inr ⟨rfl,.ret,hIx _ _ _ _ hi3 (yZ.putObj _ hl3 (by omega) rfl),hl4,hk4⟩⟩
   | exit id =>
    obtain ⟨hk3,hi3⟩:=hp
    obtain ⟨hr,hl3,hl4,hk4⟩:=fin (some (.exit id)) W3 hk3
    exact ⟨_,_,hr,.inr ⟨rfl,.exit id,hIx _ _ _ _ hi3 (yZ.putObj _ hl3 (by omega) rfl),hl4,hk4⟩⟩
   | goto t=>exact hp.elim
   | panic ch=>exact hp.elim
   | outgrown=>exact hp.elim
  ·rintro e W2 ⟨⟨v,rfl⟩,⟨hi,hsz,hl,hk⟩ | ⟨pre,c,hi,hl,hk⟩⟩
   ·exact ⟨none,_,by have:=run_endLoop (P:=P) hl (by rw [hrec]; simp); rw [hrec] at this; exact this,hdone _ _ (Nat.le_refl _) (hI _ _ _ hi (yZ.putObj _ hl (by omega) rfl)) ((World.putObj_heap_other (by omega)).trans hk)⟩
   ·exact ⟨some c,_,by have:=run_endLoop (P:=P) hl (by rw [hrec]; simp); rw [hrec] at this; exact this,hstop _ c pre _ (Nat.le_refl _) (hIx _ _ _ _ hi (yZ.putObj _ hl (by omega) rfl)) ((World.putObj_heap_other (by omega)).trans hk)⟩
theorem zdr {α:Type} {g:Operand} {ps:Array Tmp} {assign body:Code} {Q:Exit->Act->World->Prop} {a:Act} {w:World}
  {l₀:Nat} {r₀:Loop} (hro:F.round = some l₀) (hl₀:w.heap[l₀]? = some (.loop r₀)) (h1:1 <= n) {gf:Nat} {lb:Array Value} (hg:a.eval g = .func (.func gf) #[] lb) (hFg:F.fn gf) (eg:∀ args w,(callFunc gf args).run P w = .ok (.enter gf args) w)
  {encs:α->Array Value} {Z0:Nat->Nat->Prop} {Z:Nat->Prop} {xs:List α} {G:World->Prop} (hseq:zko G F (n - 1) P gf lb encs Z0 xs w) (hZ0:Z0 (w.heap.size + 1) = Z) (hZ:¬ Z w.heap.size) (hps:∀ x,(encs x).size = ps.size)
  (I:List α->World->Prop) (Ix:Code->List α->World->Prop) (hI:∀ s A B,I s A->yZ Z w.heap.size A B->I s B) (hIx:∀ c s A B,Ix c s A->yZ Z w.heap.size A B->Ix c s B) (hIG:∀ s A,I s A->G A) (h0:I [] w)
  (Ax:α->Act->World->Prop) (hAx:∀ x a' A B,Ax x a' A->yZ Z w.heap.size A B->Ax x a' B)
  (hassign:∀ (l:Nat) (pre:List α) (x:α) (W:World) (K:Act->World->Prop),w.heap.size <= W.heap.size->(∀ k,Z k->k < W.heap.size)->I pre W->(∀ a' W',Zq (fun _=>False) W W'->Ax x a' W'->K a' W') ->
   assign.wpIn (F.inRound l) (n - 1 - 1) P (Exit.then K (fun _ _ _=>False)) { tmps:=(ps.zip (encs x)).foldl (fun t (p,v)=>t.setIfInBounds p v) a.tmps,defers:=[] } W)
  (hbody:∀ (l:Nat) (pre:List α) (x:α) (a':Act) (W:World),w.heap.size <= l->(∃ r,W.heap[l]? = some (.loop r))->(∀ k,Z k->k < W.heap.size)->I pre W->Ax x a' W->pre++[x] <+: xs->w.heap.size <= W.heap.size->body.wpIn (F.inRound l) (n - 1 - 1) P (zpC Z w.heap.size I Ix (pre++[x]) W) a' W)
  (hdone:∀ (W:World),I xs W->Q .normal a W)
  (hstop:∀ (c:Code) (pre:List α) (W:World),Ix c pre W->c.wpIn F n P Q a W) :
  (Code.rangeFunc g ps assign body).wpIn F n P Q a w:=by
 refine wpIn_rangeFunc ?_
 intro fn hfn
 rw [hro]
 obtain ⟨rec,hrec⟩:∃ rec:LoopState->Option Code->Loop,rec = fun st pe=>{ state:=st,pending:=pe,fn,tmps:=a.tmps,params:=ps,assign,body,defers:=r₀.defers }:=⟨_,rfl⟩
 obtain ⟨W1,hW1⟩:∃ W1,w.alloc (.loop (rec .ready none)) = W1:=⟨_,rfl⟩
 have hL1:W1.heap[w.heap.size]? = some (.loop (rec .ready none)):=by rw [<- hW1]; exact World.alloc_heap_new w _
 have hI1:I [] W1:=by rw [<- hW1]; exact hI _ _ _ h0 (yZ.alloc _)
 have hm1:Zq (fun _=>False) w W1:=by
  rw [<- hW1]
  refine ⟨rfl,rfl,rfl,by simp,fun k hk _=>?_⟩
  exact Below.heap_alloc _ _ _ hk
 have hW1s:W1.heap.size = w.heap.size + 1:=by rw [<- hW1]; simp
 refine ⟨w.heap.size,[],W1,{ target:=.fn (.func gf) lb,args:=#[.func (.yield w.heap.size) #[] #[]] },W1,gf,
  #[.func (.yield w.heap.size) #[] #[]]++lb,W1,?_,?_,?_,?_,fun _=>h1,?_⟩
 ·rw [<- hW1,hrec]; exact run_enterLoop_inner hl₀ _ _ _ _ _
 ·simp only [resolve,hg]
  simp [go_sem]
 ·intro f' hf'; simp [Target.leads] at hf'; subst hf'; exact hFg
 ·simp [invoke,go_sem,eg]
 ·rw [<- hW1s] at hZ0
  subst hZ0
  refine (hseq w.heap.size W1 hm1
   (fun pre W=>I pre W/\w.heap.size <= W.heap.size/\W.heap[w.heap.size]? = some (.loop (rec .ready none)))
   (fun pre W=>∃ c,Ix c pre W/\W.heap[w.heap.size]? = some (.loop (rec .done (some c))))
   (fun s A hs=>hIG s A hs.1)
   (fun s A B hs hm=>⟨hI s A B hs.1 hm.turns,Nat.le_trans hs.2.1 hm.size,(hm.block _ (Array.getElem?_eq_some_iff.1 hs.2.2).1 hZ).trans hs.2.2⟩)
   (fun s A B hs hm=>by
    obtain ⟨c,hc,hl⟩:=hs
    exact ⟨c,hIx c s A B hc hm.turns,(hm.block _ (Array.getElem?_eq_some_iff.1 hl).1 hZ).trans hl⟩)
   ?_ ⟨hI1,hm1.size,hL1⟩).mono ?_
  ·rintro pre x W ⟨hi,hsz,hl⟩ hex hlen
   have hlt:w.heap.size < W.heap.size:=(Array.getElem?_eq_some_iff.1 hl).1
   have hy:=run_yield (P:=P) (args:=encs x) hl (by rw [hrec]; exact hps x)
   rw [hrec] at hy
   refine ⟨fn,_,assign,body,hy,roundIn_of_wpIn hfn (hassign _ pre x W _ hsz hex hi ?_)⟩
   clear hy
   intro a' Wa hma hax
   have hla:Wa.heap[w.heap.size]? = some (.loop (rec .ready none)):=(hma.block _ hlt (fun h=>h)).trans hl
   have hlta:w.heap.size < Wa.heap.size:=(Array.getElem?_eq_some_iff.1 hla).1
   have hia:I pre Wa:=hI _ _ _ hi (Zq.turns (Z:=Z0 W1.heap.size) ⟨hma.os,hma.tape,hma.output,hma.size,fun k hk _=>hma.block k hk (fun h=>h)⟩)
   refine ⟨_,run_beginRound hla (by rw [hrec]),?_⟩
   have hl2:(Wa.putObj w.heap.size (.loop { rec .ready none with state:=.busy })).heap[w.heap.size]? = some (.loop { rec .ready none with state:=.busy }):=World.putObj_heap_same hlta
   refine wpIn_mono (hbody _ pre x a' _ (Nat.le_refl _) ⟨_,hl2⟩ (fun k hk=>by have:=hex k hk; have:=hma.size; simp; omega) (hI _ _ _ hia (yZ.putObj _ hla (Nat.le_refl _) rfl)) (hAx _ _ _ _ hax (yZ.putObj _ hla (Nat.le_refl _) rfl)) hlen (by have:=hma.size; simp; omega)) ?_
   have fin:∀ (jump:Option Code) (W3:World),ZI (Z0 W1.heap.size) w.heap.size (Wa.putObj w.heap.size (.loop { rec .ready none with state:=.busy })) W3 ->
     (Instr.endRound w.heap.size jump).run P W3 = .ok (.bool jump.isNone) (W3.putObj w.heap.size (.loop (rec (if jump.isNone then .ready else .done) jump))) /\
     W3.heap[w.heap.size]? = some (.loop { rec .ready none with state:=.busy }) /\
     (W3.putObj w.heap.size (.loop (rec (if jump.isNone then .ready else .done) jump))).heap[w.heap.size]? = some (.loop (rec (if jump.isNone then .ready else .done) jump)):=fun jump W3 hk3=>by
    have hl3:=hk3 _ _ hl2 (.inr ⟨Nat.le_refl _,rfl⟩)
    have:=run_endRound (P:=P) jump hl3
    rw [hrec] at this ⊢
    exact ⟨this,by rw [hrec] at hl3; exact hl3,World.putObj_heap_same (Array.getElem?_eq_some_iff.1 hl3).1⟩
   have keepZ:∀ (o':Obj) (W3:World),ZI (Z0 W1.heap.size) w.heap.size (Wa.putObj w.heap.size (.loop { rec .ready none with state:=.busy })) W3->∀ k,Z0 W1.heap.size k->(W3.putObj w.heap.size o').heap[k]? = W.heap[k]?:=fun o' W3 hk3 k hz=>by
    have hkW:k < W.heap.size:=hex k hz
    have hne:k ≠ w.heap.size:=fun e=>hZ (by rw [<- e]; exact hz)
    have e0:Wa.heap[k]? = some W.heap[k]:=(hma.block k hkW (fun h=>h)).trans (Array.getElem?_eq_getElem hkW)
    have e1:(Wa.putObj w.heap.size (.loop { rec .ready none with state:=.busy })).heap[k]? = some W.heap[k]:=(World.putObj_heap_other hne).trans e0
    rw [World.putObj_heap_other hne,hk3 _ _ e1 (.inl hz),Array.getElem?_eq_getElem hkW]
   rintro e a3 W3 hp
   have hsz3:ZI (Z0 W1.heap.size) w.heap.size (Wa.putObj w.heap.size (.loop { rec .ready none with state:=.busy })) W3->w.heap.size < W3.heap.size:=fun hk3 =>
    (Array.getElem?_eq_some_iff.1 (hk3 _ _ hl2 (.inr ⟨Nat.le_refl _,rfl⟩))).1
   cases e with
   | normal =>
    obtain ⟨hk3,hi3⟩:=hp
    obtain ⟨hr,hl3,hl4⟩:=fin none W3 hk3
    exact ⟨_,_,hr,.inl ⟨rfl,⟨hI _ _ _ hi3 (yZ.putObj _ hl3 (Nat.le_refl _) rfl),by have:=hsz3 hk3; simp; omega,hl4⟩,keepZ _ W3 hk3⟩⟩
   | ret =>
    obtain ⟨hk3,hi3⟩:=hp
    obtain ⟨hr,hl3,hl4⟩:=fin (some .ret) W3 hk3
    exact ⟨_,_,hr,.inr ⟨rfl,.ret,hIx _ _ _ _ hi3 (yZ.putObj _ hl3 (Nat.le_refl _) rfl),hl4⟩⟩
   | exit id =>
    obtain ⟨hk3,hi3⟩:=hp
    obtain ⟨hr,hl3,hl4⟩:=fin (some (.exit id)) W3 hk3
    exact ⟨_,_,hr,.inr ⟨rfl,.exit id,hIx _ _ _ _ hi3 (yZ.putObj _ hl3 (Nat.le_refl _) rfl),hl4⟩⟩
   | goto t=>exact hp.elim
   | panic ch=>exact hp.elim
   | outgrown=>exact hp.elim
  ·rintro e W2 ⟨⟨v,rfl⟩,⟨hi,hsz,hl⟩ | ⟨pre,c,hi,hl⟩⟩
   ·exact ⟨none,_,by have:=run_endLoop (P:=P) hl (by rw [hrec]; simp); rw [hrec] at this; exact this,hdone _ (hI _ _ _ hi (yZ.putObj _ hl (Nat.le_refl _) rfl))⟩
   ·exact ⟨some c,_,by have:=run_endLoop (P:=P) hl (by rw [hrec]; simp); rw [hrec] at this; exact this,hstop c pre _ (hIx _ _ _ _ hi (yZ.putObj _ hl (Nat.le_refl _) rfl))⟩
end Go.Seq
