import Derived.Test.YtjcbpfhlgebgdaaGreatDoorRS2
import Derived.RangeFuncNested
import Derived.RangeFuncBound
import Derived.RangeFuncCalls
import Derived.RangeFuncLeaves
import Derived.Shelf.Abstract
import Derived.Shelf.RegionOpen
import Derived.WalkKit
import Derived.OwnWalkIn
import Derived.TacticsInMore
import Derived.LoopNIn
import Derived.LoopIn
import Derived.Test.YtjcbpfhlgebgdaaGreatDoorQD
import Derived.Test.YtjcbpfhlgebgdaaGreatDoorXSt
import Derived.Test.YtjcbpfhlgebgdaaGreatDoorRWa
set_option linter.unusedSimpArgs false
set_option linter.unusedVariables false
namespace Go.Seq
open Go.RowKit
def ztz {α:Type} (F:Fence) (n:Nat) (P:Program) (g:Nat) (lb:Array Value) (encs:α->Array Value) (Z K:Nat->Prop) (xs:List α) (w:World):Prop :=
 ∀ (l:Nat) (J Jx:List α->World->Prop),(∀ s A B,J s A->Zq Z A B->J s B)->(∀ s A B,Jx s A->Zq Z A B->Jx s B) ->
  ∀ W,Zq (fun _=>False) w W ->
  (∀ pre x W1,J pre W1->pre++[x] <+: xs->YieldAt F (n - 1) P l (encs x) W1 fun e W' =>
   (e = .returned (.bool true)/\J (pre++[x]) W'/\∀ k,K k->W'.heap[k]? = W1.heap[k]?) ∨ (e = .returned (.bool false)/\Jx (pre++[x]) W')) ->
  J [] W ->
  CallsIn F n P g (#[.func (.yield l) #[] #[]]++lb) W fun e W'=>(∃ v,e = .returned v)/\(J xs W' ∨ ∃ pre,Jx pre W')
theorem Zq.turns' {A B:World} (h:Zq (fun _=>False) A B) (Z:Nat->Prop) (N:Nat):yZ Z N A B :=
 ⟨h.os,h.tape,h.output,h.size,fun k o ho _ _=>(h.block k (Array.getElem?_eq_some_iff.1 ho).1 (fun q=>q)).trans ho⟩
variable {F:Fence} {n:Nat} {P:Program}
theorem zd3 {α:Type} {g:Operand} {ps:Array Tmp} {assign body:Code} {Q:Exit->Act->World->Prop} {a:Act} {w:World}
  (hro:F.round = none) (h1:1 <= n) {gf:Nat} {lb:Array Value} (hg:a.eval g = .func (.func gf) #[] lb) (hFg:F.fn gf) (eg:∀ args w,(callFunc gf args).run P w = .ok (.enter gf args) w)
  {encs:α->Array Value} {Z K:Nat->Prop} {xs:List α} (hseq:ztz F (n - 1) P gf lb encs Z K xs w) (hZ:∀ k,Z k->k < w.heap.size) (hKz:∀ k,K k->k < w.heap.size) (hps:∀ x,(encs x).size = ps.size)
  (I:List α->World->Prop) (Ix:Code->List α->World->Prop) (hI:∀ s A B,I s A->yZ Z w.heap.size A B->I s B) (hIx:∀ c s A B,Ix c s A->yZ Z w.heap.size A B->Ix c s B) (h0:I [] w) (a₁:α->World->Act) (W₁:α->World->World) (hW₁:∀ x W,Zq (fun _=>False) W (W₁ x W))
  (hassign:∀ (l:Nat) (x:α) (W:World) (Kc:Act->World->Prop),Kc (a₁ x W) (W₁ x W) ->
   assign.wpIn (F.inRound l) (n - 1 - 1) P (Exit.then Kc (fun _ _ _=>False)) { tmps:=(ps.zip (encs x)).foldl (fun t (p,v)=>t.setIfInBounds p v) a.tmps,defers:=[] } W)
  (hbody:∀ (l:Nat) (pre:List α) (x:α) (W V:World),w.heap.size <= l->l < W.heap.size->I pre V->pre++[x] <+: xs->w.heap.size <= W.heap.size->(∀ k,k ≠ l->V.heap[k]? = (W₁ x W).heap[k]?)->body.wpIn (F.inRound l) (n - 1 - 1) P (zpC K w.heap.size I Ix (pre++[x]) V) (a₁ x W) V)
  (hdone:∀ (D:Nat) (W:World),w.heap.size <= D->I xs W->W.heap[D]? = some (.deferred (some []))->Q .normal { a with defers:={ target:=.collected D,args:=#[] } :: a.defers } W)
  (hstop:∀ (D:Nat) (c:Code) (pre:List α) (W:World),w.heap.size <= D->Ix c pre W->W.heap[D]? = some (.deferred (some []))->c.wpIn F n P Q { a with defers:={ target:=.collected D,args:=#[] } :: a.defers } W) :
  (Code.rangeFunc g ps assign body).wpIn F n P Q a w:=by
 refine wpIn_rangeFunc ?_
 intro fn hfn
 rw [hro]
 obtain ⟨rec,hrec⟩:∃ rec:LoopState->Option Code->Loop,rec = fun st pe=>{ state:=st,pending:=pe,fn,tmps:=a.tmps,params:=ps,assign,body,defers:=w.heap.size }:=⟨_,rfl⟩
 obtain ⟨W1,hW1⟩:∃ W1,(w.alloc (.deferred (some []))).alloc (.loop (rec .ready none)) = W1:=⟨_,rfl⟩
 have hL1:W1.heap[w.heap.size + 1]? = some (.loop (rec .ready none)):=by
  rw [<- hW1]; have:=World.alloc_heap_new (w.alloc (.deferred (some []))) (.loop (rec .ready none)); rwa [World.size_alloc] at this
 have hK1:W1.heap[w.heap.size]? = some (.deferred (some [])):=by
  rw [<- hW1]; exact (Below.heap_alloc _ _ _ (by simp)).trans (World.alloc_heap_new w _)
 have hI1:I [] W1:=by rw [<- hW1]; exact hI _ _ _ (hI _ _ _ h0 (yZ.alloc _)) (yZ.alloc _)
 have hm1:Zq (fun _=>False) w W1:=by
  rw [<- hW1]
  refine ⟨rfl,rfl,rfl,by simp; omega,fun k hk _=>?_⟩
  exact (Below.heap_alloc _ _ _ (by simp; omega)).trans (Below.heap_alloc _ _ _ hk)
 have hnz:∀ k,w.heap.size <= k->¬ Z k:=fun k hk hz=>by have:=hZ k hz; omega
 refine ⟨w.heap.size + 1,[{ target:=.collected w.heap.size,args:=#[] }],W1,{ target:=.fn (.func gf) lb,args:=#[.func (.yield (w.heap.size + 1)) #[] #[]] },W1,gf,
  #[.func (.yield (w.heap.size + 1)) #[] #[]]++lb,W1,?_,?_,?_,?_,fun _=>h1,?_⟩
 ·rw [<- hW1,hrec]; exact run_enterLoop_outer _ _ _ _ _
 ·simp only [resolve,hg]
  simp [go_sem]
 ·intro f' hf'; simp [Target.leads] at hf'; subst hf'; exact hFg
 ·simp [invoke,go_sem,eg]
 ·refine (hseq (w.heap.size + 1)
   (fun pre W=>I pre W/\w.heap.size <= W.heap.size/\W.heap[w.heap.size + 1]? = some (.loop (rec .ready none))/\W.heap[w.heap.size]? = some (.deferred (some [])))
   (fun pre W=>∃ c,Ix c pre W/\W.heap[w.heap.size + 1]? = some (.loop (rec .done (some c)))/\W.heap[w.heap.size]? = some (.deferred (some [])))
   (fun s A B hs hm=>⟨hI s A B hs.1 hm.turns,Nat.le_trans hs.2.1 hm.size,(hm.block _ (Array.getElem?_eq_some_iff.1 hs.2.2.1).1 (hnz _ (by omega))).trans hs.2.2.1,(hm.block _ (Array.getElem?_eq_some_iff.1 hs.2.2.2).1 (hnz _ (Nat.le_refl _))).trans hs.2.2.2⟩)
   (fun s A B hs hm=>by
    obtain ⟨c,hc,hl,hk⟩:=hs
    exact ⟨c,hIx c s A B hc hm.turns,(hm.block _ (Array.getElem?_eq_some_iff.1 hl).1 (hnz _ (by omega))).trans hl,(hm.block _ (Array.getElem?_eq_some_iff.1 hk).1 (hnz _ (Nat.le_refl _))).trans hk⟩)
   W1 hm1 ?_ ⟨hI1,hm1.size,hL1,hK1⟩).mono ?_
  ·rintro pre x W ⟨hi,hsz,hl,hk⟩ hlen
   have hlt:w.heap.size + 1 < W.heap.size:=(Array.getElem?_eq_some_iff.1 hl).1
   have hy:=run_yield (P:=P) (args:=encs x) hl (by rw [hrec]; exact hps x)
   rw [hrec] at hy
   refine ⟨fn,_,assign,body,hy,roundIn_of_wpIn hfn (hassign _ x W _ ?_)⟩
   clear hy
   have hm1:=hW₁ x W
   have hl1:(W₁ x W).heap[w.heap.size + 1]? = some (.loop (rec .ready none)):=(hm1.block _ hlt (fun h=>h)).trans hl
   have hk1:(W₁ x W).heap[w.heap.size]? = some (.deferred (some [])):=(hm1.block _ (by omega) (fun h=>h)).trans hk
   refine ⟨_,run_beginRound hl1 (by rw [hrec]),?_⟩
   have hi1:I pre (W₁ x W):=hI _ _ _ hi (hm1.turns' Z w.heap.size)
   have hlt1:w.heap.size + 1 < (W₁ x W).heap.size:=(Array.getElem?_eq_some_iff.1 hl1).1
   have hs1:=hm1.size
   obtain ⟨U,hU⟩:∃ U,W₁ x W = U:=⟨_,rfl⟩
   have hbd:=hbody (w.heap.size + 1) pre x W ((W₁ x W).putObj (w.heap.size + 1) (.loop { rec .ready none with state:=.busy })) (by omega) hlt (hI _ _ _ hi1 (yZ.putObj _ hl1 (by omega) rfl)) hlen hsz (fun k hk=>World.putObj_heap_other hk)
   have hm2:=hm1
   rw [hU] at hl1 hk1 hi1 hlt1 hs1 hbd hm2 ⊢
   have hl2:(U.putObj (w.heap.size + 1) (.loop { rec .ready none with state:=.busy })).heap[w.heap.size + 1]? = some (.loop { rec .ready none with state:=.busy }):=World.putObj_heap_same hlt1
   have hk2:(U.putObj (w.heap.size + 1) (.loop { rec .ready none with state:=.busy })).heap[w.heap.size]? = some (.deferred (some [])):=(World.putObj_heap_other (by omega)).trans hk1
   refine wpIn_mono hbd ?_
   have fin:∀ (jump:Option Code) (W3:World),ZI K w.heap.size (U.putObj (w.heap.size + 1) (.loop { rec .ready none with state:=.busy })) W3 ->
     (Instr.endRound (w.heap.size + 1) jump).run P W3 = .ok (.bool jump.isNone) (W3.putObj (w.heap.size + 1) (.loop (rec (if jump.isNone then .ready else .done) jump))) /\
     W3.heap[w.heap.size + 1]? = some (.loop { rec .ready none with state:=.busy }) /\
     (W3.putObj (w.heap.size + 1) (.loop (rec (if jump.isNone then .ready else .done) jump))).heap[w.heap.size + 1]? = some (.loop (rec (if jump.isNone then .ready else .done) jump)) /\
     (W3.putObj (w.heap.size + 1) (.loop (rec (if jump.isNone then .ready else .done) jump))).heap[w.heap.size]? = some (.deferred (some [])):=fun jump W3 hk3=>by
    have hl3:=hk3 _ _ hl2 (.inr ⟨by omega,rfl⟩)
    have:=run_endRound (P:=P) jump hl3
    rw [hrec] at this ⊢
    exact ⟨this,by rw [hrec] at hl3; exact hl3,World.putObj_heap_same (Array.getElem?_eq_some_iff.1 hl3).1,(World.putObj_heap_other (by omega)).trans (hk3 _ _ hk2 (.inr ⟨Nat.le_refl _,rfl⟩))⟩
   have keepZ:∀ (o':Obj) (W3:World),ZI K w.heap.size (U.putObj (w.heap.size + 1) (.loop { rec .ready none with state:=.busy })) W3->∀ k,K k->(W3.putObj (w.heap.size + 1) o').heap[k]? = W.heap[k]?:=fun o' W3 hk3 k hz=>by
    have hkl:=hKz k hz
    have hkW:k < W.heap.size:=by omega
    have e1:(U.putObj (w.heap.size + 1) (.loop { rec .ready none with state:=.busy })).heap[k]? = some W.heap[k]:=(World.putObj_heap_other (by omega)).trans ((hm2.block k hkW (fun h=>h)).trans (Array.getElem?_eq_getElem hkW))
    rw [World.putObj_heap_other (by omega),hk3 _ _ e1 (.inl hz),Array.getElem?_eq_getElem hkW]
   rintro e a3 W3 hp
   have hsz3:ZI K w.heap.size (U.putObj (w.heap.size + 1) (.loop { rec .ready none with state:=.busy })) W3->w.heap.size + 1 < W3.heap.size:=fun hk3 =>
    (Array.getElem?_eq_some_iff.1 (hk3 _ _ hl2 (.inr ⟨by omega,rfl⟩))).1
   cases e with
   | normal =>
    obtain ⟨hk3,hi3⟩:=hp
    obtain ⟨hr,hl3,hl4,hk4⟩:=fin none W3 hk3
    exact ⟨_,_,hr,.inl ⟨rfl,⟨hI _ _ _ hi3 (yZ.putObj _ hl3 (by omega) rfl),by have:=hsz3 hk3; simp; omega,hl4,hk4⟩,keepZ _ W3 hk3⟩⟩
   | ret =>
    obtain ⟨hk3,hi3⟩:=hp
    obtain ⟨hr,hl3,hl4,hk4⟩:=fin (some .ret) W3 hk3
    exact ⟨_,_,hr,.inr ⟨rfl,.ret,hIx _ _ _ _ hi3 (yZ.putObj _ hl3 (by omega) rfl),hl4,hk4⟩⟩
   | exit id =>
    obtain ⟨hk3,hi3⟩:=hp
    obtain ⟨hr,hl3,hl4,hk4⟩:=fin (some (.exit id)) W3 hk3
    exact ⟨_,_,hr,.inr ⟨rfl,.exit id,hIx _ _ _ _ hi3 (yZ.putObj _ hl3 (by omega) rfl),hl4,hk4⟩⟩
   | goto t=>exact hp.elim
   | panic ch=>exact hp.elim
   | outgrown=>exact hp.elim
  ·rintro e W2 ⟨⟨v,rfl⟩,⟨hi,hsz,hl,hk⟩ | ⟨pre,c,hi,hl,hk⟩⟩
   ·exact ⟨none,_,by have:=run_endLoop (P:=P) hl (by rw [hrec]; simp); rw [hrec] at this; exact this,hdone _ _ (Nat.le_refl _) (hI _ _ _ hi (yZ.putObj _ hl (by omega) rfl)) ((World.putObj_heap_other (by omega)).trans hk)⟩
   ·exact ⟨some c,_,by have:=run_endLoop (P:=P) hl (by rw [hrec]; simp); rw [hrec] at this; exact this,hstop _ c pre _ (Nat.le_refl _) (hIx _ _ _ _ hi (yZ.putObj _ hl (by omega) rfl)) ((World.putObj_heap_other (by omega)).trans hk)⟩
end Go.Seq
namespace Go.Seq
open Go.RowKit Go.Shelf Go.Proofs
attribute [local go_sem] Oper.semAt_some
abbrev RV:=Int × Option Addr × Nat × Nat
def znj (y:RV):Value:=.agg #[.int .i64 y.1,.slice y.2.1 y.2.2.1 y.2.2.2]
def zds (y:RV):Obj:=.cells #[.int .i64 y.1,.slice y.2.1 y.2.2.1 y.2.2.2] 72 (0,0)
def zpN (x:Nat × RV):Array Value:=#[.int .i64 x.1,znj x.2]
def zcl:Nat->List RV->List (Nat × RV)
 | _,[]=>[]
 | i,y :: ys=>(i,y) :: zcl (i + 1) ys
theorem zn6 (base:Option Addr) (n cap:Nat) (w:World):Calls Tryz.prog 47 #[.slice base n cap] w fun e w' =>
  e = .returned (.func (.func 87) #[] #[.pointer (some ⟨w.heap.size,0,none⟩)])/\w' = w.alloc (.cells #[.slice base n cap] 68):=by
 go_enter Tryz.func47,Tryz.ntmps47
 go_wp2
 go_ret
 exact ⟨rfl,rfl⟩
theorem zt0 {i n:Nat} (h:i < n):(i:Int) < (n:Int):=by omega
theorem ztA {i n:Nat} (h:¬ i < n):¬ (i:Int) < (n:Int):=by omega
theorem zt1 {i n:Nat} (h:i < n) (hn:n <= 100000):wrap64 ((i:Int) + 1) = ((i + 1:Nat):Int):=by rw [IntWalk.wrap64_in _ (by omega)]; omega
theorem qc {A B:World} {b j:Nat} (h:B.heap[b]? = A.heap[b]?):B.cell? ⟨b,j,none⟩ = A.cell? ⟨b,j,none⟩:=by simp [World.cell?,h]
theorem zsH {i n:Nat} (h:i < n):((n:Int) - intOf (.int .i64 ((i + 1:Nat):Int))).toNat < ((n:Int) - intOf (.int .i64 (i:Int))).toNat:=by simp only [intOf]; omega
set_option maxHeartbeats 8000000 in
theorem zsI {m:Nat} (B cap l:Nat) (base:Option Addr) (vs:List RV) (hn:vs.length <= 100000) (K:Nat->Prop) (J Jx:List (Nat × RV)->World->Prop) (W:World) (hKs:∀ k,K k->k < W.heap.size)
  (hJ:∀ s A B,J s A->Zq (fun _=>False) A B->J s B) (hc:W.cell? ⟨B,0,none⟩ = some (.slice base vs.length cap))
  (hr:∀ (i:Nat) (y:RV),vs[i]? = some y->∃ b o,base = some ⟨b,o,none⟩/\K b/\W.cell? ⟨b,o + i * 2,none⟩ = some (.int .i64 y.1)/\W.cell? ⟨b,o + i * 2 + 1,none⟩ = some (.slice y.2.1 y.2.2.1 y.2.2.2)) (h0:J [] W)
  (hY:∀ pre x W1,J pre W1->pre++[x] <+: zcl 0 vs->YieldAt Fence.wide m Tryz.prog l (zpN x) W1 fun e W' =>
   (e = .returned (.bool true)/\J (pre++[x]) W'/\∀ k,K k->W'.heap[k]? = W1.heap[k]?) ∨ (e = .returned (.bool false)/\Jx (pre++[x]) W')) :
  CallsIn Fence.wide (m + 1) Tryz.prog 87 #[.func (.yield l) #[] #[],.pointer (some ⟨B,0,none⟩)] W fun e W'=>(∃ v,e = .returned v)/\(J (zcl 0 vs) W' ∨ ∃ pre,Jx pre W'):=by
 refine callsIn_of_wp Tryz.func87 rfl trivial ?_ rfl
 simp only [Tryz.ntmps87,List.size_toArray,List.length_cons,List.length_nil,Nat.reduceAdd,Nat.reduceSub,Array.replicate_succ,Array.replicate_zero,List.push_toArray,List.append_toArray,List.nil_append,List.cons_append]
 gi_wp2
 gi_loopw [7] (fun v7 wr=>∃ (i:Nat) (pre:List (Nat × RV)),v7 = .int .i64 i/\i <= vs.length/\zcl 0 vs = pre++zcl i (vs.drop i)/\J pre wr/\(∀ k,K k->wr.heap[k]? = W.heap[k]?))
  (fun v7 wr=>((vs.length:Int) - intOf v7).toNat)
 case atStart=>exact ⟨0,[],rfl,Nat.zero_le _,rfl,h0,fun _ _=>rfl⟩
 case round =>
  obtain ⟨i,pre,rfl,hi,hx,hJw,hk⟩:=hrel
  by_cases hil:i < vs.length
  ·obtain ⟨y,hy⟩:∃ y,vs[i]? = some y:=⟨vs[i],List.getElem?_eq_getElem hil⟩
   have hdr:vs.drop i = y :: vs.drop (i + 1):=by
    rw [List.drop_eq_getElem_cons hil]
    congr 1
    rw [List.getElem?_eq_getElem hil] at hy
    exact Option.some.inj hy
   rw [hdr,zcl] at hx
   obtain ⟨b,o,rfl,hKb,c0,c1⟩:=hr i y hy
   have d0:=(qc (j:=o + i * 2) (hk b hKb)).trans c0
   have d1:=(qc (j:=o + i * 2 + 1) (hk b hKb)).trans c1
   have hJa:J pre (wr.alloc (zds y)):=hJ _ _ _ hJw ⟨rfl,rfl,rfl,by simp,fun k hk _=>Below.heap_alloc _ _ _ hk⟩
   obtain ⟨fn,tmps,assign,body,hyy,hR⟩:=hY pre (i,y) (wr.alloc (zds y)) hJa (by rw [hx]; exact ⟨zcl (i + 1) (vs.drop (i + 1)),by simp⟩)
   have hyy2:(Instr.yield l #[.int .i64 (i:Int),.agg #[.int .i64 y.1,.slice y.2.1 y.2.2.1 y.2.2.2]]).run Tryz.prog (wr.alloc (.cells #[.int .i64 y.1,.slice y.2.1 y.2.2.1 y.2.2.2] 72)) = _:=hyy
   clear hyy
   have bl:=zt0 hil
   have wr1:=zt1 hil hn
   have hkb:∀ k,K k->(wr.alloc (zds y)).heap[k]? = W.heap[k]?:=fun k hKk=>by
    have h1:=hk k hKk
    have h2:k < wr.heap.size:=by
     rw [Array.getElem?_eq_getElem (hKs k hKk)] at h1
     exact (Array.getElem?_eq_some_iff.1 h1).1
    exact (Below.heap_alloc _ _ _ h2).trans h1
   clear hr hc h0 c0 c1
   gi_wp2
   refine hR.mono ?_
   rintro e W' (⟨rfl,hJ',hk'⟩ | ⟨rfl,hJx'⟩)
   ·gi_wp2
    exact ⟨⟨i + 1,pre++[(i,y)],by first | rfl | simp,hil,by rw [hx]; simp,hJ',fun k hKk=>(hk' k hKk).trans (hkb k hKk)⟩,by first | exact zsH hil | (simp only [intOf]; omega)⟩
   ·gi_wp2
    refine bodyPost_ret (results_none rfl _ _ _) rfl ?_
    exact ⟨⟨_,rfl⟩,.inr ⟨_,hJx'⟩⟩
  ·obtain rfl:i = vs.length:=by omega
   rw [List.drop_length,zcl,List.append_nil] at hx
   have bl:=ztA hil
   gi_wp2
   go_end0
   exact ⟨⟨_,rfl⟩,.inl (by first | exact hJw | (rw [hx]; exact hJw))⟩
end Go.Seq
namespace Go.Seq
open Go.RowKit Go.Shelf Go.Proofs Go.X Go.Proofs.YtjcbpfhlgebgdaaGreatDoor
attribute [local go_sem] Oper.semAt_some
theorem zrx {m:Nat} {B cap:Nat} {base:Option Addr} {vs:List RV} (hn:vs.length <= 100000) {K:Nat->Prop} {w:World} (hKs:∀ k,K k->k < w.heap.size) (hc:w.cell? ⟨B,0,none⟩ = some (.slice base vs.length cap))
  (hr:∀ (i:Nat) (y:RV),vs[i]? = some y->∃ b o,base = some ⟨b,o,none⟩/\K b/\w.cell? ⟨b,o + i * 2,none⟩ = some (.int .i64 y.1)/\w.cell? ⟨b,o + i * 2 + 1,none⟩ = some (.slice y.2.1 y.2.2.1 y.2.2.2)) :
  ztz Fence.wide (m + 1) Tryz.prog 87 #[.pointer (some ⟨B,0,none⟩)] zpN (fun _=>False) K (zcl 0 vs) w:=by
 intro l J Jx hJ _ W hW hY h0
 have hlt:∀ b j v,w.cell? ⟨b,j,none⟩ = some v->W.heap[b]? = w.heap[b]?:=fun b j v h=>hW.block b (World.block_lt_of_cell? w _ h) (fun q=>q)
 refine zsI B cap l base vs hn K J Jx W (fun k hk=>Nat.lt_of_lt_of_le (hKs k hk) hW.size) hJ ((qc (hlt _ _ _ hc)).trans hc) (fun i y hy=>?_) h0 hY
 obtain ⟨b,o,h1,h2,h3,h4⟩:=hr i y hy
 exact ⟨b,o,h1,h2,(qc (hlt _ _ _ h3)).trans h3,(qc (hlt _ _ _ h4)).trans h4⟩
theorem znk:∀ (vs:List RV) (i:Nat) (pre post:List (Nat × RV)) (x:Nat × RV),zcl i vs = pre++x :: post->x.1 = i + pre.length/\vs[pre.length]? = some x.2
 | [],i,pre,post,x,h=>by simp [zcl] at h
 | y :: ys,i,[],post,x,h=>by
  simp only [zcl,List.nil_append,List.cons.injEq] at h
  obtain ⟨rfl,_⟩:=h
  simp
 | y :: ys,i,p :: pre,post,x,h=>by
  simp only [zcl,List.cons_append,List.cons.injEq] at h
  obtain ⟨_,h⟩:=h
  obtain ⟨h1,h2⟩:=znk ys (i + 1) pre post x h
  refine ⟨by rw [h1]; simp; omega,by simpa using h2⟩
def Q2 (x:Mrk):Value:=.agg #[.int .i64 x.ID.Node,.int .u64 x.ID.Seq,.int .i64 x.ID.Off,.int .i64 x.Until]
def Z9 (x:Word):Obj:=.cells #[.int .i64 x.At,.string ⟨x.Key.toArray⟩,.string ⟨x.Text.toArray⟩] 57 (0,0)
def Yp (l:List Mrk):List Value:=l.flatMap fun x=>[.int .i64 x.ID.Node,.int .u64 x.ID.Seq,.int .i64 x.ID.Off,.int .i64 x.Until]
noncomputable def psF (rd:List UInt8->Option (Mrk × Bool)) (on:Mrk->Option Int) (cp:ID × ID->Option Int):List Row->List Mrk->Option (List Mrk × Int × Int)
 | [],o=>some (o,0,0)
 | r :: rs,o=>match r.Words with
  | []=>none
  | x :: tl=>(rd x.Text).bind fun m=>if tl ≠ [] ∨ x.Key ≠ [] ∨ m.2 = false then some ([],3,x.At) else
    (on m.1).bind fun e=>if e ≠ 0 then some ([],e,x.At) else match o[o.length - 1]? with
     | none=>psF rd on cp rs (o++[m.1])
     | some p=>(cp (p.ID,m.1.ID)).bind fun c=>if 0 <= c then some ([],19,x.At) else psF rd on cp rs (o++[m.1])
structure ztB (N N1:Nat) (w1:World) (r:Row) (y:RV):Prop where
 len:y.2.2.1 = r.Words.length
 wd:∀ x tl,r.Words = x :: tl->∃ g o,y.2.1 = some ⟨g,o,none⟩/\N + 2 <= g/\g < N1/\w1.cell? ⟨g,o,none⟩ = some (.int .i64 x.At)/\w1.cell? ⟨g,o + 1,none⟩ = some (.string ⟨x.Key.toArray⟩)/\w1.cell? ⟨g,o + 2,none⟩ = some (.string ⟨x.Text.toArray⟩)
structure PI (N N1:Nat) (w w1 W:World) (v:Value) (o:List Mrk):Prop where
 bel:Below N w W
 mid:∀ k,N + 2 <= k->k < N1->W.heap[k]? = w1.heap[k]?
 size:N1 + 3 <= W.heap.size
 b2:W.heap[N]? = some (.cells #[.slice none 0 0] 35 (0,0))
 b3:W.heap[N + 1]? = some (.cells #[.int .i64 0,.int .i64 0] 30 (0,0))
 b4:W.heap[N1 + 1]? = some (.cells #[v] 35 (0,0))
 own:W.ownsRow (N1 + 3) 81 4 v o.length (Yp o)
theorem PI.turns {N N1:Nat} {w w1 A B:World} {v:Value} {o:List Mrk} (hN:N = w.heap.size) (hN1:N + 2 <= N1) (hs1:N1 = w1.heap.size) (h:PI N N1 w w1 A v o) (ht:yZ (fun _=>False) (N1 + 3) A B):PI N N1 w w1 B v o:=by
 have key:∀ k o,A.heap[k]? = some o->(k < N1 + 3 ∨ o.isCells = true)->B.heap[k]? = some o:=fun k o hk hc=>ht.block k o hk (fun q=>q) hc
 refine ⟨⟨ht.os.trans h.bel.os,ht.tape.trans h.bel.tape,ht.output.trans h.bel.output,Nat.le_trans h.bel.size ht.size,fun k hk=>?_⟩,fun k h1 h2=>?_,Nat.le_trans h.size ht.size,key _ _ h.b2 (.inr rfl),key _ _ h.b3 (.inr rfl),key _ _ h.b4 (.inr rfl),yG h.own fun g cur hg _ hge=>(key g _ hg (.inr rfl)).trans hg.symm⟩
 ·have hb:=h.bel.block k hk
  have hkw:k < w.heap.size:=by omega
  rw [Array.getElem?_eq_getElem hkw] at hb ⊢
  exact key k _ hb (.inl (by omega))
 ·have hb:=h.mid k h1 h2
  have hkw:k < w1.heap.size:=by omega
  rw [Array.getElem?_eq_getElem hkw] at hb ⊢
  exact key k _ hb (.inl (by omega))
theorem PI.below {N N1:Nat} {w w1 A B:World} {v:Value} {o:List Mrk} (hN1:N + 2 <= N1) (h:PI N N1 w w1 A v o) (hb:Below A.heap.size A B):PI N N1 w w1 B v o:=by
 have hA:=h.size
 have key:∀ k o,A.heap[k]? = some o->B.heap[k]? = some o:=fun k o hk=>(hb.block k (Array.getElem?_eq_some_iff.1 hk).1).trans hk
 exact ⟨⟨hb.os.trans h.bel.os,hb.tape.trans h.bel.tape,hb.output.trans h.bel.output,Nat.le_trans h.bel.size hb.size,fun k hk=>(hb.block k (by omega)).trans (h.bel.block k hk)⟩,fun k h1 h2=>(hb.block k (by omega)).trans (h.mid k h1 h2),Nat.le_trans hA hb.size,key _ _ h.b2,key _ _ h.b3,key _ _ h.b4,
  yG h.own fun g cur hg _ _=>(key g _ hg).trans hg.symm⟩
theorem PI.alloc {N N1:Nat} {w w1 A:World} {v:Value} {o:List Mrk} (hN1:N + 2 <= N1) (h:PI N N1 w w1 A v o) (ob:Obj):PI N N1 w w1 (A.alloc ob) v o:=h.below hN1 ((Below.refl _ _).alloc (Nat.le_refl _) _)
theorem PI.cell2 {N N1:Nat} {w w1 A:World} {v:Value} {o:List Mrk} (h:PI N N1 w w1 A v o):A.cell? ⟨N,0,none⟩ = some (.slice none 0 0)/\A.frozen? ⟨N,0,none⟩ = false:=by
 simp [World.cell?,World.frozen?,h.b2]
theorem PI.cell3 {N N1:Nat} {w w1 A:World} {v:Value} {o:List Mrk} (h:PI N N1 w w1 A v o):A.cell? ⟨N + 1,0,none⟩ = some (.int .i64 0)/\A.cell? ⟨N + 1,1,none⟩ = some (.int .i64 0)/\A.frozen? ⟨N + 1,0,none⟩ = false/\A.frozen? ⟨N + 1,1,none⟩ = false:=by
 simp [World.cell?,World.frozen?,h.b3]
theorem PI.cell4 {N N1:Nat} {w w1 A:World} {v:Value} {o:List Mrk} (h:PI N N1 w w1 A v o):A.cell? ⟨N1 + 1,0,none⟩ = some v/\A.frozen? ⟨N1 + 1,0,none⟩ = false:=by
 simp [World.cell?,World.frozen?,h.b4]
theorem Qj {W:World} {M:Nat} {y:RV} (h:W.heap[M]? = some (zds y)):W.cell? ⟨M,0,none⟩ = some (.int .i64 y.1)/\W.cell? ⟨M,1,none⟩ = some (.slice y.2.1 y.2.2.1 y.2.2.2):=by
 unfold zds at h
 simp [World.cell?,h]
theorem ZA {W:World} {M:Nat} {x:Word} (h:W.heap[M]? = some (Z9 x)):W.cell? ⟨M,0,none⟩ = some (.int .i64 x.At)/\W.cell? ⟨M,1,none⟩ = some (.string ⟨x.Key.toArray⟩)/\W.cell? ⟨M,2,none⟩ = some (.string ⟨x.Text.toArray⟩):=by
 unfold Z9 at h
 simp [World.cell?,h]
theorem zd4:∀ {l:List Mrk} {i:Nat} {x:Mrk},l[i]? = some x->(Yp l)[i * 4]? = some (.int .i64 x.ID.Node)/\(Yp l)[i * 4 + 1]? = some (.int .u64 x.ID.Seq)/\(Yp l)[i * 4 + 2]? = some (.int .i64 x.ID.Off)/\(Yp l)[i * 4 + 3]? = some (.int .i64 x.Until)
 | [],i,x,h=>by simp at h
 | y :: l,0,x,h=>by simp at h; subst h; simp [Yp]
 | y :: l,i + 1,x,h=>by
  have:=zd4 (l:=l) (i:=i) (x:=x) (by simpa using h)
  have e:Yp (y :: l) = .int .i64 y.ID.Node :: .int .u64 y.ID.Seq :: .int .i64 y.ID.Off :: .int .i64 y.Until :: Yp l:=rfl
  rw [e]
  have e0:(i + 1) * 4 = i * 4 + 1 + 1 + 1 + 1:=by omega
  rw [e0]
  simpa using this
theorem PI.last {N N1:Nat} {w w1 A:World} {v:Value} {o:List Mrk} (h:PI N N1 w w1 A v o) {j:Nat} {p:Mrk} (hp:o[j]? = some p) :
  ∃ g cap,v = .slice (some ⟨g,0,none⟩) o.length cap/\A.cell? ⟨g,j * 4,none⟩ = some (.int .i64 p.ID.Node)/\A.cell? ⟨g,j * 4 + 1,none⟩ = some (.int .u64 p.ID.Seq)/\A.cell? ⟨g,j * 4 + 2,none⟩ = some (.int .i64 p.ID.Off):=by
 obtain ⟨hl,⟨rfl,h0⟩ | ⟨g,cap,cur,rfl,hb,hh,h1,h2,h3,h4⟩⟩:=h.own
 ·rw [List.getElem?_eq_none (by omega)] at hp; cases hp
 ·obtain ⟨c0,c1,c2,c3⟩:=zd4 hp
  have hj:j < o.length:=(List.getElem?_eq_some_iff.1 hp).1
  have key:∀ t z,t < 4->(Yp o)[j * 4 + t]? = some z->cur[j * 4 + t]? = some z:=fun t z ht hz=>by
   rw [<- h4,List.getElem?_take_of_lt (by omega)] at hz
   simpa using hz
  refine ⟨g,cap,rfl,?_,?_,?_⟩
  ·simp only [World.cell?,hh]; exact key 0 _ (by omega) c0
  ·simp only [World.cell?,hh]; exact key 1 _ (by omega) c1
  ·simp only [World.cell?,hh]; exact key 2 _ (by omega) c2
end Go.Seq
namespace Go.Seq
open Go.RowKit Go.Shelf Go.Proofs Go.X Go.Proofs.YtjcbpfhlgebgdaaGreatDoor
theorem PI.drew {N N1:Nat} {w w1 A:World} {v:Value} {o:List Mrk} (hN1:N + 2 <= N1) (h:PI N N1 w w1 A v o):PI N N1 w w1 A.drew v o:=h.below hN1 ⟨rfl,rfl,rfl,Nat.le_refl _,fun _ _=>rfl⟩
theorem znl {W:World} {base:Nat} {e:TypeId} {size:Nat} {v:Value} {n:Nat} {xs:List Value} (h:W.ownsRow base e size v n xs) {k:Nat} (hk:k < base):some k ≠ v.ownBlock:=fun e=>by
 have:=(Zj h e.symm).1; omega
theorem zbE {N N1:Nat} {w w1 V A B:World} {v:Value} {o:List Mrk} (hN:N = w.heap.size) (hN1:N + 2 <= N1) (hVs:N1 + 3 <= V.heap.size) (hA:PI N N1 w w1 A v o) (hVA:Below V.heap.size V A) (f1 f2:Int)
  (hB:B.heap = ((((A.setCell ⟨N,0,none⟩ (.slice none 0 0)).setCell ⟨N + 1,0,none⟩ (.int .i64 f1)).setCell ⟨N + 1,1,none⟩ (.int .i64 f2))).heap) (ho:B.os = A.os) (ht:B.tape = A.tape) (hp:B.output = A.output) :
  ZI (fun k=>N + 2 <= k/\k < N1) (N1 + 3) V B/\Below N w B/\N1 + 3 <= B.heap.size/\B.heap[N]? = some (.cells #[.slice none 0 0] 35 (0,0))/\B.heap[N + 1]? = some (.cells #[.int .i64 f1,.int .i64 f2] 30 (0,0)):=by
 have hAN:=hA.size
 have hsz:B.heap.size = A.heap.size:=by rw [hB]; simp
 have oth:∀ k,k ≠ N->k ≠ N + 1->B.heap[k]? = A.heap[k]?:=fun k h1 h2=>by
  rw [hB,Below.heap_setCell _ _ _ _ (by simpa using h2),Below.heap_setCell _ _ _ _ (by simpa using h2),Below.heap_setCell _ _ _ _ (by simpa using h1)]
 refine ⟨fun k ob hk hc=>?_,⟨ho.trans hA.bel.os,ht.trans hA.bel.tape,hp.trans hA.bel.output,by have:=hA.bel.size; omega,fun k h1=>(oth k (by omega) (by omega)).trans (hA.bel.block k h1)⟩,by omega,?_,?_⟩
 ·have hk2:N + 2 <= k:=by omega
  exact (oth k (by omega) (by omega)).trans ((hVA.block k (Array.getElem?_eq_some_iff.1 hk).1).trans hk)
 ·rw [hB,Below.heap_setCell _ _ _ _ (by simp),Below.heap_setCell _ _ _ _ (by simp),heap_setCell_same _ _ 0 _ _ _ hA.b2]
  rfl
 ·rw [hB]
  have c0:(A.setCell ⟨N,0,none⟩ (.slice none 0 0)).heap[N + 1]? = some (.cells #[.int .i64 0,.int .i64 0] 30 (0,0)):=(Below.heap_setCell _ _ _ _ (by simp)).trans hA.b3
  exact heap_setCell_same _ _ 1 _ _ (.int .i64 f2) (heap_setCell_same _ _ 0 _ _ (.int .i64 f1) c0)
theorem znm {N N1:Nat} {w w1 V A W2 B:World} {v v2:Value} {o:List Mrk} (hN1:N + 2 <= N1) (hV:PI N N1 w w1 V v o) (hA:PI N N1 w w1 A v o) (hVA:Below V.heap.size V A) (o1:Obj)
  (hg:(A.alloc o1).grownBy W2 v.ownBlock) (m:Mrk) (hown:W2.ownsRow (N1 + 3) 81 4 v2 (o.length + 1) (Yp o++[.int .i64 m.ID.Node,.int .u64 m.ID.Seq,.int .i64 m.ID.Off,.int .i64 m.Until]))
  (hB:B = W2.setCell ⟨N1 + 1,0,none⟩ v2):ZI (fun k=>N + 2 <= k/\k < N1) (N1 + 3) V B/\PI N N1 w w1 B v2 (o++[m]):=by
 have hA2:∀ k,k < A.heap.size->some k ≠ v.ownBlock->W2.heap[k]? = A.heap[k]?:=fun k hk hn=>(hg.block k (by simp; omega) hn).trans (Below.heap_alloc _ _ _ hk)
 have hAN:=hA.size
 have hsz:A.heap.size <= W2.heap.size:=by have:=hg.size; simp at this; omega
 have hBs:B.heap.size = W2.heap.size:=by rw [hB]; simp
 have oth:∀ k,k ≠ N1 + 1->B.heap[k]? = W2.heap[k]?:=fun k h2=>by rw [hB,Below.heap_setCell _ _ _ _ (by simpa using h2)]
 have nb:=fun k (h:k < N1 + 3)=>znl hA.own h
 have g4:W2.heap[N1 + 1]? = some (.cells #[v] 35 (0,0)):=(hA2 _ (by omega) (nb _ (by omega))).trans hA.b4
 have k4:B.heap[N1 + 1]? = some (.cells #[v2] 35 (0,0)):=by
  rw [hB]
  exact heap_setCell_same _ _ 0 _ _ _ g4
 refine ⟨fun k ob hk hc=>?_,⟨⟨?_,?_,?_,by have:=hA.bel.size; omega,fun k h1=>?_⟩,fun k h1 h2=>?_,by omega,?_,?_,k4,?_⟩⟩
 ·have hlt:=(Array.getElem?_eq_some_iff.1 hk).1
  have hAk:=(hVA.block k hlt).trans hk
  have hlA:=(Array.getElem?_eq_some_iff.1 hAk).1
  rcases hc with ⟨h1,h2⟩ | ⟨h1,h2⟩
  ·exact (oth k (by omega)).trans ((hA2 k hlA (nb k (by omega))).trans hAk)
  ·refine (oth k (by omega)).trans ((hA2 k hlA (fun e=>?_)).trans hAk)
   obtain ⟨_,cur,hg'⟩:=Zj hA.own e.symm
   rw [hAk] at hg'; cases hg'; cases h2
 ·rw [hB]; exact hg.os.trans hA.bel.os
 ·rw [hB]; exact hg.tape.trans hA.bel.tape
 ·rw [hB]; exact hg.output.trans hA.bel.output
 ·have hwN:=hA.bel.size
  by_cases hkA:k < A.heap.size
  ·exact (oth k (by omega)).trans ((hA2 k hkA (nb k (by omega))).trans (hA.bel.block k h1))
  ·omega
 ·exact (oth k (by omega)).trans ((hA2 k (by omega) (nb k (by omega))).trans (hA.mid k h1 h2))
 ·exact (oth _ (by omega)).trans ((hA2 _ (by omega) (nb _ (by omega))).trans hA.b2)
 ·exact (oth _ (by omega)).trans ((hA2 _ (by omega) (nb _ (by omega))).trans hA.b3)
 ·have e1:(o++[m]).length = o.length + 1:=by simp
  have e2:Yp (o++[m]) = Yp o++[.int .i64 m.ID.Node,.int .u64 m.ID.Seq,.int .i64 m.ID.Off,.int .i64 m.Until]:=by simp [Yp]
  rw [e1,e2]
  exact yG hown fun g cur _ _ hge=>oth g (by omega)
theorem zgi {W:World} {base:Nat} {e:TypeId} {size:Nat} {v:Value} {n:Nat} {xs:List Value} (h:W.ownsRow base e size v n xs) (o:Obj):(W.alloc o).ownsRow base e size v n xs :=
 yG h fun g cur hg _ _=>Below.heap_alloc _ _ _ (Array.getElem?_eq_some_iff.1 hg).1
theorem zpO {N N1:Nat} {w w1 A W2:World} {v:Value} {o:List Mrk} (h:PI N N1 w w1 A v o) (ob:Obj) (hg:(A.alloc ob).grownBy W2 v.ownBlock):W2.cell? ⟨N1 + 1,0,none⟩ = some v/\W2.frozen? ⟨N1 + 1,0,none⟩ = false:=by
 have e:W2.heap[N1 + 1]? = some (.cells #[v] 35 (0,0)):=(hg.block _ (by have:=h.size; simp; omega) (znl h.own (by omega))).trans ((Below.heap_alloc _ _ _ (by have:=h.size; omega)).trans h.b4)
 simp [World.cell?,World.frozen?,e]
theorem zpP {W:World} {base D:Nat} {e:TypeId} {size:Nat} {v:Value} {n:Nat} {xs:List Value} {ob:Obj} (h:W.ownsRow base e size v n xs) (hD:W.heap[D]? = some ob) (hc:ob.isCells = false) (o':Obj):(W.putObj D o').ownsRow base e size v n xs :=
 yG h fun g cur hg _ _=>World.putObj_heap_other (fun e=>by subst e; rw [hD] at hg; cases hg; cases hc)
theorem zgj {N D:Nat} {w W:World} (h:Below N w W) (hD:N <= D) (o':Obj):Below N w (W.putObj D o') :=
 ⟨h.os,h.tape,h.output,by simpa using h.size,fun k hk=>(World.putObj_heap_other (by omega)).trans (h.block k hk)⟩
theorem zpQ {N D:Nat} {B:World} {v:Value} {f1 f2:Int} (hD:N + 2 <= D) (b0:B.heap[N]? = some (.cells #[v] 35 (0,0))) (b1:B.heap[N + 1]? = some (.cells #[.int .i64 f1,.int .i64 f2] 30 (0,0))) :
  (B.putObj D (.deferred none)).cell? ⟨N,0,none⟩ = some v/\(B.putObj D (.deferred none)).cell? ⟨N + 1,0,none⟩ = some (.int .i64 f1)/\(B.putObj D (.deferred none)).cell? ⟨N + 1,1,none⟩ = some (.int .i64 f2):=by
 have e0:(B.putObj D (.deferred none)).heap[N]? = _:=(World.putObj_heap_other (by omega)).trans b0
 have e1:(B.putObj D (.deferred none)).heap[N + 1]? = _:=(World.putObj_heap_other (by omega)).trans b1
 simp [World.cell?,e0,e1]
theorem zpR {N N1:Nat} {w w1 W:World} {v:Value} {o:List Mrk} (hN1:N + 2 <= N1) (h:PI N N1 w w1 W v o) (f1 f2:Int) :
  let B:=(((W.setCell ⟨N,0,none⟩ v).setCell ⟨N + 1,0,none⟩ (.int .i64 f1)).setCell ⟨N + 1,1,none⟩ (.int .i64 f2))
  B.heap[N]? = some (.cells #[v] 35 (0,0))/\B.heap[N + 1]? = some (.cells #[.int .i64 f1,.int .i64 f2] 30 (0,0))/\Below N w B/\B.ownsRow (N1 + 3) 81 4 v o.length (Yp o)/\(∀ k,N + 2 <= k->B.heap[k]? = W.heap[k]?):=by
 intro B
 have oth:∀ k,k ≠ N->k ≠ N + 1->B.heap[k]? = W.heap[k]?:=fun k h1 h2=>by
  show (World.setCell _ _ _).heap[k]? = _
  rw [Below.heap_setCell _ _ _ _ (by simpa using h2),Below.heap_setCell _ _ _ _ (by simpa using h2),Below.heap_setCell _ _ _ _ (by simpa using h1)]
 refine ⟨?_,?_,qg (qg (qg h.bel (Nat.le_refl _) _) (Nat.le_succ _) _) (Nat.le_succ _) _,yG h.own fun g cur _ _ hge=>oth g (by omega) (by omega),fun k hk=>oth k (by omega) (by omega)⟩
 ·show (World.setCell _ _ _).heap[N]? = _
  rw [Below.heap_setCell _ _ _ _ (by simp),Below.heap_setCell _ _ _ _ (by simp),heap_setCell_same _ _ 0 _ _ _ h.b2]
  rfl
 ·show (World.setCell _ _ _).heap[N + 1]? = _
  have c0:(W.setCell ⟨N,0,none⟩ v).heap[N + 1]? = some (.cells #[.int .i64 0,.int .i64 0] 30 (0,0)):=(Below.heap_setCell _ _ _ _ (by simp)).trans h.b3
  exact heap_setCell_same _ _ 1 _ _ (.int .i64 f2) (heap_setCell_same _ _ 0 _ _ (.int .i64 f1) c0)
theorem zpS:∃ i z,Tryz.prog.underlying 35 = some (.slice 81)/\Tryz.prog.info? 81 = some i/\i.zero = some z/\i.size = 4/\i.bytes = 32/\z.cells.size = 4:=by
 obtain ⟨i,h1,h2,h3,h4⟩:=info_parts (P:=Tryz.prog) (e:=81) (z:=.agg #[.int .i64 0,.int .u64 0,.int .i64 0,.int .i64 0]) (size:=4) (bytes:=32) (by kernel_rfl)
 exact ⟨i,_,by kernel_rfl,h1,h2,h3,h4,rfl⟩
theorem zcp (w:World) (x y z u:Value) (t:TypeId):∀ j q,[x,y,z,u][j]? = some q->(w.alloc (.cells #[x,y,z,u] t)).cell? ((⟨w.heap.size,0,none⟩:Addr).add j) = some q:=by
 intro j q hj
 match j,hj with
 | 0,hj=>simp at hj; subst hj; simp [Addr.add]
 | 1,hj=>simp at hj; subst hj; simp [Addr.add]
 | 2,hj=>simp at hj; subst hj; simp [Addr.add]
 | 3,hj=>simp at hj; subst hj; simp [Addr.add]
 | j + 4,hj=>simp at hj
theorem zpT {n:Nat} (h:n < 100000):n + 1 <= maxLen:=by unfold maxLen; omega
theorem zpU {n:Nat} (h:n < 100000):(n + 1) * 32 <= 140737488355328:=by omega
end Go.Seq
