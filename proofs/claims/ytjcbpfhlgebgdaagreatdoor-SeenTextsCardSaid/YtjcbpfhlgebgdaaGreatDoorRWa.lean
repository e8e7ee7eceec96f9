import Derived.Test.YtjcbpfhlgebgdaaGreatDoorWI
set_option linter.unusedSimpArgs false
set_option linter.unusedVariables false
namespace Go.Seq
open Go.RowKit Go.Shelf Go.Proofs
def ziM:List (Wd × Bool)->Option Wd
 | []=>none
 | (w,b) :: r=>if b then ziM r else some w
def shW (a:Int) (w:Wd):Wd:=(w.1 + a,w.2)
def zbB (wsL:List UInt8->Option (List (Wd × Bool))):List (List UInt8)->List (Int × List Wd)->Int->Option (List (Int × List Wd) × Int × Int)
 | [],out,_=>some (out,0,0)
 | p :: ps,out,a=>if 1000 < p.length then some ([],4,a) else (wsL p).bind fun ws =>
   match ziM ws with
   | some w=>some ([],3,w.1 + a)
   | none=>zbB wsL ps (if ws = [] then out else out++[(a,ws.map fun x=>shW a x.1)]) (a + (p.length + 1))
def cellsW (ws:List Wd):List Value:=ws.flatMap fun x=>[.int .i64 x.1,.string ⟨x.2.1.toArray⟩,.string ⟨x.2.2.toArray⟩]
def Ze:List (Int × List Wd)->List Value->List Value
 | (a,_) :: o,v :: vs=>.int .i64 a :: v :: Ze o vs
 | _,_=>[]
theorem zbC (a:Int) (ws:List Wd) (v:Value):∀ (o:List (Int × List Wd)) (vs:List Value),vs.length = o.length->Ze (o++[(a,ws)]) (vs++[v]) = Ze o vs++[.int .i64 a,v]
 | [],[],_=>rfl
 | (b,x) :: o,u :: vs,h=>by
  show _ :: _ :: Ze (o++[(a,ws)]) (vs++[v]) = _
  rw [zbC a ws v o vs (by simpa using h)]
  rfl
theorem zhO:∀ {xs:List (Wd × Bool)},(∀ y ∈ xs,y.2 = true)->ziM xs = none
 | [],_=>rfl
 | (w,b) :: r,h=>by
  have:b = true:=h (w,b) (by simp)
  subst this
  exact zhO (xs:=r) fun y hy=>h y (by simp [hy])
theorem zhP (x:Wd) (tl:List (Wd × Bool)):∀ {pre:List (Wd × Bool)},(∀ y ∈ pre,y.2 = true)->ziM (pre++(x,false) :: tl) = some x
 | [],_=>rfl
 | (w,b) :: r,h=>by
  have:b = true:=h (w,b) (by simp)
  subst this
  exact zhP x tl (pre:=r) fun y hy=>h y (by simp [hy])
theorem yG {A B:World} {base:Nat} {e:TypeId} {size:Nat} {v:Value} {n:Nat} {xs:List Value} (h:A.ownsRow base e size v n xs)
  (hk:∀ g cur,A.heap[g]? = some (.cells cur e (0,0))->v.ownBlock = some g->base <= g->B.heap[g]? = A.heap[g]?):B.ownsRow base e size v n xs:=by
 obtain ⟨hl,h0 | ⟨g,cap,cur,hv,hb,hh,r⟩⟩:=h
 ·exact ⟨hl,.inl h0⟩
 ·exact ⟨hl,.inr ⟨g,cap,cur,hv,hb,(hk g cur hh (by rw [hv]; rfl) hb).trans hh,r⟩⟩
theorem Y4 {w:World} {base base':Nat} {e:TypeId} {size:Nat} {v:Value} {n:Nat} {xs:List Value} (h:w.ownsRow base e size v n xs) (hb:base' <= base):w.ownsRow base' e size v n xs :=
 ⟨h.1,h.2.imp id fun ⟨g,cap,cur,h1,h2,h3⟩=>⟨g,cap,cur,h1,Nat.le_trans hb h2,h3⟩⟩
theorem Zj {W:World} {base:Nat} {e:TypeId} {size:Nat} {v:Value} {n:Nat} {xs:List Value} (h:W.ownsRow base e size v n xs) {g:Nat} (hg:v.ownBlock = some g):base <= g/\∃ cur,W.heap[g]? = some (.cells cur e (0,0)):=by
 obtain ⟨hl,⟨rfl,_⟩ | ⟨g',cap,cur,rfl,hb,hh,r⟩⟩:=h
 ·cases hg
 ·cases hg; exact ⟨hb,cur,hh⟩
structure RI (N:Nat) (w W:World) (v:Value) (vs:List Value) (o:List (Int × List Wd)) (a:Int):Prop where
 bel:Below N w W
 size:N + 7 <= W.heap.size
 b2:W.heap[N]? = some (.cells #[.slice none 0 0] 68 (0,0))
 b3:W.heap[N + 1]? = some (.cells #[.int .i64 0,.int .i64 0] 30 (0,0))
 b4:W.heap[N + 2]? = some (.cells #[v] 68 (0,0))
 b5:W.heap[N + 3]? = some (.cells #[.int .i64 a] 3 (0,0))
 own:W.ownsRow (N + 7) 72 2 v o.length (Ze o vs)
 len:vs.length = o.length
 rows:∀ (i:Nat) (b:Int) (ws:List Wd) (u:Value),o[i]? = some (b,ws)->vs[i]? = some u->W.ownsRow (N + 7) 57 3 u ws.length (cellsW ws)
theorem RI.kept {N:Nat} {w A B:World} {v:Value} {vs:List Value} {o:List (Int × List Wd)} {a:Int} (h:RI N w A v vs o a) (hb:Below N w B) (hs:N + 7 <= B.heap.size)
  (k1:∀ k c ty fz,A.heap[k]? = some (.cells c ty fz)->N <= k->(k < N + 4 ∨ N + 7 <= k)->B.heap[k]? = some (.cells c ty fz)):RI N w B v vs o a :=
 ⟨hb,hs,k1 _ _ _ _ h.b2 (by omega) (by omega),k1 _ _ _ _ h.b3 (by omega) (by omega),k1 _ _ _ _ h.b4 (by omega) (by omega),k1 _ _ _ _ h.b5 (by omega) (by omega),
  yG h.own fun g cur hg _ hge=>(k1 _ _ _ _ hg (by omega) (by omega)).trans hg.symm,h.len,fun i b ws u h1 h2=>yG (h.rows i b ws u h1 h2) fun g cur hg _ hge=>(k1 _ _ _ _ hg (by omega) (by omega)).trans hg.symm⟩
theorem zbD {N M:Nat} {w A B:World} {Z:Nat->Prop} (hZ:∀ k,Z k->N <= k) (hNM:N <= M) (hN:N <= w.heap.size) (h:Below N w A) (ht:yZ Z M A B):Below N w B :=
 ⟨ht.os.trans h.os,ht.tape.trans h.tape,ht.output.trans h.output,Nat.le_trans h.size ht.size,fun k hk=>by
  have hb:=h.block k hk
  have hkw:k < w.heap.size:=by omega
  rw [Array.getElem?_eq_getElem hkw] at hb ⊢
  exact ht.block k _ hb (fun hz=>by have:=hZ k hz; omega) (.inl (by omega))⟩
theorem RI.turns {N:Nat} {w A B:World} {v:Value} {vs:List Value} {o:List (Int × List Wd)} {a:Int} {Z:Nat->Prop} (hZ:∀ k,Z k->N + 4 <= k/\k < N + 7) (hN:N = w.heap.size) (h:RI N w A v vs o a) (ht:yZ Z (N + 7) A B):RI N w B v vs o a :=
 h.kept (zbD (fun k hk=>by have:=hZ k hk; omega) (by omega) (by omega) h.bel ht) (Nat.le_trans h.size ht.size) fun k c ty fz hk _ hc=>ht.block k _ hk (fun hz=>by have:=hZ k hz; omega) (.inr rfl)
structure II (K:Nat) (Wk W:World) (a:Int) (v:Value) (pre:List Wd):Prop where
 bel:Below K Wk W
 size:K + 2 <= W.heap.size
 rb:W.heap[K]? = some (.cells #[.int .i64 a,v] 72 (0,0))
 own:W.ownsRow (K + 4) 57 3 v pre.length (cellsW pre)
theorem II.turns {K:Nat} {Wk A B:World} {a:Int} {v:Value} {pre:List Wd} (hK:K = Wk.heap.size) (h:II K Wk A a v pre) (ht:yZ (fun k=>k = K + 3) (K + 2) A B):II K Wk B a v pre :=
 ⟨zbD (fun k hk=>by omega) (by omega) (by omega) h.bel ht,Nat.le_trans h.size ht.size,ht.block K _ h.rb (by omega) (.inr rfl),yG h.own fun g cur hg _ hge=>(ht.block g _ hg (by omega) (.inr rfl)).trans hg.symm⟩
structure RX (N:Nat) (w W:World) (e1 e2:Int):Prop where
 bel:Below N w W
 size:N + 7 <= W.heap.size
 b2:W.heap[N]? = some (.cells #[.slice none 0 0] 68 (0,0))
 b3:W.heap[N + 1]? = some (.cells #[.int .i64 e1,.int .i64 e2] 30 (0,0))
theorem RX.turns {N M:Nat} {w A B:World} {e1 e2:Int} {Z:Nat->Prop} (hZ:∀ k,Z k->N + 4 <= k) (hM:N + 2 <= M) (hN:N = w.heap.size) (h:RX N w A e1 e2) (ht:yZ Z M A B):RX N w B e1 e2 :=
 ⟨zbD (fun k hk=>by have:=hZ k hk; omega) (by omega) (by omega) h.bel ht,Nat.le_trans h.size ht.size,ht.block N _ h.b2 (fun hz=>by have:=hZ _ hz; omega) (.inr rfl),ht.block (N + 1) _ h.b3 (fun hz=>by have:=hZ _ hz; omega) (.inr rfl)⟩
theorem qg {N:Nat} {w W:World} (h:Below N w W) {a:Addr} (ha:N <= a.block) (u:Value):Below N w (W.setCell a u) :=
 ⟨h.os,h.tape,h.output,by simpa using h.size,fun k hk=>(Below.heap_setCell _ _ _ _ (by omega)).trans (h.block k hk)⟩
theorem zrs {K b:Nat} {Wk W W2:World} {a:Int} {v v2 u:Value} {pre:List Wd} (hK:K = Wk.heap.size) (h:II K Wk W a v pre) (hs:K + 3 < W.heap.size) (hb:K + 4 <= b) (hbc:(W.heap[b]?).isSome = true) (hbo:∀ o,W.heap[b]? = some o->o.isCells = true) (y:Wd) (o1:Obj)
  (hg:((W.setCell ⟨b,0,none⟩ u).alloc o1).grownBy W2 v.ownBlock) (hown:W2.ownsRow (K + 4) 57 3 v2 (pre.length + 1) (cellsW pre++[.int .i64 y.1,.string ⟨y.2.1.toArray⟩,.string ⟨y.2.2.toArray⟩])) :
  II K Wk (W2.setCell ⟨K,1,none⟩ v2) a v2 (pre++[y])/\ZI (fun k=>k = K + 3) (K + 2) W (W2.setCell ⟨K,1,none⟩ v2):=by
 have hW2:∀ k,k < W.heap.size->k ≠ b->some k ≠ v.ownBlock->W2.heap[k]? = W.heap[k]?:=fun k hk hn ho =>
  (hg.block k (by simp; omega) ho).trans ((Below.heap_alloc _ _ _ (by simpa using hk)).trans (Below.heap_setCell _ _ _ _ (by simpa using hn)))
 have hsz:W.heap.size <= W2.heap.size:=by have:=hg.size; simp at this; omega
 have nb:∀ k,k < K + 4->some k ≠ v.ownBlock:=fun k hk e=>by have:=(Zj h.own e.symm).1; omega
 have hKs:K <= Wk.heap.size:=by omega
 have oth:∀ k,k ≠ K->(W2.setCell ⟨K,1,none⟩ v2).heap[k]? = W2.heap[k]?:=fun k hk=>Below.heap_setCell _ _ _ _ (by simpa using hk)
 refine ⟨⟨⟨hg.os.trans h.bel.os,hg.tape.trans h.bel.tape,hg.output.trans h.bel.output,by have:=h.bel.size; simp; omega,fun k hk=>(oth k (by omega)).trans ((hW2 k (by omega) (by omega) (nb k (by omega))).trans (h.bel.block k hk))⟩,by simp; omega,?_,?_⟩,fun k ob ho hc=>?_⟩
 ·exact heap_setCell_same _ _ 1 _ _ v2 ((hW2 K (by omega) (by omega) (nb K (by omega))).trans h.rb)
 ·have e1:(pre++[y]).length = pre.length + 1:=by simp
  have e2:cellsW (pre++[y]) = cellsW pre++[.int .i64 y.1,.string ⟨y.2.1.toArray⟩,.string ⟨y.2.2.toArray⟩]:=by simp [cellsW]
  rw [e1,e2]
  exact yG hown fun g cur _ _ hge=>oth g (by omega)
 ·have hlt:=(Array.getElem?_eq_some_iff.1 ho).1
  have hKk:k ≠ K:=by rcases hc with h | h <;> omega
  refine (oth k hKk).trans ((hW2 k hlt ?_ ?_).trans ho)
  ·rintro rfl
   rcases hc with hc | ⟨_,hc⟩
   ·omega
   ·rw [hbo _ ho] at hc; cases hc
  ·rcases hc with hc | ⟨_,hc⟩
   ·exact nb k (by omega)
   ·intro e
    obtain ⟨_,cur,hg'⟩:=Zj h.own e.symm
    rw [ho] at hg'; cases hg'; cases hc
theorem zsB {N K b:Nat} {w Wk W B:World} {a:Int} {v:Value} {pre:List Wd} {vo:Value} {vs:List Value} {o:List (Int × List Wd)} (hN:N = w.heap.size) (hK:K = Wk.heap.size) (hr:RI N w Wk vo vs o a) (h:II K Wk W a v pre) (hs:K + 3 < W.heap.size) (hb:K + 4 <= b)
  (hbo:∀ o,W.heap[b]? = some o->o.isCells = true) {u:Value} (e1 e2:Int)
  (hB:B.heap = ((((W.setCell ⟨b,0,none⟩ u).setCell ⟨N,0,none⟩ (.slice none 0 0)).setCell ⟨N + 1,0,none⟩ (.int .i64 e1)).setCell ⟨N + 1,1,none⟩ (.int .i64 e2)).heap) (ho:B.os = W.os) (ht:B.tape = W.tape) (hp:B.output = W.output) :
  RX N w B e1 e2/\(∀ k,N + 4 <= k->k < K->B.heap[k]? = Wk.heap[k]?)/\K <= B.heap.size/\ZI (fun k=>k = K + 3) (K + 2) W B:=by
 have hNK:N + 7 <= K:=by have:=hr.size; omega
 have oth:∀ k,k ≠ b->k ≠ N->k ≠ N + 1->B.heap[k]? = W.heap[k]?:=fun k h1 h2 h3=>by
  rw [hB,Below.heap_setCell _ _ _ _ (by simpa using h3),Below.heap_setCell _ _ _ _ (by simpa using h3),Below.heap_setCell _ _ _ _ (by simpa using h2),Below.heap_setCell _ _ _ _ (by simpa using h1)]
 have hsz:B.heap.size = W.heap.size:=by rw [hB]; simp
 have c0:(W.setCell ⟨b,0,none⟩ u).heap[N]? = some (.cells #[.slice none 0 0] 68 (0,0)):=(Below.heap_setCell _ _ _ _ (by simp; omega)).trans ((h.bel.block N (by omega)).trans hr.b2)
 have c1:((W.setCell ⟨b,0,none⟩ u).setCell ⟨N,0,none⟩ (.slice none 0 0)).heap[N + 1]? = some (.cells #[.int .i64 0,.int .i64 0] 30 (0,0)):=(Below.heap_setCell _ _ _ _ (by simp)).trans ((Below.heap_setCell _ _ _ _ (by simp; omega)).trans ((h.bel.block (N + 1) (by omega)).trans hr.b3))
 refine ⟨⟨⟨ho.trans (h.bel.os.trans hr.bel.os),ht.trans (h.bel.tape.trans hr.bel.tape),hp.trans (h.bel.output.trans hr.bel.output),by have:=hr.bel.size; have:=h.bel.size; omega,fun k hk=>(oth k (by omega) (by omega) (by omega)).trans ((h.bel.block k (by omega)).trans (hr.bel.block k hk))⟩,by omega,?_,?_⟩,fun k h1 h2=>(oth k (by omega) (by omega) (by omega)).trans (h.bel.block k h2),by omega,fun k ob hob hc=>?_⟩
 ·rw [hB,Below.heap_setCell _ _ _ _ (by simp),Below.heap_setCell _ _ _ _ (by simp),heap_setCell_same _ _ 0 _ _ _ c0]
  rfl
 ·rw [hB]
  exact heap_setCell_same _ _ 1 _ _ (.int .i64 e2) (heap_setCell_same _ _ 0 _ _ (.int .i64 e1) c1)
 ·refine (oth k ?_ ?_ ?_).trans hob
  ·rintro rfl
   rcases hc with hc | ⟨_,hc⟩
   ·omega
   ·rw [hbo _ hob] at hc; cases hc
  ·rcases hc with hc | hc <;> omega
  ·rcases hc with hc | hc <;> omega
theorem RI.after {N K:Nat} {w Wk W:World} {a:Int} {v:Value} {pre:List Wd} {vo:Value} {vs:List Value} {o:List (Int × List Wd)} (hN:N <= w.heap.size) (hK:K = Wk.heap.size) (hr:RI N w Wk vo vs o a) (h:II K Wk W a v pre):RI N w W vo vs o a:=by
 have hlt:∀ k o,Wk.heap[k]? = some o->W.heap[k]? = some o:=fun k o hk=>(h.bel.block k (by have:=(Array.getElem?_eq_some_iff.1 hk).1; omega)).trans hk
 refine hr.kept ⟨h.bel.os.trans hr.bel.os,h.bel.tape.trans hr.bel.tape,h.bel.output.trans hr.bel.output,Nat.le_trans hr.bel.size (by have:=h.bel.size; omega),fun k hk=>(h.bel.block k (by have:=hr.bel.size; omega)).trans (hr.bel.block k hk)⟩ (Nat.le_trans hr.size (by have:=h.bel.size; omega)) fun k c ty fz hk _ _=>hlt k _ hk
theorem zgd {N K:Nat} {Wk B:World} {Z:Nat->Prop} (hK:K = Wk.heap.size) (hZ:∀ k,Z k->N + 4 <= k/\k < N + 7) (hb:∀ k o,Wk.heap[k]? = some o->(N + 4 <= k/\(k < N + 7 ∨ o.isCells = false))->B.heap[k]? = Wk.heap[k]?):ZI Z (N + 7) Wk B:=fun k o ho hc =>
 (hb k o ho (hc.elim (fun hz=>by have:=hZ k hz; exact ⟨this.1,.inl this.2⟩) (fun hz=>⟨by omega,.inr hz.2⟩))).trans ho
theorem zn4 {N K:Nat} {w Wk W:World} {a a2:Int} {v:Value} {vo:Value} {vs:List Value} {o:List (Int × List Wd)} {Z:Nat->Prop} (hZ:∀ k,Z k->N + 4 <= k/\k < N + 7) (hN:N = w.heap.size) (hK:K = Wk.heap.size) (hr:RI N w Wk vo vs o a) {pre:List Wd} (h:II K Wk W a v pre) :
  RI N w (W.setCell ⟨N + 3,0,none⟩ (.int .i64 a2)) vo vs o a2/\ZI Z (N + 7) Wk (W.setCell ⟨N + 3,0,none⟩ (.int .i64 a2)):=by
 have hW:=RI.after (by omega) hK hr h
 have oth:∀ k,k ≠ N + 3->(W.setCell ⟨N + 3,0,none⟩ (.int .i64 a2)).heap[k]? = W.heap[k]?:=fun k hk=>Below.heap_setCell _ _ _ _ (by simpa using hk)
 refine ⟨⟨qg hW.bel (by simp) _,by simpa using hW.size,(oth _ (by omega)).trans hW.b2,(oth _ (by omega)).trans hW.b3,(oth _ (by omega)).trans hW.b4,heap_setCell_same _ _ 0 _ _ _ hW.b5,yG hW.own fun g _ _ _ hge=>oth g (by omega),hW.len,fun i b ws u h1 h2=>yG (hW.rows i b ws u h1 h2) fun g _ _ _ hge=>oth g (by omega)⟩,zgd hK hZ fun k ob hob hc=>?_⟩
 exact (oth k (by omega)).trans (h.bel.block k (by have:=(Array.getElem?_eq_some_iff.1 hob).1; omega))
theorem zn5 {N K:Nat} {w Wk W W2:World} {a a2:Int} {v vo vo2:Value} {vs:List Value} {o:List (Int × List Wd)} {ws:List Wd} {Z:Nat->Prop} (hZ:∀ k,Z k->N + 4 <= k/\k < N + 7) (hN:N = w.heap.size) (hK:K = Wk.heap.size) (hr:RI N w Wk vo vs o a) (h:II K Wk W a v ws) (o1:Obj)
  (hg:(W.alloc o1).grownBy W2 vo.ownBlock) (hown:W2.ownsRow (N + 7) 72 2 vo2 (o.length + 1) (Ze o vs++[.int .i64 a,v])) :
  RI N w ((W2.setCell ⟨N + 2,0,none⟩ vo2).setCell ⟨N + 3,0,none⟩ (.int .i64 a2)) vo2 (vs++[v]) (o++[(a,ws)]) a2/\ZI Z (N + 7) Wk ((W2.setCell ⟨N + 2,0,none⟩ vo2).setCell ⟨N + 3,0,none⟩ (.int .i64 a2)):=by
 have hNK:N + 7 <= K:=by have:=hr.size; omega
 have hW:=RI.after (by omega) hK hr h
 have hW2:∀ k,k < W.heap.size->some k ≠ vo.ownBlock->W2.heap[k]? = W.heap[k]?:=fun k hk hn=>(hg.block k (by simp; omega) hn).trans (Below.heap_alloc _ _ _ hk)
 have hsz:W.heap.size <= W2.heap.size:=by have:=hg.size; simp at this; omega
 have nb:∀ k,k < N + 7->some k ≠ vo.ownBlock:=fun k hk e=>by have:=(Zj hW.own e.symm).1; omega
 have hWs:=hW.size
 obtain ⟨B,hB⟩:∃ B,(W2.setCell ⟨N + 2,0,none⟩ vo2).setCell ⟨N + 3,0,none⟩ (.int .i64 a2) = B:=⟨_,rfl⟩
 rw [hB]
 have oth:∀ k,k ≠ N + 2->k ≠ N + 3->B.heap[k]? = W2.heap[k]?:=fun k h2 h3=>by
  rw [<- hB,Below.heap_setCell _ _ _ _ (by simpa using h3),Below.heap_setCell _ _ _ _ (by simpa using h2)]
 have hBs:B.heap.size = W2.heap.size:=by rw [<- hB]; simp
 have ww:∀ {base:Nat} {u:Value} {n:Nat} {xs:List Value},N + 7 <= base->W.ownsRow base 57 3 u n xs->B.ownsRow base 57 3 u n xs:=fun hbase hu=>yG hu fun g cur hg' _ hge=>by
  refine (oth g (by omega) (by omega)).trans (hW2 g (Array.getElem?_eq_some_iff.1 hg').1 fun e=>?_)
  obtain ⟨_,cur',hg''⟩:=Zj hW.own e.symm
  rw [hg'] at hg''
  simp only [Option.some.injEq,Obj.cells.injEq] at hg''
  exact absurd hg''.2.1 (by decide)
 refine ⟨⟨⟨?_,?_,?_,by have:=hW.bel.size; omega,fun k hk=>(oth k (by omega) (by omega)).trans ((hW2 k (by omega) (nb k (by omega))).trans (hW.bel.block k hk))⟩,by omega,(oth _ (by omega) (by omega)).trans ((hW2 _ (by omega) (nb _ (by omega))).trans hW.b2),(oth _ (by omega) (by omega)).trans ((hW2 _ (by omega) (nb _ (by omega))).trans hW.b3),?_,?_,?_,by simp [hr.len],?_⟩,zgd hK hZ fun k ob hob hc=>?_⟩
 ·rw [<- hB]; exact hg.os.trans hW.bel.os
 ·rw [<- hB]; exact hg.tape.trans hW.bel.tape
 ·rw [<- hB]; exact hg.output.trans hW.bel.output
 ·rw [<- hB,Below.heap_setCell _ _ _ _ (by simp)]
  exact heap_setCell_same _ _ 0 _ _ _ ((hW2 _ (by omega) (nb _ (by omega))).trans hW.b4)
 ·rw [<- hB]
  exact heap_setCell_same _ _ 0 _ _ _ ((Below.heap_setCell _ _ _ _ (by simp)).trans ((hW2 _ (by omega) (nb _ (by omega))).trans hW.b5))
 ·rw [zbC a ws v o vs hr.len,show (o++[(a,ws)]).length = o.length + 1 by simp]
  exact yG hown fun g _ _ _ hge=>oth g (by omega) (by omega)
 ·intro i b ws' u h1 h2
  rcases Nat.lt_trichotomy i o.length with hi | hi | hi
  ·rw [List.getElem?_append_left hi] at h1
   rw [List.getElem?_append_left (by rw [hr.len]; exact hi)] at h2
   exact ww (Nat.le_refl _) (hW.rows i b ws' u h1 h2)
  ·subst hi
   simp at h1
   rw [<- hr.len] at h2
   simp at h2
   obtain ⟨_,rfl⟩:=h1
   subst h2
   exact Y4 (ww (by omega) h.own) (by omega)
  ·rw [List.getElem?_eq_none (by simp; omega)] at h1; cases h1
 ·have hkw:k < Wk.heap.size:=(Array.getElem?_eq_some_iff.1 hob).1
  have hWk:W.heap[k]? = some ob:=(h.bel.block k (by omega)).trans hob
  refine (oth k (by omega) (by omega)).trans ((hW2 k (Array.getElem?_eq_some_iff.1 hWk).1 fun e=>?_).trans (hWk.trans hob.symm))
  obtain ⟨hge,cur',hg''⟩:=Zj hW.own e.symm
  rw [hWk] at hg''
  rcases hc.2 with hc | hc
  ·omega
  ·cases hg''; cases hc
end Go.Seq
