import Derived.WalkKit
import Derived.Deep.Draws
import Derived.Orders
import Derived.Maps.Own
import Derived.Test.YtjcbpfhlgebgdaaGreatDoorRows
import Derived.KernelRfl
open Option.some renaming injEq -> zuf
open List renaming eq_nil_of_length_eq_zero -> zui
set_option linter.unusedSimpArgs false
set_option linter.unusedVariables false
namespace Go.Eng
open Go.RowKit
inductive V where
 | any
 | un
 | int (k:IntKind) (n:Int)
 | bool (b:Bool)
 | str (s:List UInt8)
 | agg (cs:List V)
 | tup (vs:List V)
 | loc (i off:Nat)
 | elt (cs:List V) (off:Nat)
 | nilp
 | list (rows:List V)
 | fn (f:Fn) (first captured:List V)
 | nilfn
 | iface (t:TypeId) (v:V)
 | nilif
 | mref (i:Nat)
 | nilm
 | ptr (off:Nat)
 deriving Inhabited
structure Env where
 w:World
 pr:Nat->Nat->Prop
 lam:Nat->Option Nat
def Env.at (E:Env) (b o:Nat) (x:Value):Prop:=E.w.cell? ⟨b,o,none⟩ = some x/\E.pr b o
mutual
def R (E:Env):V->Value->Prop
 | .any,_=>True
 | .un,x=>x = undef
 | .int k n,x=>x = .int k n
 | .bool b,x=>x = .bool b
 | .str s,x=>x = .string ⟨s.toArray⟩/\s.length <= maxLen
 | .agg cs,x=>∃ xs:List Value,x = .agg xs.toArray/\RL E cs xs/\∀ y ∈ xs,y.oneCell' = true
 | .tup cs,x=>∃ xs:List Value,x = .tuple xs.toArray/\RL E cs xs
 | .loc i off,x=>∃ b,E.lam i = some b/\x = .pointer (some ⟨b,off,none⟩)
 | .elt cs off,x=>∃ b o,x = .pointer (some ⟨b,o + off,none⟩)/\RC E b o cs
 | .nilp,x=>x = .pointer none
 | .list rows,x=>∃ base cap,x = .slice base rows.length cap/\rows.length <= cap/\cap <= maxLen/\((rows = []/\cap = 0) ∨ ∃ b o k,base = some ⟨b,o,none⟩/\RR E b k o rows)
 | .fn f first cap,x=>∃ xs ys:List Value,x = .func f xs.toArray ys.toArray/\RL E first xs/\RL E cap ys
 | .nilfn,x=>x = .nilFunc
 | .iface t v,x=>∃ y,x = .iface t y/\R E v y
 | .nilif,x=>x = .nilIface
 | .mref i,x=>∃ b,E.lam i = some b/\x = .map (some b)
 | .nilm,x=>x = .map none
 | .ptr off,x=>∃ b,x = .pointer (some ⟨b,off,none⟩)
def RL (E:Env):List V->List Value->Prop
 | [],xs=>xs = []
 | c :: cs,xs=>∃ y ys,xs = y :: ys/\R E c y/\RL E cs ys
def RC (E:Env) (b:Nat) (o:Nat):List V->Prop
 | []=>True
 | c :: cs=>(∃ y,E.at b o y/\y.oneCell' = true/\R E c y)/\RC E b (o + 1) cs
def RR (E:Env) (b k:Nat) (o:Nat):List V->Prop
 | []=>True
 | r :: rs=>(∃ y:Value,R E r y/\y.cells.size = k/\(∀ j z,y.cells[j]? = some z->E.at b (o + j) z/\z.oneCell' = true))/\RR E b k (o + k) rs
end
structure Env.Le (E E':Env):Prop where
 lam:∀ i b,E.lam i = some b->E'.lam i = some b
 pr:∀ b o,E.pr b o->E'.pr b o
 cell:∀ b o,E.pr b o->E'.w.cell? ⟨b,o,none⟩ = E.w.cell? ⟨b,o,none⟩
theorem Env.Le.trans {E E' E'':Env} (h:E.Le E') (k:E'.Le E''):E.Le E'' :=
 ⟨fun i b e=>k.lam i b (h.lam i b e),fun b o e=>k.pr b o (h.pr b o e),fun b o e=>(k.cell b o (h.pr b o e)).trans (h.cell b o e)⟩
theorem Env.Le.at {E E':Env} (h:E.Le E') {b o:Nat} {x:Value} (ha:E.at b o x):E'.at b o x :=
 ⟨(h.cell b o ha.2).trans ha.1,h.pr b o ha.2⟩
mutual
theorem R.mono {E E':Env} (h:E.Le E'):∀ (v:V) (x:Value),R E v x->R E' v x
 | .any,_,_=>by simp [R]
 | .un,_,q=>by simpa [R] using q
 | .int _ _,_,q=>by simpa [R] using q
 | .bool _,_,q=>by simpa [R] using q
 | .str _,_,q=>by simpa [R] using q
 | .agg cs,_,q=>by
  simp only [R] at q ⊢
  obtain ⟨xs,e,q,q1⟩:=q
  exact ⟨xs,e,RL.mono h cs xs q,q1⟩
 | .tup cs,_,q=>by
  simp only [R] at q ⊢
  obtain ⟨xs,e,q⟩:=q
  exact ⟨xs,e,RL.mono h cs xs q⟩
 | .loc i off,_,q=>by
  simp only [R] at q ⊢
  obtain ⟨b,e,q⟩:=q
  exact ⟨b,h.lam _ _ e,q⟩
 | .elt cs off,_,q=>by
  simp only [R] at q ⊢
  obtain ⟨b,o,e,q⟩:=q
  exact ⟨b,o,e,RC.mono h b o cs q⟩
 | .nilp,_,q=>by simpa [R] using q
 | .list rows,_,q=>by
  simp only [R] at q ⊢
  obtain ⟨base,cap,e,hc,hm,q⟩:=q
  refine ⟨base,cap,e,hc,hm,?_⟩
  rcases q with q | ⟨b,o,k,e2,q⟩
  ·exact .inl q
  ·exact .inr ⟨b,o,k,e2,RR.mono h b k o rows q⟩
 | .fn f first cap,_,q=>by
  simp only [R] at q ⊢
  obtain ⟨xs,ys,e,q1,q2⟩:=q
  exact ⟨xs,ys,e,RL.mono h _ _ q1,RL.mono h _ _ q2⟩
 | .nilfn,_,q=>by simpa [R] using q
 | .iface t v,_,q=>by
  simp only [R] at q ⊢
  obtain ⟨y,e,q⟩:=q
  exact ⟨y,e,R.mono h v y q⟩
 | .nilif,_,q=>by simpa [R] using q
 | .mref i,_,q=>by
  simp only [R] at q ⊢
  obtain ⟨b,e,q⟩:=q
  exact ⟨b,h.lam _ _ e,q⟩
 | .nilm,_,q=>by simpa [R] using q
 | .ptr _,_,q=>by simpa [R] using q
theorem RL.mono {E E':Env} (h:E.Le E'):∀ (cs:List V) (xs:List Value),RL E cs xs->RL E' cs xs
 | [],_,q=>by simpa [RL] using q
 | c :: cs,_,q=>by
  simp only [RL] at q ⊢
  obtain ⟨y,ys,e,q1,q2⟩:=q
  exact ⟨y,ys,e,R.mono h c y q1,RL.mono h cs ys q2⟩
theorem RC.mono {E E':Env} (h:E.Le E') (b:Nat):∀ (o:Nat) (cs:List V),RC E b o cs->RC E' b o cs
 | _,[],_=>by simp [RC]
 | o,c :: cs,q=>by
  simp only [RC] at q ⊢
  obtain ⟨⟨y,q0,q3,q1⟩,q2⟩:=q
  exact ⟨⟨y,h.at q0,q3,R.mono h c y q1⟩,RC.mono h b (o + 1) cs q2⟩
theorem RR.mono {E E':Env} (h:E.Le E') (b k:Nat):∀ (o:Nat) (cs:List V),RR E b k o cs->RR E' b k o cs
 | _,[],_=>by simp [RR]
 | o,c :: cs,q=>by
  simp only [RR] at q ⊢
  obtain ⟨⟨y,q0,q1,q3⟩,q2⟩:=q
  exact ⟨⟨y,R.mono h c y q0,q1,fun j z hz=>⟨h.at (q3 j z hz).1,(q3 j z hz).2⟩⟩,RR.mono h b k (o + k) cs q2⟩
end
theorem R.old {w w':World} {pr0:Nat->Nat->Prop} {lam lam':Nat->Option Nat} (hl:∀ i b,lam i = some b->lam' i = some b) (hc:∀ b o,pr0 b o->w'.cell? ⟨b,o,none⟩ = w.cell? ⟨b,o,none⟩) {v:V} {x:Value} (h:R ⟨w,pr0,lam⟩ v x):R ⟨w',pr0,lam'⟩ v x :=
 R.mono (E:=⟨w,pr0,lam⟩) (E':=⟨w',pr0,lam'⟩) ⟨hl,fun _ _ h=>h,hc⟩ v x h
def ZL:Nat:=1000000000
def RM (E:Env):List V->List MapEntry->Prop
 | [],es=>es = []
 | c :: cs,es=>∃ k v e es',c = .tup [k,v]/\es = e :: es'/\R E k e.key/\R E v e.val/\RM E cs es'
theorem RM.mono {E E':Env} (h:E.Le E'):∀ {cs:List V} {es:List MapEntry},RM E cs es->RM E' cs es
 | [],_,q=>by simpa [RM] using q
 | c :: cs,_,q=>by
  simp only [RM] at q ⊢
  obtain ⟨k,v,e,es',h1,h2,h3,h4,h5⟩:=q
  exact ⟨k,v,e,es',h1,h2,h3.mono h,h4.mono h,RM.mono h h5⟩
structure Box where
 cells:List V
 ty:TypeId
structure Yg (E:Env) (b:Nat) (B:Box):Prop where
 cells:B.ty < ZL->∃ cur,E.w.heap[b]? = some (.cells cur B.ty (0,0))/\RL E B.cells cur.toList/\∀ y ∈ cur.toList,y.oneCell' = true
 map:ZL <= B.ty->∃ es clock,E.w.heap[b]? = some (.map es clock)/\RM E B.cells es.toList/\MapKept.Stamped es clock
theorem Yg.lt {E:Env} {b:Nat} {B:Box} (h:Yg E b B):b < E.w.heap.size:=by
 rcases Nat.lt_or_ge B.ty ZL with q | q
 ·obtain ⟨cur,h1,_⟩:=h.cells q
  exact (Array.getElem?_eq_some_iff.1 h1).1
 ·obtain ⟨es,clock,h1,_⟩:=h.map q
  exact (Array.getElem?_eq_some_iff.1 h1).1
theorem Yg.mono {E E':Env} (h:E.Le E') {b:Nat} {B:Box} (hb:E'.w.heap[b]? = E.w.heap[b]?) (q:Yg E b B):Yg E' b B:=by
 refine ⟨fun ht=>?_,fun ht=>?_⟩
 ·obtain ⟨cur,h1,h2,h3⟩:=q.cells ht
  exact ⟨cur,hb.trans h1,h2.mono h,h3⟩
 ·obtain ⟨es,clock,h1,h2⟩:=q.map ht
  exact ⟨es,clock,hb.trans h1,h2.1.mono h,h2.2⟩
end Go.Eng
namespace Go.Eng
open Go.RowKit
mutual
def flatD:DataW Unit->Option (List Value)
 | .lit (.bool b)=>some [.bool b]
 | .lit (.int k n)=>some [.int k n]
 | .lit (.string l)=>some [.string ⟨l.toArray⟩]
 | .agg ds=>flatDs ds
 | _=>none
def flatDs:List (DataW Unit)->Option (List Value)
 | []=>some []
 | d :: ds=>match flatD d,flatDs ds with
  | some a,some b=>some (a++b)
  | _,_=>none
end
def G0:List Value:=(flatD Go.Proofs.YtjcbpfhlgebgdaaGreatDoor.Rows.laid_internal_strconv_uint64pow10).getD []
def GL:Nat->Option (List Value):=fun g=>if g = 1 then some G0 else none
theorem zsb (g:Nat) (vs:List Value) (h:GL g = some vs):∀ v ∈ vs,v.oneCell' = true:=by
 unfold GL at h
 split at h
 ·cases h
  have:G0.all (·.oneCell') = true:=by kernel_rfl
  exact List.all_eq_true.1 this
 ·cases h
theorem zlx (g:Nat) (vs:List Value) (h:GL g = some vs):0 < vs.length:=by
 unfold GL at h
 split at h
 ·cases h
  exact of_decide_eq_true (by kernel_rfl)
 ·cases h
def DLE (_ _:World):Prop:=True
theorem DLE.any (w w':World):DLE w w':=trivial
theorem DLE.refl (w:World):DLE w w:=trivial
theorem DLE.trans {w w1 w2:World} (h:DLE w w1) (k:DLE w1 w2):DLE w w2:=trivial
theorem DLE.of_le {w w':World} (h:w.drawn <= w'.drawn):DLE w w':=trivial
theorem DLE.of_eq {w w':World} (h:w'.drawn = w.drawn):DLE w w':=trivial
theorem DLE.drewN (w:World) (n:Nat):DLE w (w.drewN n):=trivial
end Go.Eng
namespace Go.Eng
open Go.RowKit
structure St where
 nb:Nat
 sl:Nat->V × Option (Nat × TypeId)
 box:Nat->Option Box
def St.env (st:St) (s:Nat):V:=(st.sl s).1
def St.tok (st:St) (s:Nat):Option (Nat × TypeId):=(st.sl s).2
def upd {α:Type} (f:Nat->α) (i:Nat) (x:α):Nat->α:=fun j=>if j = i then x else f j
@[simp] theorem QK {α:Type} (f:Nat->α) (i:Nat) (x:α):upd f i x i = x:=by simp [upd]
theorem ZE {α:Type} (f:Nat->α) (i j:Nat) (x:α) (h:j ≠ i):upd f i x j = f j:=by simp [upd,h]
def tcl (t:Nat):Nat:=t / 1000000
def zp (c:Nat):Value->Option Nat
 | .slice (some a) n cap=>if (c = 0/\0 < cap) ∨ (c = 1/\n < cap) then some a.block else none
 | _=>none
def Own (P:Program) (M:Nat->Prop) (E:Env) (c:Nat) (e:TypeId) (x:Value):Prop :=
 ∀ g,zp c x = some g->M g/\∃ n cap cur sz,x = .slice (some ⟨g,0,none⟩) n cap/\E.w.heap[g]? = some (.cells cur e (0,0)) /\
  (P.info? e).map (·.size) = some sz/\cur.size = cap * sz/\∀ o,n * sz <= o->¬ E.pr g o
structure HL (w:World) (pr:Nat->Nat->Prop):Prop where
 lt:∀ b o,pr b o->b < w.heap.size
 glob:∀ g vs,GL g = some vs->(∃ ty,w.heap[g]? = some (.cells vs.toArray ty (0,0)))/\∀ i,i < vs.length->pr g i
structure Fr where
 nt:Nat
 lam0:Nat->Option Nat
 w0:World
 pr0:Nat->Nat->Prop
 io:Nat->Prop
 lt0:∀ b o,pr0 b o->b < w0.heap.size
 hd:Option Nat
 hd0:∀ b o,hd = some b->¬ pr0 b o
 gl:∀ g vs,GL g = some vs->(∃ ty,w0.heap[g]? = some (.cells vs.toArray ty (0,0)))/\(¬ io g/\hd ≠ some g)/\∀ i,i < vs.length->pr0 g i
def Fr.N (F:Fr):Nat:=F.w0.heap.size
def Fr.mine (F:Fr) (g:Nat):Prop:=F.N <= g ∨ F.hd = some g
theorem Fr.mine_pr {F:Fr} {g o:Nat} (h:F.mine g) (hp:F.pr0 g o):False:=by
 rcases h with h | h
 ·exact Nat.lt_irrefl _ (Nat.lt_of_lt_of_le (F.lt0 _ _ hp) h)
 ·exact F.hd0 g o h hp
theorem Fr.mine_keep {F:Fr} {g k:Nat} (h:F.mine g) (hk:k < F.w0.heap.size) (hh:F.hd ≠ some k):k ≠ g:=by
 rintro rfl
 rcases h with h | h
 ·exact Nat.lt_irrefl _ (Nat.lt_of_lt_of_le hk h)
 ·exact hh h
theorem Fr.mine_gl {F:Fr} {g k:Nat} {vs:List Value} (h:F.mine g) (hg:GL k = some vs):g ≠ k:=by
 rintro rfl
 obtain ⟨⟨ty,h3⟩,h4,_⟩:=F.gl g vs hg
 exact F.mine_keep h (Array.getElem?_eq_some_iff.1 h3).1 h4.2 rfl
structure ztO (F:Fr) (w:World):Prop where
 os:w.os = F.w0.os
 tape:w.tape = F.w0.tape
 output:w.output = F.w0.output
 drawn:DLE F.w0 w
 size:F.w0.heap.size <= w.heap.size
 block:∀ k,k < F.w0.heap.size->¬ F.io k->F.hd ≠ some k->w.heap[k]? = F.w0.heap[k]?
structure zq (P:Program) (F:Fr) (st:St) (a:Act) (w:World) (pr:Nat->Nat->Prop) (lam:Nat->Option Nat):Prop where
 size:a.tmps.size = F.nt
 defers:a.defers = []
 env:∀ s,R ⟨w,pr,lam⟩ (st.env s) (a.tmps.getD s undef)
 own:∀ s t e,st.tok s = some (t,e)->Own P F.mine ⟨w,pr,lam⟩ (tcl t) e (a.tmps.getD s undef)
 coh:∀ s s' t t' e e' g,st.tok s = some (t,e)->st.tok s' = some (t',e')->zp (tcl t) (a.tmps.getD s undef) = some g->zp (tcl t') (a.tmps.getD s' undef) = some g->t = t'
 box:∀ i B,st.box i = some B->∃ b,lam i = some b/\Yg ⟨w,pr,lam⟩ b B/\(∀ o,¬ pr b o)/\(F.N <= b ∨ F.io b)
 inj:∀ i j B B' b,st.box i = some B->st.box j = some B'->lam i = some b->lam j = some b->i = j
 apart:∀ i B b s t e,st.box i = some B->lam i = some b->st.tok s = some (t,e)->zp (tcl t) (a.tmps.getD s undef) ≠ some b
 nolam:∀ i,st.box i = none->lam i = none
 prlt:∀ b o,pr b o->b < w.heap.size
 keep:ztO F w
 prsub:∀ b o,F.pr0 b o->pr b o
 prnew:∀ b o,pr b o->F.pr0 b o ∨ F.mine b
 lamsub:∀ i b,F.lam0 i = some b->lam i = some b
 coh2:∀ s s' t e e',st.tok s = some (t,e)->st.tok s' = some (t,e')->tcl t = 0->a.tmps.getD s undef = a.tmps.getD s' undef
 old:∀ s t e,st.tok s = some (t,e)->tcl t = 2->R ⟨w,F.pr0,lam⟩ (st.env s) (a.tmps.getD s undef)
 ptr:∀ s s' t e e' b o g,st.tok s = some (t + 3000000,e)->st.tok s' = some (t,e')->a.tmps.getD s undef = .pointer (some ⟨b,o,none⟩)->zp (tcl t) (a.tmps.getD s' undef) = some g->b = g
theorem zq.hl {P:Program} {F:Fr} {st:St} {a:Act} {w:World} {pr:Nat->Nat->Prop} {lam:Nat->Option Nat} (h:zq P F st a w pr lam):HL w pr:=by
 refine ⟨h.prlt,fun g vs hg=>?_⟩
 obtain ⟨⟨ty,h1⟩,h2,h3⟩:=F.gl g vs hg
 exact ⟨⟨ty,(h.keep.block g (Array.getElem?_eq_some_iff.1 h1).1 h2.1 h2.2).trans h1⟩,fun i hi=>h.prsub g i (h3 i hi)⟩
structure Ext (w:World) (pr:Nat->Nat->Prop) (w':World) (pr':Nat->Nat->Prop):Prop where
 below:Below w.heap.size w w'
 drawn:DLE w w'
 sub:∀ b o,pr b o->pr' b o
 new:∀ b o,pr' b o->pr b o ∨ (w.heap.size <= b/\b < w'.heap.size)
theorem Ext.refl (w:World) (pr:Nat->Nat->Prop):Ext w pr w pr:=⟨Below.refl _ _,DLE.refl _,fun _ _ h=>h,fun _ _ h=>.inl h⟩
theorem Ext.trans {w w1 w2:World} {pr pr1 pr2:Nat->Nat->Prop} (h:Ext w pr w1 pr1) (k:Ext w1 pr1 w2 pr2):Ext w pr w2 pr2 :=
 ⟨h.below.trans (k.below.mono h.below.size),h.drawn.trans k.drawn,fun b o x=>k.sub b o (h.sub b o x),fun b o x=>by
  rcases k.new b o x with x | ⟨x,y⟩
  ·rcases h.new b o x with x | ⟨x,y⟩
   ·exact .inl x
   ·exact .inr ⟨x,Nat.lt_of_lt_of_le y k.below.size⟩
  ·exact .inr ⟨Nat.le_trans h.below.size x,y⟩⟩
theorem Ext.drew {w:World} {pr:Nat->Nat->Prop} (n:Nat):Ext w pr (w.drewN n) pr :=
 ⟨⟨rfl,rfl,rfl,Nat.le_refl _,fun _ _=>rfl⟩,DLE.drewN _ _,fun _ _ h=>h,fun _ _ h=>.inl h⟩
theorem Ext.alloc (w:World) (pr:Nat->Nat->Prop) (o:Obj):Ext w pr (w.alloc o) pr :=
 ⟨(Below.refl _ _).alloc (Nat.le_refl _) o,DLE.of_eq rfl,fun _ _ h=>h,fun _ _ h=>.inl h⟩
theorem Ext.protect (w:World) (pr:Nat->Nat->Prop) (w':World) (h:Below w.heap.size w w') (hd:DLE w w') (n:Nat->Nat->Prop)
  (hn:∀ b o,n b o->w.heap.size <= b/\b < w'.heap.size):Ext w pr w' (fun b o=>pr b o ∨ n b o) :=
 ⟨h,hd,fun _ _ x=>.inl x,fun b o x=>x.imp id (hn b o)⟩
theorem Ext.le {w w':World} {pr pr':Nat->Nat->Prop} {lam:Nat->Option Nat} (h:Ext w pr w' pr') (hlt:∀ b o,pr b o->b < w.heap.size) :
  Env.Le ⟨w,pr,lam⟩ ⟨w',pr',lam⟩ :=
 ⟨fun _ _ h=>h,h.sub,fun b o hp=>h.below.cell (p:=⟨b,o,none⟩) (hlt b o hp)⟩
theorem Own.ext {P:Program} {N:Nat->Prop} {w w':World} {pr pr':Nat->Nat->Prop} {lam:Nat->Option Nat} {c:Nat} {e:TypeId} {x:Value} (h:Own P N ⟨w,pr,lam⟩ c e x) (k:Ext w pr w' pr') :
  Own P N ⟨w',pr',lam⟩ c e x:=by
 intro g hg
 obtain ⟨h1,n,cap,cur,sz,h2,h3,h4,h5,h6⟩:=h g hg
 have hlt:g < w.heap.size:=(Array.getElem?_eq_some_iff.1 h3).1
 refine ⟨h1,n,cap,cur,sz,h2,?_,h4,h5,fun o ho hp=>?_⟩
 ·show w'.heap[g]? = _
  rw [k.below.block g hlt]; exact h3
 ·rcases k.new g o hp with hp | ⟨hp,_⟩
  ·exact h6 o ho hp
  ·omega
theorem zq.ext {P:Program} {F:Fr} {st:St} {a:Act} {w w':World} {pr pr':Nat->Nat->Prop} {lam:Nat->Option Nat}
  (h:zq P F st a w pr lam) (k:Ext w pr w' pr'):zq P F st a w' pr' lam:=by
 have hle:Env.Le ⟨w,pr,lam⟩ ⟨w',pr',lam⟩:=k.le h.prlt
 refine ⟨h.size,h.defers,fun s=>(h.env s).mono hle,fun s t e ht=>(h.own s t e ht).ext k,h.coh,?_,h.inj,h.apart,h.nolam,?_,?_,fun b o hp=>k.sub b o (h.prsub b o hp),?_,h.lamsub,h.coh2,
  fun s t e ht hc=>(h.old s t e ht hc).old (fun _ _ h=>h) (fun b o hp=>hle.cell b o (h.prsub b o hp)),h.ptr⟩
 ·intro i B hB
  obtain ⟨b,h1,h2,h5,h6⟩:=h.box i B hB
  have hlt:b < w.heap.size:=h2.lt
  refine ⟨b,h1,h2.mono hle (k.below.block b hlt),fun o hp=>?_,h6⟩
  rcases k.new b o hp with hp | ⟨hp,_⟩
  ·exact h5 o hp
  ·omega
 ·intro b o hp
  rcases k.new b o hp with hp | ⟨_,hp⟩
  ·exact Nat.lt_of_lt_of_le (h.prlt b o hp) k.below.size
  ·exact hp
 ·refine ⟨k.below.os.trans h.keep.os,k.below.tape.trans h.keep.tape,k.below.output.trans h.keep.output,h.keep.drawn.trans k.drawn,Nat.le_trans h.keep.size k.below.size,fun b hb hn hh=>?_⟩
  rw [k.below.block b (Nat.lt_of_lt_of_le hb h.keep.size)]
  exact h.keep.block b hb hn hh
 ·intro b o hp
  rcases k.new b o hp with hp | ⟨hp,_⟩
  ·exact h.prnew b o hp
  ·exact .inr (.inl (Nat.le_trans h.keep.size hp))
structure zfk (P:Program) (F:Fr) (st:St) (a:Act) (w:World) (pr:Nat->Nat->Prop) (lam:Nat->Option Nat) (v:V) (x:Value) (t:Nat) (e:TypeId):Prop where
 own:Own P F.mine ⟨w,pr,lam⟩ (tcl t) e x
 coh:∀ s t' e' g,st.tok s = some (t',e')->zp (tcl t') (a.tmps.getD s undef) = some g->zp (tcl t) x = some g->t = t'
 apart:∀ i B b,st.box i = some B->lam i = some b->zp (tcl t) x ≠ some b
 coh2:∀ s e',st.tok s = some (t,e')->tcl t = 0->a.tmps.getD s undef = x
 old:tcl t = 2->R ⟨w,F.pr0,lam⟩ v x
 ptr1:∀ s e' b o g,st.tok s = some (t + 3000000,e')->a.tmps.getD s undef = .pointer (some ⟨b,o,none⟩)->zp (tcl t) x = some g->b = g
 ptr2:∀ s u e' b o g,t = u + 3000000->st.tok s = some (u,e')->x = .pointer (some ⟨b,o,none⟩)->zp (tcl u) (a.tmps.getD s undef) = some g->b = g
def zfQ (P:Program) (F:Fr) (st:St) (a:Act) (w:World) (pr:Nat->Nat->Prop) (lam:Nat->Option Nat) (v:V) (x:Value):Option (Nat × TypeId)->Prop
 | none=>True
 | some (t,e)=>zfk P F st a w pr lam v x t e
def St.put (st:St) (dst:Option Nat) (v:V) (tk:Option (Nat × TypeId)):St :=
 match dst with
 | some d=>{ st with sl:=upd st.sl d (v,tk) }
 | none=>st
def clr (t:Nat) (x:V × Option (Nat × TypeId)):V × Option (Nat × TypeId) :=
 (x.1,match x.2 with | some (t',e)=>if t' = t ∨ t' = t + 3000000 then none else some (t',e) | none=>none)
def St.clear (st:St) (t:Nat):St:={ st with sl:=fun s=>clr t (st.sl s) }
theorem z6 {st:St} {t s t':Nat} {e:TypeId} (h:(st.clear t).tok s = some (t',e)):st.tok s = some (t',e)/\t' ≠ t/\t' ≠ t + 3000000:=by
 change (match st.tok s with | some (t',e)=>if t' = t ∨ t' = t + 3000000 then none else some (t',e) | none=>none) = some (t',e) at h
 cases hs:st.tok s with
 | none=>rw [hs] at h; cases h
 | some te =>
  rw [hs] at h
  obtain ⟨a,b⟩:=te
  simp only at h
  split at h
  ·cases h
  ·rename_i hne; cases h
   exact ⟨rfl,fun h=>hne (.inl h),fun h=>hne (.inr h)⟩
theorem zq.clear {P:Program} {F:Fr} {st:St} {a:Act} {w:World} {pr:Nat->Nat->Prop} {lam:Nat->Option Nat} (h:zq P F st a w pr lam) (t:Nat):zq P F (st.clear t) a w pr lam :=
 ⟨h.size,h.defers,h.env,fun s t' e hs=>h.own s t' e (z6 hs).1,fun s s' t t' e e' g hs hs'=>h.coh s s' t t' e e' g (z6 hs).1 (z6 hs').1,
  h.box,h.inj,fun i B b s t' e hB hl hs=>h.apart i B b s t' e hB hl (z6 hs).1,h.nolam,h.prlt,h.keep,h.prsub,h.prnew,h.lamsub,
  fun s s' t e e' hs hs'=>h.coh2 s s' t e e' (z6 hs).1 (z6 hs').1,fun s t e hs=>h.old s t e (z6 hs).1,
  fun s s' t e e' b o g hs hs'=>h.ptr s s' t e e' b o g (z6 hs).1 (z6 hs').1⟩
def St.fresh (st:St) (tk:Option (Nat × TypeId)):St:=match tk with | some (t,_)=>st.clear t | none=>st
theorem zq.fresh {P:Program} {F:Fr} {st:St} {a:Act} {w:World} {pr:Nat->Nat->Prop} {lam:Nat->Option Nat} (h:zq P F st a w pr lam) (tk:Option (Nat × TypeId)):zq P F (st.fresh tk) a w pr lam:=by
 cases tk with
 | none=>exact h
 | some te=>exact h.clear te.1
theorem St.env_put (st:St) (d s:Nat) (v:V) (tk:Option (Nat × TypeId)):(st.put (some d) v tk).env s = upd st.env d v s:=by
 simp only [St.put,St.env,upd]; split <;> rfl
theorem St.tok_put (st:St) (d s:Nat) (v:V) (tk:Option (Nat × TypeId)):(st.put (some d) v tk).tok s = upd st.tok d tk s:=by
 simp only [St.put,St.tok,upd]; split <;> rfl
theorem Act.getD_put (a:Act) (d s:Nat) (x:Value) (hd:d < a.tmps.size):(a.put (some d) x).tmps.getD s undef = if s = d then x else a.tmps.getD s undef:=by
 show (a.tmps.setIfInBounds d x).getD s undef = _
 simp only [Array.getD_eq_getD_getElem?]
 by_cases h:s = d
 ·subst h; simp [hd]
 ·rw [Array.getElem?_setIfInBounds_ne (Ne.symm h)]; simp [h]
theorem zq.put {P:Program} {F:Fr} {st:St} {a:Act} {w:World} {pr:Nat->Nat->Prop} {lam:Nat->Option Nat}
  (h:zq P F st a w pr lam) {dst:Option Nat} {v:V} {x:Value} {tk:Option (Nat × TypeId)} (hd:∀ d,dst = some d->d < F.nt)
  (hr:R ⟨w,pr,lam⟩ v x) (ht:zfQ P F st a w pr lam v x tk):zq P F (st.put dst v tk) (a.put dst x) w pr lam:=by
 cases dst with
 | none=>exact h
 | some d =>
  have hd':d < a.tmps.size:=by rw [h.size]; exact hd d rfl
  have hg:=fun s=>Act.getD_put a d s x hd'
  refine ⟨?_,h.defers,?_,?_,?_,h.box,h.inj,?_,h.nolam,h.prlt,h.keep,h.prsub,h.prnew,h.lamsub,?_,?_,?_⟩
  ·show (a.tmps.setIfInBounds d x).size = F.nt
   rw [Array.size_setIfInBounds]; exact h.size
  ·intro s
   rw [hg]
   rw [St.env_put]
   unfold upd
   split
   ·exact hr
   ·exact h.env s
  ·intro s t e hs
   rw [hg]
   rw [St.tok_put] at hs
   unfold upd at hs
   split at hs
   ·rename_i hsd; subst hsd; subst hs; simp only [if_true]; exact ht.own
   ·rename_i hsd; rw [if_neg hsd]; exact h.own s t e hs
  ·intro s s' t t' e e' g hs hs' hgs hgs'
   rw [hg] at hgs hgs'
   rw [St.tok_put] at hs
   rw [St.tok_put] at hs'
   unfold upd at hs hs'
   split at hs <;> split at hs'
   ·subst hs; simp only [zuf,Prod.mk.injEq] at hs'; exact hs'.1
   ·rename_i q1 q2; rw [if_pos q1] at hgs; rw [if_neg q2] at hgs'; subst hs; exact ht.coh s' t' e' g hs' hgs' hgs
   ·rename_i q1 q2; rw [if_neg q1] at hgs; rw [if_pos q2] at hgs'; subst hs'; exact (ht.coh s t e g hs hgs hgs').symm
   ·rename_i q1 q2; rw [if_neg q1] at hgs; rw [if_neg q2] at hgs'; exact h.coh s s' t t' e e' g hs hs' hgs hgs'
  ·intro i B b s t e hB hl hs
   rw [hg]
   rw [St.tok_put] at hs
   unfold upd at hs
   split at hs
   ·rename_i q; rw [if_pos q]; subst hs; exact ht.apart i B b hB hl
   ·rename_i q; rw [if_neg q]; exact h.apart i B b s t e hB hl hs
  ·intro s s' t e e' hs hs' hc
   rw [hg,hg]
   rw [St.tok_put] at hs hs'
   unfold upd at hs hs'
   split at hs <;> split at hs'
   ·rename_i q1 q2
    rw [if_pos q1,if_pos q2]
   ·rename_i q1 q2
    rw [if_pos q1,if_neg q2]
    subst hs
    exact (ht.coh2 s' e' hs' hc).symm
   ·rename_i q1 q2
    rw [if_neg q1,if_pos q2]
    subst hs'
    exact ht.coh2 s e hs hc
   ·rename_i q1 q2
    rw [if_neg q1,if_neg q2]
    exact h.coh2 s s' t e e' hs hs' hc
  ·intro s t e hs hc
   rw [hg]
   rw [St.tok_put] at hs
   rw [St.env_put]
   unfold upd at hs ⊢
   split at hs
   ·rename_i q; rw [if_pos q,if_pos q]; subst hs; exact ht.old hc
   ·rename_i q; rw [if_neg q,if_neg q]; exact h.old s t e hs hc
  ·intro s s' t e e' b o g hs hs' hx hgb
   rw [hg] at hx hgb
   rw [St.tok_put] at hs hs'
   unfold upd at hs hs'
   split at hs <;> split at hs'
   ·rename_i q1 q2
    subst hs
    simp only [zuf,Prod.mk.injEq] at hs'
    omega
   ·rename_i q1 q2
    rw [if_pos q1] at hx
    rw [if_neg q2] at hgb
    subst hs
    exact ht.ptr2 s' t e' b o g rfl hs' hx hgb
   ·rename_i q1 q2
    rw [if_neg q1] at hx
    rw [if_pos q2] at hgb
    subst hs'
    exact ht.ptr1 s e b o g hs hx hgb
   ·rename_i q1 q2
    rw [if_neg q1] at hx
    rw [if_neg q2] at hgb
    exact h.ptr s s' t e e' b o g hs hs' hx hgb
end Go.Eng
namespace Go.Eng
open Go.RowKit
def zq0 (E:Env) (bx:Nat->Option Box):Prop :=
 ∀ i B,bx i = some B->∃ b,E.lam i = some b/\Yg E b B
theorem zq.brel {P:Program} {F:Fr} {st:St} {a:Act} {w:World} {pr:Nat->Nat->Prop} {lam:Nat->Option Nat} (h:zq P F st a w pr lam):zq0 ⟨w,pr,lam⟩ st.box:=by
 intro i B hB
 obtain ⟨b,h1,h2,_⟩:=h.box i B hB
 exact ⟨b,h1,h2⟩
def QV (P:Program) (o:Oper) (ρ:Operand->V) (bx:Nat->Option Box) (v:V) (fr:Option (Nat × TypeId)):Prop :=
 ∀ (a:Act) (w:World) (pr:Nat->Nat->Prop) (lam:Nat->Option Nat),HL w pr ->
  (∀ x ∈ o.op.operands,R ⟨w,pr,lam⟩ (ρ x) (a.eval x))->zq0 ⟨w,pr,lam⟩ bx ->
  ∀ (next:Act->World->Prop) (Q:Exit->Act->World->Prop),
   (∀ x w' pr',Ext w pr w' pr'->R ⟨w',pr',lam⟩ v x->(∀ c e,fr = some (c,e)->c < 2/\Own P (fun g=>w.heap.size <= g) ⟨w',pr',lam⟩ c e x)->next (a.put o.dst x) w')->o.wp P a w next Q
theorem QV.of_run {P:Program} {o:Oper} {ρ:Operand->V} {bx:Nat->Option Box} {v:V} {fr:Option (Nat × TypeId)}
  (h:∀ (a:Act) (w:World) (pr:Nat->Nat->Prop) (lam:Nat->Option Nat),HL w pr ->
   (∀ x ∈ o.op.operands,R ⟨w,pr,lam⟩ (ρ x) (a.eval x))->zq0 ⟨w,pr,lam⟩ bx ->
   ∃ x w' pr',(execOp a.eval o).run P w = .ok (.value x) w'/\Ext w pr w' pr'/\R ⟨w',pr',lam⟩ v x/\(∀ c e,fr = some (c,e)->c < 2/\Own P (fun g=>w.heap.size <= g) ⟨w',pr',lam⟩ c e x)) :
  QV P o ρ bx v fr:=by
 intro a w pr lam h1 h2 h3 next Q hn
 obtain ⟨x,w',pr',hr,he,hx,ho⟩:=h a w pr lam h1 h2 h3
 unfold Oper.wp
 rw [hr,Oper.upon_value]
 exact hn x w' pr' he hx ho
theorem QV.pure {P:Program} {o:Oper} {ρ:Operand->V} {bx:Nat->Option Box} {v:V}
  (h:∀ (a:Act) (w:World) (pr:Nat->Nat->Prop) (lam:Nat->Option Nat),
   (∀ x ∈ o.op.operands,R ⟨w,pr,lam⟩ (ρ x) (a.eval x))->zq0 ⟨w,pr,lam⟩ bx ->
   ∃ x,(execOp a.eval o).run P w = .ok (.value x) w/\R ⟨w,pr,lam⟩ v x) :
  QV P o ρ bx v none :=
 QV.of_run fun a w pr lam _ h2 h3=>by
  obtain ⟨x,hr,hx⟩:=h a w pr lam h2 h3
  exact ⟨x,w,pr,hr,Ext.refl w pr,hx,fun c e he=>by cases he⟩
section
variable {P:Program} {o:Oper} {ρ:Operand->V} {bx:Nat->Option Box}
theorem zq1 {c x y:Operand} {t:Bool} (ho:o.op = .pick c x y) (hc:ρ c = .bool t):QV P o ρ bx (if t then ρ x else ρ y) none :=
 QV.pure fun a w pr lam h _=>by
  have h1:=h c (by simp [ho,Op.operands])
  have h2:=h x (by simp [ho,Op.operands])
  have h3:=h y (by simp [ho,Op.operands])
  rw [hc] at h1
  simp only [R] at h1
  refine ⟨if t then a.eval x else a.eval y,by simp [execOp,ho,h1,asBool],?_⟩
  cases t
  ·simpa using h3
  ·simpa using h2
theorem RL.length {E:Env}:∀ {cs:List V} {xs:List Value},RL E cs xs->cs.length = xs.length
 | [],xs,h=>by simp only [RL] at h; simp [h]
 | c :: cs,xs,h=>by
  simp only [RL] at h
  obtain ⟨y,ys,rfl,_,h⟩:=h
  simp [RL.length h]
theorem RL.get {E:Env}:∀ {cs:List V} {xs:List Value},RL E cs xs->∀ (i:Nat) (c:V),cs[i]? = some c->∃ x,xs[i]? = some x/\R E c x
 | [],xs,_,i,c,hc=>by simp at hc
 | c :: cs,xs,h,i,d,hd=>by
  simp only [RL] at h
  obtain ⟨y,ys,rfl,h1,h⟩:=h
  cases i with
  | zero=>simp at hd; subst hd; exact ⟨y,by simp,h1⟩
  | succ i=>simp at hd; simpa using RL.get h i d hd
theorem RL.of_get {E:Env}:∀ {cs:List V} {xs:List Value},cs.length = xs.length->(∀ (i:Nat) (c:V) (x:Value),cs[i]? = some c->xs[i]? = some x->R E c x)->RL E cs xs
 | [],xs,hl,_=>by simp only [RL]; exact zui (by simpa using hl.symm)
 | c :: cs,[],hl,_=>by simp at hl
 | c :: cs,x :: xs,hl,h=>by
  simp only [RL]
  exact ⟨x,xs,rfl,h 0 c x (by simp) (by simp),RL.of_get (by simpa using hl) fun i d y hd hy=>h (i + 1) d y (by simpa using hd) (by simpa using hy)⟩
theorem RL.drop {E:Env} {cs:List V} {xs:List Value} (h:RL E cs xs) (n:Nat):RL E (cs.drop n) (xs.drop n):=by
 refine RL.of_get (by simp [h.length]) fun i c x hc hx=>?_
 rw [List.getElem?_drop] at hc hx
 obtain ⟨x',hx',hr⟩:=h.get _ _ hc
 rw [hx] at hx'
 cases hx'
 exact hr
theorem RL.take {E:Env} {cs:List V} {xs:List Value} (h:RL E cs xs) (n:Nat):RL E (cs.take n) (xs.take n):=by
 refine RL.of_get (by simp [h.length]) fun i c x hc hx=>?_
 rw [List.getElem?_take] at hc hx
 split at hc
 ·rename_i hi
  rw [if_pos hi] at hx
  obtain ⟨x',hx',hr⟩:=h.get _ _ hc
  rw [hx] at hx'
  cases hx'
  exact hr
 ·cases hc
theorem RL.append {E:Env} {cs ds:List V} {xs ys:List Value} (h:RL E cs xs) (k:RL E ds ys):RL E (cs++ds) (xs++ys):=by
 refine RL.of_get (by simp [h.length,k.length]) fun i c x hc hx=>?_
 rw [List.getElem?_append] at hc hx
 rw [h.length] at hc
 split at hc
 ·rename_i hi
  rw [if_pos hi] at hx
  obtain ⟨x',hx',hr⟩:=h.get _ _ hc
  rw [hx] at hx'; cases hx'; exact hr
 ·rename_i hi
  rw [if_neg hi] at hx
  obtain ⟨x',hx',hr⟩:=k.get _ _ hc
  rw [hx] at hx'; cases hx'; exact hr
theorem RC.get {E:Env} {b:Nat}:∀ {cs:List V} {o:Nat},RC E b o cs->∀ (i:Nat) (c:V),cs[i]? = some c->∃ x,E.at b (o + i) x/\x.oneCell' = true/\R E c x
 | [],_,_,i,c,hc=>by simp at hc
 | c :: cs,o,h,i,d,hd=>by
  simp only [RC] at h
  obtain ⟨⟨y,h1,h3,h2⟩,h⟩:=h
  cases i with
  | zero=>simp at hd; subst hd; exact ⟨y,h1,h3,h2⟩
  | succ i =>
   simp at hd
   obtain ⟨x,q1,q2,q3⟩:=RC.get h i d hd
   exact ⟨x,by rwa [show o + (i + 1) = o + 1 + i from by omega],q2,q3⟩
theorem RC.vals {E:Env} {b:Nat}:∀ {cs:List V} {o:Nat},RC E b o cs->∃ xs:List Value,RL E cs xs/\(∀ j x,xs[j]? = some x->E.at b (o + j) x/\x.oneCell' = true)
 | [],_,_=>⟨[],by simp [RL],by simp⟩
 | c :: cs,o,h=>by
  simp only [RC] at h
  obtain ⟨⟨y,h1,h3,h2⟩,h⟩:=h
  obtain ⟨xs,q1,q2⟩:=RC.vals h
  refine ⟨y :: xs,by simp only [RL]; exact ⟨y,xs,rfl,h2,q1⟩,fun j x hx=>?_⟩
  cases j with
  | zero=>simp at hx; subst hx; exact ⟨h1,h3⟩
  | succ j =>
   simp at hx
   have:=q2 j x hx
   rwa [show o + (j + 1) = o + 1 + j from by omega]
theorem RC.of_vals {E:Env} {b:Nat}:∀ {cs:List V} {xs:List Value} {o:Nat},RL E cs xs->(∀ j x,xs[j]? = some x->E.at b (o + j) x/\x.oneCell' = true)->RC E b o cs
 | [],_,_,_,_=>by simp [RC]
 | c :: cs,xs,o,h,k=>by
  simp only [RL] at h
  obtain ⟨y,ys,rfl,h1,h⟩:=h
  have k0:=k 0 y (by simp)
  simp only [RC]
  refine ⟨⟨y,by simpa using k0.1,k0.2,h1⟩,RC.of_vals h fun j x hx=>?_⟩
  have:=k (j + 1) x (by simpa using hx)
  rwa [show o + 1 + j = o + (j + 1) from by omega]
theorem Addr.add_none (b off n:Nat):(⟨b,off,none⟩:Addr).add n = ⟨b,off + n,none⟩:=by
 unfold Addr.add; split <;> simp_all
def Zb (P:Program) (t:TypeId):Option Bool:=match P.underlying t with
 | some (.struct _) | some (.array _ _)=>some true
 | some _=>some false
 | none=>none
def zj (P:Program) (t:TypeId):Option Nat:=(P.info? t).map (·.size)
theorem zb0 {t:TypeId} {b:Bool} (h:Zb P t = some b) (w:World):(isAgg t).run P w = .ok b w:=by
 unfold Zb at h
 unfold isAgg
 cases hu:P.underlying t with
 | none=>rw [hu] at h; simp at h
 | some d =>
  rw [hu] at h
  rw [Sem.run_bind,run_underlying hu w]
  cases d <;> simp_all
theorem run_sizeOf {t:TypeId} {n:Nat} (h:zj P t = some n) (w:World):(sizeOf t).run P w = .ok n w:=by
 unfold zj at h
 cases hi:P.info? t with
 | none=>simp [hi] at h
 | some i=>simp [hi] at h; simp [sizeOf,typeInfo,hi,h]
theorem Yj {t:TypeId} {b off:Nat} {w:World} {xs:List Value} (ha:Zb P t = some true) (hs:zj P t = some xs.length)
  (hc:∀ j x,xs[j]? = some x->w.cell? ⟨b,off + j,none⟩ = some x):(loadVar t ⟨b,off,none⟩).run P w = .ok (.agg xs.toArray) w:=by
 have hl:(loadCells ⟨b,off,none⟩ xs.length).run P w = .ok xs.toArray w :=
  run_loadCells_list (P:=P) w ⟨b,off,none⟩ xs (fun j v hv=>by rw [Addr.add_none]; exact hc j v hv)
 simp [loadVar,Sem.run_bind,zb0 ha,run_sizeOf hs,hl]
theorem Yk {t:TypeId} {b off:Nat} {w:World} {x:Value} (ha:Zb P t = some false)
  (hc:w.cell? ⟨b,off,none⟩ = some x):(loadVar t ⟨b,off,none⟩).run P w = .ok x w:=by
 simp [loadVar,Sem.run_bind,zb0 ha,run_load,hc]
theorem ze0 {t:TypeId} {x:Operand} {cs:List V} {off n:Nat} (ho:o.op = .load t x) (hx:ρ x = .elt cs off) (ha:Zb P t = some true) (hs:zj P t = some n)
  (hn:off + n <= cs.length):QV P o ρ bx (.agg ((cs.drop off).take n)) none :=
 QV.pure fun a w pr lam h _=>by
  have h1:=h x (by simp [ho,Op.operands])
  rw [hx] at h1
  simp only [R] at h1
  obtain ⟨b,o',e,hc⟩:=h1
  obtain ⟨xs,q1,q2⟩:=hc.vals
  have hlen:((xs.drop off).take n).length = n:=by
   have:=q1.length
   simp; omega
  have hrun:(loadVar t ⟨b,o' + off,none⟩).run P w = .ok (.agg ((xs.drop off).take n).toArray) w :=
   Yj ha (by rw [hlen]; exact hs) (fun j y hy=>by
    rw [List.getElem?_take] at hy
    split at hy
    ·rw [List.getElem?_drop] at hy
     have:=(q2 _ _ hy).1.1
     rwa [show o' + off + j = o' + (off + j) from by omega]
    ·cases hy)
  refine ⟨.agg ((xs.drop off).take n).toArray,by simp [execOp,ho,Instr.loadAt,Instr.sureAddr,e,hrun],?_⟩
  simp only [R]
  refine ⟨_,rfl,(q1.drop off).take n,fun y hy=>?_⟩
  obtain ⟨j,hj⟩:=List.mem_iff_getElem?.1 (List.mem_of_mem_drop (List.mem_of_mem_take hy))
  exact (q2 j y hj).2
theorem ze1 {t:TypeId} {x:Operand} {cs:List V} {off:Nat} {c:V} (ho:o.op = .load t x) (hx:ρ x = .elt cs off) (ha:Zb P t = some false)
  (hc:cs[off]? = some c):QV P o ρ bx c none :=
 QV.pure fun a w pr lam h _=>by
  have h1:=h x (by simp [ho,Op.operands])
  rw [hx] at h1
  simp only [R] at h1
  obtain ⟨b,o',e,hr⟩:=h1
  obtain ⟨y,q1,_,q2⟩:=hr.get off c hc
  exact ⟨y,by simp [execOp,ho,Instr.loadAt,Instr.sureAddr,e,Yk ha q1.1],q2⟩
theorem ze2 {t:TypeId} {x:Operand} {i off n:Nat} {B:Box} (ho:o.op = .load t x) (hx:ρ x = .loc i off) (hb:bx i = some B) (ha:Zb P t = some true) (hs:zj P t = some n)
  (hn:off + n <= B.cells.length) (hpl:B.ty < ZL):QV P o ρ bx (.agg ((B.cells.drop off).take n)) none :=
 QV.pure fun a w pr lam h hB=>by
  have h1:=h x (by simp [ho,Op.operands])
  rw [hx] at h1
  simp only [R] at h1
  obtain ⟨b,hl,e⟩:=h1
  obtain ⟨b',hl',hat⟩:=hB i B hb
  obtain ⟨cur,hg,q1,q2⟩:=hat.cells hpl
  obtain rfl:b = b':=by simpa [hl] using hl'
  change w.heap[b]? = _ at hg
  have hlen:((cur.toList.drop off).take n).length = n:=by
   have:=q1.length
   simp at this ⊢; omega
  have hrun:(loadVar t ⟨b,off,none⟩).run P w = .ok (.agg ((cur.toList.drop off).take n).toArray) w :=
   Yj ha (by rw [hlen]; exact hs) (fun j y hy=>by
    rw [List.getElem?_take] at hy
    split at hy
    ·rw [List.getElem?_drop] at hy
     simpa [World.cell?,hg] using hy
    ·cases hy)
  refine ⟨.agg ((cur.toList.drop off).take n).toArray,by simp only [execOp,ho,e]; simp [Instr.loadAt,Instr.sureAddr,hrun],?_⟩
  simp only [R]
  exact ⟨_,rfl,(q1.drop off).take n,fun y hy=>q2 y (List.mem_of_mem_drop (List.mem_of_mem_take hy))⟩
theorem ze3 {t:TypeId} {x:Operand} {i off:Nat} {B:Box} {c:V} (ho:o.op = .load t x) (hx:ρ x = .loc i off) (hb:bx i = some B) (ha:Zb P t = some false)
  (hc:B.cells[off]? = some c) (hpl:B.ty < ZL):QV P o ρ bx c none :=
 QV.pure fun a w pr lam h hB=>by
  have h1:=h x (by simp [ho,Op.operands])
  rw [hx] at h1
  simp only [R] at h1
  obtain ⟨b,hl,e⟩:=h1
  obtain ⟨b',hl',hat⟩:=hB i B hb
  obtain ⟨cur,hg,q1,q2⟩:=hat.cells hpl
  obtain rfl:b = b':=by simpa [hl] using hl'
  change w.heap[b]? = _ at hg
  obtain ⟨y,hy,hr⟩:=q1.get off c hc
  have hcell:w.cell? ⟨b,off,none⟩ = some y:=by simpa [World.cell?,hg] using hy
  exact ⟨y,by simp [execOp,ho,Instr.loadAt,Instr.sureAddr,e,Yk ha hcell],hr⟩
end
end Go.Eng
namespace Go.Eng
open Go.RowKit
def zcj (op:BinOp) (k:IntKind) (a b:Int):Int :=
 let x:=BitVec.ofInt k.bits a
 let y:=BitVec.ofInt k.bits b
 match op with
 | .and=>k.wrap ((x &&& y).toNat:Int)
 | .or=>k.wrap ((x ||| y).toNat:Int)
 | .xor=>k.wrap ((x ^^^ y).toNat:Int)
 | _=>k.wrap ((x &&& ~~~y).toNat:Int)
def zjY (op:BinOp) (k:IntKind) (a b:Int):Option V :=
 match op with
 | .add=>some (.int k (k.wrap (a + b)))
 | .sub=>some (.int k (k.wrap (a - b)))
 | .mul=>some (.int k (k.wrap (a * b)))
 | .quo=>if b = 0 then none else some (.int k (k.wrap (a.tdiv b)))
 | .rem=>if b = 0 then none else some (.int k (a.tmod b))
 | .eql=>some (.bool (a == b))
 | .neq=>some (.bool (a != b))
 | .lss=>some (.bool (decide (a < b)))
 | .leq=>some (.bool (decide (a <= b)))
 | .gtr=>some (.bool (decide (a > b)))
 | .geq=>some (.bool (decide (a ≥ b)))
 | .and=>some (.int k (zcj .and k a b))
 | .or=>some (.int k (zcj .or k a b))
 | .xor=>some (.int k (zcj .xor k a b))
 | .andNot=>some (.int k (zcj .andNot k a b))
 | _=>none
def zq2 (op:BinOp) (s t:List UInt8):Option V :=
 match op with
 | .add=>if s.length + t.length <= maxLen then some (.str (s++t)) else none
 | .eql=>some (.bool (s == t))
 | .neq=>some (.bool (!(s == t)))
 | .lss=>some (.bool (Op.bytesLess s t))
 | .leq=>some (.bool (Op.bytesLess s t || s == t))
 | .gtr=>some (.bool (!(Op.bytesLess s t || s == t)))
 | .geq=>some (.bool (!Op.bytesLess s t))
 | _=>none
def V.csize:V->Option Nat
 | .agg cs=>some cs.length
 | .any | .un | .tup _=>none
 | _=>some 1
def V.cellsL:V->List V
 | .agg cs=>cs
 | v=>[v]
def yO (n:Nat) (rows:List V):Prop:=∀ r ∈ rows,r.csize = some n
section
variable {P:Program} {o:Oper} {ρ:Operand->V} {bx:Nat->Option Box}
theorem R.csize {E:Env} {v:V} {x:Value} {n:Nat} (h:R E v x) (hn:v.csize = some n):x.cells.size = n:=by
 cases v <;> simp only [V.csize,zuf,reduceCtorEq] at hn <;> simp only [R] at h
 case agg cs=>obtain ⟨xs,rfl,h,_⟩:=h; subst hn; simp [Value.cells,h.length]
 all_goals subst hn
 case int=>subst h; rfl
 case bool=>subst h; rfl
 case str=>obtain ⟨rfl,_⟩:=h; rfl
 case loc=>obtain ⟨b,_,rfl⟩:=h; rfl
 case elt=>obtain ⟨b,o,rfl,_⟩:=h; rfl
 case nilp=>subst h; rfl
 case list=>obtain ⟨b,c,rfl,_⟩:=h; rfl
 case fn=>obtain ⟨b,c,rfl,_⟩:=h; rfl
 case nilfn=>subst h; rfl
 case iface=>obtain ⟨y,rfl,_⟩:=h; rfl
 case nilif=>subst h; rfl
 case mref=>obtain ⟨b,_,rfl⟩:=h; rfl
 case nilm=>subst h; rfl
 case ptr=>obtain ⟨b,rfl⟩:=h; rfl
theorem R.oneCell {E:Env} {v:V} {x:Value} (h:R E v x) (hn:(match v with | .agg _=>false | _=>true) = true) (hc:v.csize = some 1):x.oneCell' = true:=by
 cases v <;> simp only [V.csize,reduceCtorEq] at hc <;> simp only [reduceCtorEq,Bool.false_eq_true] at hn <;> simp only [R] at h
 case int=>subst h; rfl
 case bool=>subst h; rfl
 case str=>obtain ⟨rfl,_⟩:=h; rfl
 case loc=>obtain ⟨b,_,rfl⟩:=h; rfl
 case elt=>obtain ⟨b,o,rfl,_⟩:=h; rfl
 case nilp=>subst h; rfl
 case list=>obtain ⟨b,c,rfl,_⟩:=h; rfl
 case fn=>obtain ⟨b,c,rfl,_⟩:=h; rfl
 case nilfn=>subst h; rfl
 case iface=>obtain ⟨y,rfl,_⟩:=h; rfl
 case nilif=>subst h; rfl
 case mref=>obtain ⟨b,_,rfl⟩:=h; rfl
 case nilm=>subst h; rfl
 case ptr=>obtain ⟨b,rfl⟩:=h; rfl
theorem R.cells {E:Env} {v:V} {x:Value} {n:Nat} (h:R E v x) (hn:v.csize = some n):RL E v.cellsL x.cells.toList/\∀ y ∈ x.cells.toList,y.oneCell' = true:=by
 cases v
 case agg cs =>
  simp only [R] at h
  obtain ⟨xs,rfl,h,h1⟩:=h
  exact ⟨by simpa [V.cellsL,Value.cells] using h,by simpa [Value.cells] using h1⟩
 case any=>simp [V.csize] at hn
 case un=>simp [V.csize] at hn
 case tup=>simp [V.csize] at hn
 all_goals
  have hc:x.cells = #[x]:=by
   have:=h
   simp only [R] at this
   first
    | (subst this; rfl)
    | (obtain ⟨rfl,_⟩:=this; rfl)
    | (obtain ⟨_,_,rfl⟩:=this; rfl)
    | (obtain ⟨_,_,rfl,_⟩:=this; rfl)
    | (obtain ⟨_,rfl,_⟩:=this; rfl)
  have h1:=R.oneCell h rfl rfl
  rw [hc]
  exact ⟨by simp only [V.cellsL,RL]; exact ⟨x,[],rfl,h,rfl⟩,by simpa using h1⟩
theorem zmP (P:Program) (w:World) (k:IntKind) (a b:Int):(Op.intBits .and k a b).run P w = .ok (.int k (zcj .and k a b)) w:=rfl
theorem zo8 (P:Program) (w:World) (k:IntKind) (a b:Int):(Op.intBits .or k a b).run P w = .ok (.int k (zcj .or k a b)) w:=rfl
theorem zmQ (P:Program) (w:World) (k:IntKind) (a b:Int):(Op.intBits .xor k a b).run P w = .ok (.int k (zcj .xor k a b)) w:=rfl
theorem zfR (P:Program) (w:World) (k:IntKind) (a b:Int):(Op.intBits .andNot k a b).run P w = .ok (.int k (zcj .andNot k a b)) w:=rfl
def shI (op:BinOp) (k:IntKind) (a b:Int):Option V :=
 if b < 0 then none else match op with
 | .shl=>some (.int k (k.wrap (a * 2 ^ (min b.toNat k.bits))))
 | .shr=>some (.int k (a.fdiv (2 ^ (min b.toNat k.bits))))
 | _=>none
theorem zhC {op:BinOp} {xT yT:TypeId} {x y:Operand} {k k':IntKind} {a b:Int} {v:V} (ho:o.op = .binOp op xT x y yT) (hx:ρ x = .int k a) (hy:ρ y = .int k' b)
  (hv:shI op k a b = some v):QV P o ρ bx v none :=
 QV.pure fun ac w pr lam h _=>by
  have h1:=h x (by simp [ho,Op.operands])
  have h2:=h y (by simp [ho,Op.operands])
  rw [hx] at h1; rw [hy] at h2
  simp only [R] at h1 h2
  unfold shI at hv
  split at hv
  ·cases hv
  ·rename_i hb
   cases op <;> simp only [zuf,reduceCtorEq] at hv
   all_goals subst hv
   all_goals exact ⟨_,by simp [execOp,ho,h1,h2,eqGuard,binOp,Op.shift,hb]; rfl,by simp [R]⟩
theorem zly {op:BinOp} {xT yT:TypeId} {x y:Operand} {k:IntKind} {a b:Int} {v:V} (ho:o.op = .binOp op xT x y yT) (hx:ρ x = .int k a) (hy:ρ y = .int k b)
  (hv:zjY op k a b = some v):QV P o ρ bx v none :=
 QV.pure fun ac w pr lam h _=>by
  have h1:=h x (by simp [ho,Op.operands])
  have h2:=h y (by simp [ho,Op.operands])
  rw [hx] at h1; rw [hy] at h2
  simp only [R] at h1 h2
  cases op <;> simp only [zjY,zuf,reduceCtorEq] at hv
  case quo =>
   split at hv
   ·cases hv
   ·rename_i hb
    simp only [zuf] at hv; subst hv
    exact ⟨_,by simp [execOp,ho,h1,h2,eqGuard,binOp,Op.intDiv,hb]; rfl,by simp [R]⟩
  case rem =>
   split at hv
   ·cases hv
   ·rename_i hb
    simp only [zuf] at hv; subst hv
    exact ⟨_,by simp [execOp,ho,h1,h2,eqGuard,binOp,Op.intDiv,hb]; rfl,by simp [R]⟩
  all_goals subst hv
  case and=>exact ⟨_,by simp [execOp,ho,h1,h2,eqGuard,binOp,zmP]; rfl,by simp [R]⟩
  case or=>exact ⟨_,by simp [execOp,ho,h1,h2,eqGuard,binOp,zo8]; rfl,by simp [R]⟩
  case xor=>exact ⟨_,by simp [execOp,ho,h1,h2,eqGuard,binOp,zmQ]; rfl,by simp [R]⟩
  case andNot=>exact ⟨_,by simp [execOp,ho,h1,h2,eqGuard,binOp,zfR]; rfl,by simp [R]⟩
  all_goals exact ⟨_,by simp [execOp,ho,h1,h2,eqGuard,binOp,Op.intArith,Op.intCmp]; rfl,by simp [R]⟩
theorem zit (l:List UInt8):(ByteArray.mk l.toArray).toList = l:=by rw [ByteArray.toList_eq]
theorem zlz {op:BinOp} {xT yT:TypeId} {x y:Operand} {s t:List UInt8} {v:V} (ho:o.op = .binOp op xT x y yT) (hx:ρ x = .str s) (hy:ρ y = .str t)
  (hv:zq2 op s t = some v):QV P o ρ bx v none :=
 QV.pure fun ac w pr lam h _=>by
  have h1:=h x (by simp [ho,Op.operands])
  have h2:=h y (by simp [ho,Op.operands])
  rw [hx] at h1; rw [hy] at h2
  simp only [R] at h1 h2
  obtain ⟨h1,l1⟩:=h1
  obtain ⟨h2,l2⟩:=h2
  cases op <;> simp only [zq2,zuf,reduceCtorEq] at hv
  case add =>
   split at hv
   ·rename_i hl
    simp only [zuf] at hv; subst hv
    have hs:¬ ((((ByteArray.mk s.toArray).size + (ByteArray.mk t.toArray).size:Nat):Int) > IntKind.i64.max):=by
     show ¬ (((s.toArray.size + t.toArray.size:Nat):Int) > 9223372036854775807)
     simp only [maxLen] at hl
     simp; omega
    refine ⟨.string ⟨(s++t).toArray⟩,?_,?_⟩
    ·simp only [execOp,ho,h1,h2]
     simp [eqGuard,binOp,Op.stringOp]
     rw [if_neg (by simpa using hs)]
     have:(ByteArray.mk s.toArray++ByteArray.mk t.toArray) = ByteArray.mk (s.toArray++t.toArray):=by
      apply ByteArray.ext
      simp
     simp [this]
    ·simpa [R] using hl
   ·cases hv
  all_goals subst hv
  all_goals exact ⟨_,by simp [execOp,ho,h1,h2,eqGuard,binOp,Op.stringOp,zit]; rfl,by simp [R]⟩
theorem zew {op:BinOp} {xT yT:TypeId} {x y:Operand} {s t:Bool} {v:V} (ho:o.op = .binOp op xT x y yT) (hx:ρ x = .bool s) (hy:ρ y = .bool t)
  (hT:P.underlying xT = some .bool) (hv:(match op with | .eql=>some (V.bool (s == t)) | .neq=>some (V.bool (!(s == t))) | _=>none) = some v):QV P o ρ bx v none :=
 QV.pure fun ac w pr lam h _=>by
  have h1:=h x (by simp [ho,Op.operands])
  have h2:=h y (by simp [ho,Op.operands])
  rw [hx] at h1; rw [hy] at h2
  simp only [R] at h1 h2
  have he:(Op.equal xT (.bool s) (.bool t)).run P w = .ok (s == t) w:=run_equalIn_bool' w 9999 xT s t hT
  cases op <;> simp only [zuf,reduceCtorEq] at hv
  all_goals subst hv
  all_goals exact ⟨_,by simp [execOp,ho,h1,h2,eqGuard,binOp,he]; rfl,by simp [R]⟩
theorem zsc {xT:TypeId} {x:Operand} {s:Bool} (ho:o.op = .unOp .not xT x) (hx:ρ x = .bool s):QV P o ρ bx (.bool (!s)) none :=
 QV.pure fun ac w pr lam h _=>by
  have h1:=h x (by simp [ho,Op.operands])
  rw [hx] at h1
  simp only [R] at h1
  exact ⟨_,by simp [execOp,ho,h1,Op.unary]; rfl,by simp [R]⟩
theorem zsd {xT:TypeId} {x:Operand} {k:IntKind} {n:Int} (ho:o.op = .unOp .neg xT x) (hx:ρ x = .int k n):QV P o ρ bx (.int k (k.wrap (0 - n))) none :=
 QV.pure fun ac w pr lam h _=>by
  have h1:=h x (by simp [ho,Op.operands])
  rw [hx] at h1
  simp only [R] at h1
  exact ⟨.int k (k.wrap (0 - n)),by simp [execOp,ho,h1,Op.unary,Op.intArith],by simp [R]⟩
theorem zjZ {s d:TypeId} {x:Operand} {k k':IntKind} {n:Int} {ds:TypeDesc} (ho:o.op = .convert s d x) (hx:ρ x = .int k n) (hs:P.underlying s = some ds) (hd:P.underlying d = some (.int k')) :
  QV P o ρ bx (.int k' (k'.wrap n)) none :=
 QV.pure fun ac w pr lam h _=>by
  have h1:=h x (by simp [ho,Op.operands])
  rw [hx] at h1
  simp only [R] at h1
  exact ⟨.int k' (k'.wrap n),by simp [execOp,ho,h1,convert,run_underlying hs,run_underlying hd,Conv.intToInt],by simp [R]⟩
theorem zj0 {s d:TypeId} {x:Operand} {l:List UInt8} (ho:o.op = .convert s d x) (hx:ρ x = .str l) (hs:P.underlying s = some .string) (hd:P.underlying d = some .string) :
  QV P o ρ bx (.str l) none :=
 QV.pure fun ac w pr lam h _=>by
  have h1:=h x (by simp [ho,Op.operands])
  rw [hx] at h1
  have h1':=h1
  simp only [R] at h1
  obtain ⟨h1,hl⟩:=h1
  exact ⟨_,by simp [execOp,ho,h1,convert,run_underlying hs,run_underlying hd]; rfl,by simp [R,hl]⟩
theorem ziu {t:TypeId} {x:Operand} {d:TypeDesc} (ho:o.op = .makeInterface t x) (ht:P.underlying t = some d) (hd:(match d with | .interface _=>false | _=>true) = true) :
  QV P o ρ bx (.iface t (ρ x)) none :=
 QV.pure fun ac w pr lam h _=>by
  have h1:=h x (by simp [ho,Op.operands])
  refine ⟨.iface t (ac.eval x),?_,by simp only [R]; exact ⟨_,rfl,h1⟩⟩
  simp only [execOp,ho,Instr.makeInterface,Sem.run_bind,run_underlying ht,Result.andThen_ok]
  cases d <;> first | (simp at hd; done) | simp
theorem zj1 {f:Fn} {first cap:Array Operand} (ho:o.op = .makeFunc f first cap):QV P o ρ bx (.fn f (first.toList.map ρ) (cap.toList.map ρ)) none :=
 QV.pure fun ac w pr lam h _=>by
  have key:∀ (l:List Operand),(∀ x ∈ l,x ∈ o.op.operands)->RL ⟨w,pr,lam⟩ (l.map ρ) (l.map ac.eval):=by
   intro l hl
   refine RL.of_get (by simp) fun i c x hc hx=>?_
   rw [List.getElem?_map] at hc hx
   cases hi:l[i]? with
   | none=>rw [hi] at hc; simp at hc
   | some y =>
    rw [hi] at hc hx
    simp only [Option.map_some,zuf] at hc hx
    subst hc; subst hx
    exact h y (hl y (List.mem_of_getElem? hi))
  refine ⟨.func f (first.map ac.eval) (cap.map ac.eval),by simp [execOp,ho,Instr.makeFunc],?_⟩
  simp only [R]
  refine ⟨first.toList.map ac.eval,cap.toList.map ac.eval,by rw [<- Array.toList_map,<- Array.toList_map],key _ ?_,key _ ?_⟩
  ·intro x hx; simp [ho,Op.operands]; exact .inl (by simpa using hx)
  ·intro x hx; simp [ho,Op.operands]; exact .inr (by simpa using hx)
theorem zlA {x:Operand} {i:Nat} {vs:List V} {v:V} (ho:o.op = .extract x i) (hx:ρ x = .tup vs) (hv:vs[i]? = some v):QV P o ρ bx v none :=
 QV.pure fun ac w pr lam h _=>by
  have h1:=h x (by simp [ho,Op.operands])
  rw [hx] at h1
  simp only [R] at h1
  obtain ⟨xs,e,hl⟩:=h1
  obtain ⟨y,hy,hr⟩:=hl.get i v hv
  exact ⟨y,by simp [execOp,ho,e,Instr.extract,hy],hr⟩
theorem ze4 {x:Operand} {i off:Nat} (ho:o.op = .nilCheck x) (hx:ρ x = .loc i off):QV P o ρ bx (.loc i off) none :=
 QV.pure fun ac w pr lam h _=>by
  have h1:=h x (by simp [ho,Op.operands])
  rw [hx] at h1
  have h2:=h1
  simp only [R] at h1
  obtain ⟨b,_,e⟩:=h1
  exact ⟨ac.eval x,by simp [execOp,ho,e],h2⟩
theorem ze5 {x:Operand} {cs:List V} {off:Nat} (ho:o.op = .nilCheck x) (hx:ρ x = .elt cs off):QV P o ρ bx (.elt cs off) none :=
 QV.pure fun ac w pr lam h _=>by
  have h1:=h x (by simp [ho,Op.operands])
  rw [hx] at h1
  have h2:=h1
  simp only [R] at h1
  obtain ⟨b,_,e,_⟩:=h1
  exact ⟨ac.eval x,by simp [execOp,ho,e],h2⟩
def Y1 (P:Program) (s:TypeId) (i:Nat):Option (Nat × TypeId) :=
 match P.underlying s with
 | some (.struct fs)=>(fs[i]?).map fun f=>(f.offset,f.type)
 | _=>none
theorem zbq {s:TypeId} {i off:Nat} {t:TypeId} (h:Y1 P s i = some (off,t)):∃ fs f,P.underlying s = some (.struct fs)/\fs[i]? = some f/\f.offset = off/\f.type = t:=by
 unfold Y1 at h
 split at h
 ·rename_i fs hu
  cases hf:fs[i]? with
  | none=>rw [hf] at h; simp at h
  | some f=>rw [hf] at h; simp at h; exact ⟨fs,f,hu,hf,h.1,h.2⟩
 ·cases h
theorem zbr {s:TypeId} {i off n:Nat} {t:TypeId} (hf:Y1 P s i = some (off,t)) (hs:zj P t = some n) (hn:n ≠ 0) (b a:Nat) (w:World) :
  (Instr.fieldAt s (.pointer (some ⟨b,a,none⟩)) i).run P w = .ok (.pointer (some ⟨b,a + off,none⟩)) w:=by
 obtain ⟨fs,f,h1,h2,rfl,rfl⟩:=zbq hf
 simp [Instr.fieldAt,run_underlying h1,h2,Instr.sureAddr,fieldPlace,run_sizeOf hs,hn,Addr.add_none]
theorem zdL {s:TypeId} {x:Operand} {fi i a off n:Nat} {t:TypeId} (ho:o.op = .fieldAddr s x fi) (hx:ρ x = .loc i a) (hf:Y1 P s fi = some (off,t)) (hs:zj P t = some n) (hn:n ≠ 0) :
  QV P o ρ bx (.loc i (a + off)) none :=
 QV.pure fun ac w pr lam h _=>by
  have h1:=h x (by simp [ho,Op.operands])
  rw [hx] at h1
  simp only [R] at h1
  obtain ⟨b,hl,e⟩:=h1
  exact ⟨_,by simp [execOp,ho,e,zbr hf hs hn]; rfl,by simp only [R]; exact ⟨b,hl,rfl⟩⟩
theorem zdM {s:TypeId} {x:Operand} {fi a off n:Nat} {cs:List V} {t:TypeId} (ho:o.op = .fieldAddr s x fi) (hx:ρ x = .elt cs a) (hf:Y1 P s fi = some (off,t)) (hs:zj P t = some n) (hn:n ≠ 0) :
  QV P o ρ bx (.elt cs (a + off)) none :=
 QV.pure fun ac w pr lam h _=>by
  have h1:=h x (by simp [ho,Op.operands])
  rw [hx] at h1
  simp only [R] at h1
  obtain ⟨b,o',e,hc⟩:=h1
  exact ⟨_,by simp [execOp,ho,e,zbr hf hs hn]; rfl,by simp only [R]; exact ⟨b,o',by rw [Nat.add_assoc],hc⟩⟩
theorem RR.get {E:Env} {b k:Nat}:∀ {rows:List V} {o:Nat},RR E b k o rows->∀ (i:Nat) (r:V),rows[i]? = some r ->
  ∃ y:Value,R E r y/\y.cells.size = k/\∀ j z,y.cells[j]? = some z->E.at b (o + i * k + j) z/\z.oneCell' = true
 | [],_,_,i,c,hc=>by simp at hc
 | r :: rs,o,h,i,d,hd=>by
  simp only [RR] at h
  obtain ⟨⟨y,h1,h2,h3⟩,h⟩:=h
  cases i with
  | zero=>simp at hd; subst hd; exact ⟨y,h1,h2,by simpa using h3⟩
  | succ i =>
   simp at hd
   obtain ⟨x,q1,q2,q3⟩:=RR.get h i d hd
   refine ⟨x,q1,q2,fun j z hz=>?_⟩
   have:=q3 j z hz
   rwa [show o + (i + 1) * k + j = o + k + i * k + j from by rw [Nat.add_mul]; omega]
theorem RR.of_get {E:Env} {b k:Nat}:∀ {rows:List V} {o:Nat},(∀ (i:Nat) (r:V),rows[i]? = some r ->
  ∃ y:Value,R E r y/\y.cells.size = k/\∀ j z,y.cells[j]? = some z->E.at b (o + i * k + j) z/\z.oneCell' = true)->RR E b k o rows
 | [],_,_=>by simp [RR]
 | r :: rs,o,h=>by
  simp only [RR]
  obtain ⟨y,h1,h2,h3⟩:=h 0 r (by simp)
  refine ⟨⟨y,h1,h2,by simpa using h3⟩,RR.of_get fun i d hd=>?_⟩
  obtain ⟨y,h1,h2,h3⟩:=h (i + 1) d (by simpa using hd)
  refine ⟨y,h1,h2,fun j z hz=>?_⟩
  have:=h3 j z hz
  rwa [show o + (i + 1) * k + j = o + k + i * k + j from by rw [Nat.add_mul]; omega] at this
theorem RR.size {E:Env} {b k o n:Nat} {rows:List V} (h:RR E b k o rows) (hr:yO n rows) {r:V} (hm:r ∈ rows):k = n:=by
 obtain ⟨i,hi⟩:=List.mem_iff_getElem?.1 hm
 obtain ⟨y,h1,h2,_⟩:=h.get i r hi
 rw [<- h2]
 exact h1.csize (hr r hm)
theorem zfS {E:Env} {b k o:Nat} {r:V} {y:Value} {n:Nat} (h1:R E r y) (hn:r.csize = some n) (h3:∀ j z,y.cells[j]? = some z->E.at b (o + j) z/\z.oneCell' = true):RC E b o r.cellsL:=by
 obtain ⟨q1,_⟩:=h1.cells hn
 exact RC.of_vals q1 fun j x hx=>h3 j x (by simpa using hx)
theorem zc7 {t e:TypeId} {x ix:Operand} {rows:List V} {k:IntKind} {i:Int} {n:Nat} {r:V} (ho:o.op = .indexAddr t x ix) (hx:ρ x = .list rows) (hi:ρ ix = .int k i)
  (ht:P.underlying t = some (.slice e)) (hs:zj P e = some n) (hrows:yO n rows) (h0:0 <= i) (hr:rows[i.toNat]? = some r):QV P o ρ bx (.elt r.cellsL 0) none :=
 QV.pure fun ac w pr lam h _=>by
  have h1:=h x (by simp [ho,Op.operands])
  have h2:=h ix (by simp [ho,Op.operands])
  rw [hx] at h1; rw [hi] at h2
  simp only [R] at h1 h2
  obtain ⟨base,cap,e1,hc,hm,hb⟩:=h1
  have hlt:i.toNat < rows.length:=(List.getElem?_eq_some_iff.1 hr).1
  rcases hb with ⟨hb,_⟩ | ⟨b,o',k',rfl,hb⟩
  ·subst hb; simp at hlt
  ·have hmem:r ∈ rows:=List.mem_of_getElem? hr
   obtain rfl:=hb.size hrows hmem
   obtain ⟨y,q1,q2,q3⟩:=hb.get _ r hr
   have hcond:0 <= i/\i < (rows.length:Int):=⟨h0,by omega⟩
   refine ⟨.pointer (some ⟨b,o' + i.toNat * k',none⟩),?_,?_⟩
   ·simp only [execOp,ho,e1,h2]
    simp [Instr.indexAt,asIntOf,run_underlying ht,hcond,run_sizeOf hs,Addr.add_none]
   ·simp only [R]
    exact ⟨b,o' + i.toNat * k',rfl,zfS (k:=k') q1 (hrows r hmem) q3⟩
theorem zdN {t e:TypeId} {x ix:Operand} {j a:Nat} {k:IntKind} {i:Int} {n len:Nat} (ho:o.op = .indexAddr t x ix) (hx:ρ x = .loc j a) (hi:ρ ix = .int k i)
  (ht:P.underlying t = some (.array len e)) (hs:zj P e = some n) (h0:0 <= i) (h1:i < len):QV P o ρ bx (.loc j (a + i.toNat * n)) none :=
 QV.pure fun ac w pr lam h _=>by
  have q1:=h x (by simp [ho,Op.operands])
  have q2:=h ix (by simp [ho,Op.operands])
  rw [hx] at q1; rw [hi] at q2
  simp only [R] at q1 q2
  obtain ⟨b,hl,e1⟩:=q1
  refine ⟨.pointer (some ⟨b,a + i.toNat * n,none⟩),?_,by simp only [R]; exact ⟨b,hl,rfl⟩⟩
  simp only [execOp,ho,e1,q2]
  simp [Instr.indexAt,asIntOf,run_underlying ht,Instr.sureAddr,h0,h1,run_sizeOf hs,Addr.add_none]
theorem zdO {t e:TypeId} {x ix:Operand} {cs:List V} {a:Nat} {k:IntKind} {i:Int} {n len:Nat} (ho:o.op = .indexAddr t x ix) (hx:ρ x = .elt cs a) (hi:ρ ix = .int k i)
  (ht:P.underlying t = some (.array len e)) (hs:zj P e = some n) (h0:0 <= i) (h1:i < len):QV P o ρ bx (.elt cs (a + i.toNat * n)) none :=
 QV.pure fun ac w pr lam h _=>by
  have q1:=h x (by simp [ho,Op.operands])
  have q2:=h ix (by simp [ho,Op.operands])
  rw [hx] at q1; rw [hi] at q2
  simp only [R] at q1 q2
  obtain ⟨b,o',e1,hc⟩:=q1
  refine ⟨.pointer (some ⟨b,o' + a + i.toNat * n,none⟩),?_,by simp only [R]; exact ⟨b,o',by rw [Nat.add_assoc],hc⟩⟩
  simp only [execOp,ho,e1,q2]
  simp [Instr.indexAt,asIntOf,run_underlying ht,Instr.sureAddr,h0,h1,run_sizeOf hs,Addr.add_none]
theorem ziv {t:TypeId} {x ix:Operand} {s:List UInt8} {k:IntKind} {i:Int} {c:UInt8} (ho:o.op = .index t x ix) (hx:ρ x = .str s) (hi:ρ ix = .int k i)
  (ht:P.underlying t = some .string) (h0:0 <= i) (hc:s[i.toNat]? = some c):QV P o ρ bx (.int .u8 c.toNat) none :=
 QV.pure fun ac w pr lam h _=>by
  have q1:=h x (by simp [ho,Op.operands])
  have q2:=h ix (by simp [ho,Op.operands])
  rw [hx] at q1; rw [hi] at q2
  simp only [R] at q1 q2
  obtain ⟨e1,_⟩:=q1
  have hlt:i.toNat < s.length:=(List.getElem?_eq_some_iff.1 hc).1
  have hget:(ByteArray.mk s.toArray)[i.toNat]? = some c:=by
   have h2:i.toNat < (ByteArray.mk s.toArray).size:=by simpa [ByteArray.size] using hlt
   have h3:=(List.getElem?_eq_some_iff.1 hc).2
   rw [getElem?_pos (ByteArray.mk s.toArray) i.toNat h2]
   simp only [zuf]
   rw [<- h3]
   rfl
  refine ⟨.int .u8 c.toNat,?_,by simp [R]⟩
  simp only [execOp,ho,e1,q2]
  simp [Instr.index,asIntOf,run_underlying ht,h0,hget]
end
end Go.Eng
namespace Go.Eng
open Go.RowKit
section
variable {P:Program} {o:Oper} {ρ:Operand->V} {bx:Nat->Option Box}
theorem RR.slice {E:Env} {b k o l h:Nat} {rows:List V} (hr:RR E b k o rows):RR E b k (o + l * k) ((rows.take h).drop l):=by
 refine RR.of_get fun i r hi=>?_
 rw [List.getElem?_drop,List.getElem?_take] at hi
 split at hi
 ·obtain ⟨y,h1,h2,h3⟩:=hr.get _ r hi
  refine ⟨y,h1,h2,fun j z hz=>?_⟩
  have:=h3 j z hz
  rwa [show o + (l + i) * k + j = o + l * k + i * k + j from by rw [Nat.add_mul]; omega] at this
 ·cases hi
def zak (ρ:Operand->V) (x:Option Operand) (d:Nat):Option Nat :=
 match x with
 | none=>some d
 | some x=>match ρ x with
  | .int _ i=>if 0 <= i then some i.toNat else none
  | _=>none
theorem run_sliceBound {v:Value} {k:IntKind} {i:Int} {y n:Nat} (hv:v = .int k i) (h0:0 <= i) (hn:i.toNat = n) (hy:n <= y) (c:BoundsCode) (w:World):(Instr.sliceBound v y c).run P w = .ok n w:=by
 subst hv
 have:0 <= i/\i <= (y:Int):=⟨h0,by omega⟩
 simp [Instr.sliceBound,asIntOf,this,hn]
theorem Z1 {x:Operand} {d n:Nat} (h:zak ρ (some x) d = some n):∃ k i,ρ x = .int k i/\0 <= i/\i.toNat = n:=by
 simp only [zak] at h
 split at h
 ·rename_i k i hx
  split at h
  ·rename_i h0; simp at h; exact ⟨k,i,hx,h0,h⟩
  ·cases h
 ·cases h
theorem zg6 {t e:TypeId} {x:Operand} {lo hi:Option Operand} {rows:List V} {l h n:Nat} (ho:o.op = .slice t x lo hi none) (hx:ρ x = .list rows)
  (ht:P.underlying t = some (.slice e)) (hs:zj P e = some n) (hrows:yO n rows) (hl:zak ρ lo 0 = some l) (hh:zak ρ hi rows.length = some h) (hlh:l <= h) (hhl:h <= rows.length) :
  QV P o ρ bx (.list ((rows.take h).drop l)) none :=
 QV.pure fun ac w pr lam hop _=>by
  have q1:=hop x (by simp [ho,Op.operands])
  rw [hx] at q1
  simp only [R] at q1
  obtain ⟨base,cap,e1,hc,hm,hb⟩:=q1
  have hb1:(match lo.map ac.eval with | some v=>Instr.sliceBound v h .sliceB | none=>Pure.pure 0).run P w = .ok l w:=by
   cases lo with
   | none=>simp only [zak,zuf] at hl; subst hl; simp
   | some y =>
    obtain ⟨k,i,hy,h0,hn⟩:=Z1 hl
    have q:=hop y (by simp [ho,Op.operands])
    rw [hy] at q; simp only [R] at q
    exact run_sliceBound q h0 hn hlh _ w
  have hb2:(match hi.map ac.eval with | some v=>Instr.sliceBound v cap .sliceAcap | none=>Pure.pure rows.length).run P w = .ok h w:=by
   cases hi with
   | none=>simp only [zak,zuf] at hh; subst hh; simp
   | some y =>
    obtain ⟨k,i,hy,h0,hn⟩:=Z1 hh
    have q:=hop y (by simp [ho,Op.operands])
    rw [hy] at q; simp only [R] at q
    exact run_sliceBound q h0 hn (Nat.le_trans hhl hc) _ w
  have hbs:(Instr.sliceBounds true rows.length cap (lo.map ac.eval) (hi.map ac.eval) none).run P w = .ok (l,h,cap) w:=by
   cases lo <;> cases hi <;> simp only [Option.map_some,Option.map_none,Sem.run_pure,Result.ok.injEq,and_true] at hb1 hb2 <;>
    simp [Instr.sliceBounds,hb1,hb2]
  refine ⟨.slice (if cap = l then base else base.map (·.add (l * n))) (h - l) (cap - l),?_,?_⟩
  ·simp only [execOp,ho,e1]
   simp [Instr.sliceAt,run_underlying ht,Instr.slice,hbs,run_sizeOf hs]
  ·simp only [R]
   have hlen:((rows.take h).drop l).length = h - l:=by simp; omega
   refine ⟨_,cap - l,by rw [hlen],by rw [hlen]; omega,by omega,?_⟩
   rcases hb with ⟨rfl,rfl⟩ | ⟨b,o',k,rfl,hb⟩
   ·left
    simp at hhl; subst hhl
    simp at hlh; subst hlh
    simp
   ·right
    by_cases hcl:cap = l
    ·have:(rows.take h).drop l = []:=by
      apply zui
      rw [hlen]; omega
     rw [this,if_pos hcl]
     exact ⟨b,o',k,rfl,by simp [RR]⟩
    ·rw [if_neg hcl]
     refine ⟨b,o' + l * n,k,by simp [Addr.add_none],?_⟩
     rcases rows with _ | ⟨r,rs⟩
     ·simp [RR]
     ·obtain rfl:=hb.size hrows (r:=r) (by simp)
      exact hb.slice
def Qm (n:Nat):Nat->List V->List V
 | 0,_=>[]
 | k + 1,cs=>.agg (cs.take n) :: Qm n k (cs.drop n)
theorem zal (n:Nat):∀ (k:Nat) (cs:List V),(Qm n k cs).length = k
 | 0,_=>rfl
 | k + 1,cs=>by simp [Qm,zal n k]
theorem zfT {n:Nat}:∀ {k:Nat} {cs:List V} {i:Nat} {r:V},(Qm n k cs)[i]? = some r->i < k/\r = .agg ((cs.drop (i * n)).take n)
 | 0,_,i,r,h=>by simp [Qm] at h
 | k + 1,cs,0,r,h=>by simp [Qm] at h; exact ⟨by omega,by simp [h]⟩
 | k + 1,cs,i + 1,r,h=>by
  simp only [Qm,List.getElem?_cons_succ] at h
  obtain ⟨h1,h2⟩:=zfT h
  rw [List.drop_drop] at h2
  exact ⟨by omega,by rw [h2]; congr 2; rw [Nat.add_mul]; congr 1; omega⟩
theorem ziw {t e:TypeId} {x:Operand} {cs:List V} {off k n:Nat} (ho:o.op = .slice t x none none none) (hx:ρ x = .elt cs off)
  (ht:P.underlying t = some (.array k e)) (hs:zj P e = some n) (hk:off + k * n <= cs.length) (hm:k <= maxLen) (hk0:0 < k):QV P o ρ bx (.list (Qm n k (cs.drop off))) none :=
 QV.pure fun ac w pr lam hop _=>by
  have q1:=hop x (by simp [ho,Op.operands])
  rw [hx] at q1
  simp only [R] at q1
  obtain ⟨b,o',e1,hc⟩:=q1
  refine ⟨.slice (some ⟨b,o' + off,none⟩) k k,?_,?_⟩
  ·have hk1:¬ k = 0:=by omega
   simp only [execOp,ho,e1]
   simp [Instr.sliceAt,run_underlying ht,Instr.sureAddr,Instr.sliceBounds,run_sizeOf hs,hk1,Addr.add_none]
  ·simp only [R]
   refine ⟨_,k,by rw [zal],by rw [zal]; exact Nat.le_refl _,hm,.inr ⟨b,o' + off,n,rfl,?_⟩⟩
   obtain ⟨xs,v1,v2⟩:=hc.vals
   have hl:=v1.length
   refine RR.of_get fun i r hi=>?_
   obtain ⟨h1,rfl⟩:=zfT hi
   have hin:i * n + n <= k * n:=by
    have:=Nat.mul_le_mul_right n (show i + 1 <= k from h1)
    rw [Nat.add_mul] at this
    omega
   have hrl:RL _ (((cs.drop off).drop (i * n)).take n) (((xs.drop off).drop (i * n)).take n):=((v1.drop off).drop (i * n)).take n
   have hone:∀ y ∈ ((xs.drop off).drop (i * n)).take n,y.oneCell' = true:=fun y hy=>by
    have h2:=List.mem_of_mem_drop (List.mem_of_mem_drop (List.mem_of_mem_take hy))
    obtain ⟨j,hj,rfl⟩:=List.mem_iff_getElem.1 h2
    exact (v2 j _ (List.getElem?_eq_getElem hj)).2
   refine ⟨.agg (((xs.drop off).drop (i * n)).take n).toArray,by simp only [R]; exact ⟨_,rfl,hrl,hone⟩,?_,fun j z hz=>?_⟩
   ·simp only [Value.cells,List.size_toArray,List.length_take,List.length_drop]
    omega
   ·simp only [Value.cells,List.getElem?_toArray,List.getElem?_take] at hz
    split at hz
    ·rw [List.drop_drop,List.getElem?_drop] at hz
     have:=v2 _ z hz
     rw [show o' + (off + i * n + j) = o' + off + i * n + j from by omega] at this
     exact this
    ·cases hz
theorem zfU {t e e':TypeId} {x:Operand} {lo:Option Operand} {hi mx:Operand} {rows:List V} {l h n:Nat} {c0:Nat} (hc0:c0 = 1 ∨ (c0 = 0/\h = 0)) (ho:o.op = .slice t x lo (some hi) (some mx)) (hx:ρ x = .list rows)
  (ht:P.underlying t = some (.slice e)) (hs:zj P e = some n) (hrows:yO n rows) (hl:zak ρ lo 0 = some l) (hh:zak ρ (some hi) rows.length = some h) (hm':zak ρ (some mx) rows.length = some h) (hlh:l <= h) (hhl:h <= rows.length) :
  QV P o ρ bx (.list ((rows.take h).drop l)) (some (c0,e')) :=
 QV.of_run fun ac w pr lam hlt hop _=>by
  have q1:=hop x (by simp [ho,Op.operands])
  rw [hx] at q1
  simp only [R] at q1
  obtain ⟨base,cap,e1,hc,hm,hb⟩:=q1
  obtain ⟨k2,i2,hy2,h02,hn2⟩:=Z1 hh
  obtain ⟨k3,i3,hy3,h03,hn3⟩:=Z1 hm'
  have q2:=hop hi (by simp [ho,Op.operands])
  have q3:=hop mx (by simp [ho,Op.operands])
  rw [hy2] at q2; rw [hy3] at q3
  simp only [R] at q2 q3
  have hb1:(match lo.map ac.eval with | some v=>Instr.sliceBound v h .slice3C | none=>Pure.pure 0).run P w = .ok l w:=by
   cases lo with
   | none=>simp only [zak,zuf] at hl; subst hl; simp
   | some y =>
    obtain ⟨k,i,hy,h0,hn⟩:=Z1 hl
    have q:=hop y (by simp [ho,Op.operands])
    rw [hy] at q; simp only [R] at q
    exact run_sliceBound q h0 hn hlh _ w
  have hb2:=run_sliceBound (P:=P) q2 h02 hn2 (Nat.le_refl h) .slice3B w
  have hb3:=run_sliceBound (P:=P) q3 h03 hn3 (Nat.le_trans hhl hc) .slice3Acap w
  have hbs:(Instr.sliceBounds true rows.length cap (lo.map ac.eval) (some (ac.eval hi)) (some (ac.eval mx))).run P w = .ok (l,h,h) w:=by
   cases lo <;> simp only [Option.map_some,Option.map_none,Sem.run_pure,Result.ok.injEq,and_true] at hb1 <;>
    simp [Instr.sliceBounds,hb1,hb2,hb3]
  refine ⟨.slice (if h = l then base else base.map (·.add (l * n))) (h - l) (h - l),w,pr,?_,Ext.refl w pr,?_,?_⟩
  ·simp only [execOp,ho,e1]
   simp [Instr.sliceAt,run_underlying ht,Instr.slice,hbs,run_sizeOf hs]
  ·simp only [R]
   have hlen:((rows.take h).drop l).length = h - l:=by simp; omega
   refine ⟨_,h - l,by rw [hlen],by rw [hlen]; omega,by omega,?_⟩
   rcases hb with ⟨rfl,rfl⟩ | ⟨b,o',k,rfl,hb⟩
   ·left
    simp at hhl; subst hhl
    simp at hlh; subst hlh
    simp
   ·right
    by_cases hcl:h = l
    ·have:(rows.take h).drop l = []:=by
      apply zui
      rw [hlen]; omega
     rw [this,if_pos hcl]
     exact ⟨b,o',k,rfl,by simp [RR]⟩
    ·rw [if_neg hcl]
     refine ⟨b,o' + l * n,k,by simp [Addr.add_none],?_⟩
     rcases rows with _ | ⟨r,rs⟩
     ·simp [RR]
     ·obtain rfl:=hb.size hrows (r:=r) (by simp)
      exact hb.slice
  ·intro c e'' hce
   simp only [zuf,Prod.mk.injEq] at hce
   obtain ⟨hce,rfl⟩:=hce
   subst hce
   refine ⟨by omega,fun g hg=>?_⟩
   exfalso
   have:zp c0 (.slice (if h = l then base else base.map (·.add (l * n))) (h - l) (h - l)) = none:=by
    cases hq:(if h = l then base else base.map (·.add (l * n))) <;> simp [zp]
    rcases hc0 with rfl | ⟨rfl,rfl⟩ <;> simp
   rw [this] at hg; cases hg
theorem zix {t:TypeId} {x:Operand} {lo hi:Option Operand} {s:List UInt8} {l h:Nat} (ho:o.op = .slice t x lo hi none) (hx:ρ x = .str s)
  (ht:P.underlying t = some .string) (hl:zak ρ lo 0 = some l) (hh:zak ρ hi s.length = some h) (hlh:l <= h) (hhl:h <= s.length) :
  QV P o ρ bx (.str ((s.take h).drop l)) none :=
 QV.pure fun ac w pr lam hop _=>by
  have q1:=hop x (by simp [ho,Op.operands])
  rw [hx] at q1
  simp only [R] at q1
  obtain ⟨e1,hm⟩:=q1
  have hb1:(match lo.map ac.eval with | some v=>Instr.sliceBound v h .sliceB | none=>Pure.pure 0).run P w = .ok l w:=by
   cases lo with
   | none=>simp only [zak,zuf] at hl; subst hl; simp
   | some y =>
    obtain ⟨k,i,hy,h0,hn⟩:=Z1 hl
    have q:=hop y (by simp [ho,Op.operands])
    rw [hy] at q; simp only [R] at q
    exact run_sliceBound q h0 hn hlh _ w
  have hb2:(match hi.map ac.eval with | some v=>Instr.sliceBound v s.length .sliceAlen | none=>Pure.pure s.length).run P w = .ok h w:=by
   cases hi with
   | none=>simp only [zak,zuf] at hh; subst hh; simp
   | some y =>
    obtain ⟨k,i,hy,h0,hn⟩:=Z1 hh
    have q:=hop y (by simp [ho,Op.operands])
    rw [hy] at q; simp only [R] at q
    exact run_sliceBound q h0 hn hhl _ w
  have hbs:(Instr.sliceBounds false s.length s.length (lo.map ac.eval) (hi.map ac.eval) none).run P w = .ok (l,h,s.length) w:=by
   cases lo <;> cases hi <;> simp only [Option.map_some,Option.map_none,Sem.run_pure,Result.ok.injEq,and_true] at hb1 hb2 <;>
    simp [Instr.sliceBounds,hb1,hb2]
  have hsz:(ByteArray.mk s.toArray).size = s.length:=by simp [ByteArray.size]
  refine ⟨.string ((ByteArray.mk s.toArray).extract l h),?_,?_⟩
  ·simp only [execOp,ho,e1]
   simp [Instr.sliceAt,run_underlying ht,Instr.slice,hsz,hbs]
  ·simp only [R]
   refine ⟨?_,by simp; omega⟩
   congr 1
   apply ByteArray.ext
   apply Array.ext'
   simp [ByteArray.data_extract,List.drop_take]
theorem zj2 {t e:TypeId} {x:Operand} {rows:List V} (ho:o.op = .call { callee:=.builtin .len,args:=#[x],argTypes:=#[t] }) (hx:ρ x = .list rows)
  (ht:P.underlying t = some (.slice e)):QV P o ρ bx (.int .i64 rows.length) none :=
 QV.pure fun ac w pr lam hop _=>by
  have q1:=hop x (by simp [ho,Op.operands,Call.operands])
  rw [hx] at q1
  simp only [R] at q1
  obtain ⟨base,cap,e1,_⟩:=q1
  refine ⟨.int .i64 rows.length,?_,by simp [R]⟩
  simp only [execOp,ho,resolve,invoke,builtin,Sem.run_bind,Sem.run_pure,Result.andThen_ok,List.map_toArray,List.map_cons,List.map_nil,e1]
  simp [Builtin.len_,run_underlying ht,goInt]
theorem zlB {t:TypeId} {x:Operand} {s:List UInt8} (ho:o.op = .call { callee:=.builtin .len,args:=#[x],argTypes:=#[t] }) (hx:ρ x = .str s)
  (ht:P.underlying t = some .string):QV P o ρ bx (.int .i64 s.length) none :=
 QV.pure fun ac w pr lam hop _=>by
  have q1:=hop x (by simp [ho,Op.operands,Call.operands])
  rw [hx] at q1
  simp only [R] at q1
  obtain ⟨e1,_⟩:=q1
  refine ⟨.int .i64 s.length,?_,by simp [R]⟩
  simp only [execOp,ho,resolve,invoke,builtin,Sem.run_bind,Sem.run_pure,Result.andThen_ok,List.map_toArray,List.map_cons,List.map_nil,e1]
  have hsz:(ByteArray.mk s.toArray).size = s.length:=by simp [ByteArray.size]
  simp [Builtin.len_,run_underlying ht,goInt,hsz]
theorem zse {t u:TypeId} {x y:Operand} {k:IntKind} {a b:Int} (ho:o.op = .call { callee:=.builtin .max,args:=#[x,y],argTypes:=#[t,u] }) (hx:ρ x = .int k a) (hy:ρ y = .int k b) :
  QV P o ρ bx (.int k (max a b)) none :=
 QV.pure fun ac w pr lam hop _=>by
  have q1:=hop x (by simp [ho,Op.operands,Call.operands])
  have q2:=hop y (by simp [ho,Op.operands,Call.operands])
  rw [hx] at q1; rw [hy] at q2
  simp only [R] at q1 q2
  refine ⟨.int k (max a b),?_,by simp [R]⟩
  simp only [execOp,ho,resolve,invoke,builtin,Sem.run_bind,Sem.run_pure,Result.andThen_ok,List.map_toArray,List.map_cons,List.map_nil,q1,q2]
  simp [Builtin.max_,Builtin.max2]
  split <;> omega
theorem zsf {t u:TypeId} {x y:Operand} {k:IntKind} {a b:Int} (ho:o.op = .call { callee:=.builtin .min,args:=#[x,y],argTypes:=#[t,u] }) (hx:ρ x = .int k a) (hy:ρ y = .int k b) :
  QV P o ρ bx (.int k (min a b)) none :=
 QV.pure fun ac w pr lam hop _=>by
  have q1:=hop x (by simp [ho,Op.operands,Call.operands])
  have q2:=hop y (by simp [ho,Op.operands,Call.operands])
  rw [hx] at q1; rw [hy] at q2
  simp only [R] at q1 q2
  refine ⟨.int k (min a b),?_,by simp [R]⟩
  simp only [execOp,ho,resolve,invoke,builtin,Sem.run_bind,Sem.run_pure,Result.andThen_ok,List.map_toArray,List.map_cons,List.map_nil,q1,q2]
  simp [Builtin.min_,Builtin.min2]
  split <;> omega
theorem zc8 {t:TypeId} {n off:Nat} {xs:List Value} (ha:Zb P t = some true) (hs:zj P t = some n) (w:World) :
  (part t xs.toArray off).run P w = .ok (.agg ((xs.drop off).take n).toArray) w:=by
 simp [part,zb0 ha,run_sizeOf hs]
theorem zaQ {t:TypeId} {off:Nat} {xs:List Value} {x:Value} (ha:Zb P t = some false) (hx:xs[off]? = some x) (w:World) :
  (part t xs.toArray off).run P w = .ok x w:=by
 simp [part,zb0 ha,hx]
theorem ziy {s t:TypeId} {x:Operand} {fi off n:Nat} {cs:List V} (ho:o.op = .field s x fi) (hx:ρ x = .agg cs) (hf:Y1 P s fi = some (off,t)) (ha:Zb P t = some true) (hs:zj P t = some n) :
  QV P o ρ bx (.agg ((cs.drop off).take n)) none :=
 QV.pure fun ac w pr lam hop _=>by
  have q1:=hop x (by simp [ho,Op.operands])
  rw [hx] at q1
  simp only [R] at q1
  obtain ⟨xs,e1,q1,q2⟩:=q1
  obtain ⟨fs,f,h1,h2,rfl,rfl⟩:=zbq hf
  refine ⟨.agg ((xs.drop f.offset).take n).toArray,?_,?_⟩
  ·simp only [execOp,ho,e1]
   simp [Instr.field,run_underlying h1,h2,asAgg,zc8 ha hs]
  ·simp only [R]
   exact ⟨_,rfl,(q1.drop _).take _,fun y hy=>q2 y (List.mem_of_mem_drop (List.mem_of_mem_take hy))⟩
theorem ziz {s t:TypeId} {x:Operand} {fi off:Nat} {cs:List V} {c:V} (ho:o.op = .field s x fi) (hx:ρ x = .agg cs) (hf:Y1 P s fi = some (off,t)) (ha:Zb P t = some false) (hc:cs[off]? = some c) :
  QV P o ρ bx c none :=
 QV.pure fun ac w pr lam hop _=>by
  have q1:=hop x (by simp [ho,Op.operands])
  rw [hx] at q1
  simp only [R] at q1
  obtain ⟨xs,e1,q1,q2⟩:=q1
  obtain ⟨fs,f,h1,h2,rfl,rfl⟩:=zbq hf
  obtain ⟨y,hy,hr⟩:=q1.get _ c hc
  refine ⟨y,?_,hr⟩
  simp only [execOp,ho,e1]
  simp [Instr.field,run_underlying h1,h2,asAgg,zaQ ha hy]
theorem zdP {t e:TypeId} {x ix:Operand} {cs:List V} {c:V} {k:IntKind} {i:Int} {len n:Nat} (ho:o.op = .index t x ix) (hx:ρ x = .agg cs) (hi:ρ ix = .int k i)
  (ht:P.underlying t = some (.array len e)) (ha:Zb P e = some false) (hs:zj P e = some n) (h0:0 <= i) (h1:i < len) (hc:cs[i.toNat * n]? = some c):QV P o ρ bx c none :=
 QV.pure fun ac w pr lam hop _=>by
  have q1:=hop x (by simp [ho,Op.operands])
  have q2:=hop ix (by simp [ho,Op.operands])
  rw [hx] at q1; rw [hi] at q2
  simp only [R] at q1 q2
  obtain ⟨xs,e1,q1,_⟩:=q1
  obtain ⟨y,hy,hr⟩:=q1.get _ c hc
  refine ⟨y,?_,hr⟩
  simp only [execOp,ho,e1,q2]
  simp [Instr.index,asIntOf,run_underlying ht,h0,h1,run_sizeOf hs,zaQ ha hy]
def qp (s:List UInt8):List V:=s.map fun b=>.int .u8 b.toNat
end
end Go.Eng
namespace Go.Eng
open Go.RowKit
def Y2:Value->V
 | .int k n=>.int k n
 | .bool b=>.bool b
 | .string s=>if s.size <= maxLen then .str s.data.toList else .any
 | .pointer none=>.nilp
 | .slice none 0 0=>.list []
 | .nilFunc=>.nilfn
 | .nilIface=>.nilif
 | _=>.any
def qU:Value->V
 | .agg cs=>if cs.toList.all (fun x=>x.oneCell') then .agg (cs.toList.map Y2) else .any
 | .tuple cs=>.tup (cs.toList.map Y2)
 | v=>Y2 v
theorem zj3 (E:Env) (x:Value):R E (Y2 x) x:=by
 unfold Y2
 split
 all_goals first
  | (simp [R]; done)
  | skip
 ·split
  ·rename_i s h
   have h':s.data.toList.length <= maxLen:=by rw [Array.length_toList]; exact h
   simp only [R]
   first | exact ⟨rfl,h'⟩ | exact ⟨trivial,h'⟩
  ·simp [R]
 ·simp only [R]
  exact ⟨none,0,rfl,Nat.le_refl _,by simp [maxLen],.inl ⟨trivial,rfl⟩⟩
theorem zdQ (E:Env):∀ (xs:List Value),RL E (xs.map Y2) xs
 | []=>by simp [RL]
 | x :: xs=>by
  simp only [List.map_cons,RL]
  exact ⟨x,xs,rfl,zj3 E x,zdQ E xs⟩
theorem Yh (E:Env) (x:Value):R E (qU x) x:=by
 unfold qU
 split
 ·split
  ·rename_i cs h
   simp only [R]
   refine ⟨cs.toList,by simp,zdQ E _,fun y hy=>?_⟩
   exact List.all_eq_true.1 h y hy
  ·simp [R]
 ·rename_i cs
  simp only [R]
  exact ⟨cs.toList,by simp,zdQ E _⟩
 ·exact zj3 E _
def St.eval (st:St):Operand->V
 | .tmp t=>st.env t
 | .const v=>qU v
 | .global g=>(match GL g with | some vs=>.elt (vs.map qU) 0 | none=>.any)
 | .func f=>.fn (.func f) [] []
theorem zhD {w:World} {pr:Nat->Nat->Prop} {lam:Nat->Option Nat} {b:Nat}:∀ (vs:List Value) (o:Nat),(∀ i,(h:i < vs.length)->w.cell? ⟨b,o + i,none⟩ = some vs[i])->(∀ i,i < vs.length->pr b (o + i))->(∀ v ∈ vs,v.oneCell' = true)->RC ⟨w,pr,lam⟩ b o (vs.map qU)
 | [],_,_,_,_=>by simp [RC]
 | v :: vs,o,h1,h2,h3=>by
  simp only [List.map_cons,RC]
  refine ⟨⟨v,⟨h1 0 (by simp),h2 0 (by simp)⟩,h3 v (by simp),Yh _ v⟩,zhD vs (o + 1) (fun i hi=>?_) (fun i hi=>?_) fun v hv=>h3 v (by simp [hv])⟩
  ·have:=h1 (i + 1) (by simpa using hi)
   rw [show o + 1 + i = o + (i + 1) from by omega,this]; rfl
  ·have:=h2 (i + 1) (by simpa using hi)
   rwa [show o + 1 + i = o + (i + 1) from by omega]
def St.tokOf (st:St):Operand->Option (Nat × TypeId)
 | .tmp t=>st.tok t
 | _=>none
section
variable {P:Program} {n':Nat} {F:Fr} {st:St} {a:Act} {w:World} {pr:Nat->Nat->Prop} {lam:Nat->Option Nat}
theorem zq.eval (h:zq P F st a w pr lam) (x:Operand):R ⟨w,pr,lam⟩ (st.eval x) (a.eval x):=by
 cases x with
 | tmp t=>exact h.env t
 | const v=>exact Yh _ v
 | global g =>
  simp only [St.eval]
  cases hg:GL g with
  | none=>simp [R]
  | some vs =>
   obtain ⟨⟨ty,h1⟩,h2⟩:=h.hl.glob g vs hg
   simp only [R]
   refine ⟨g,0,rfl,zhD (b:=g) (pr:=pr) (w:=w) (lam:=lam) vs 0 (fun i hi=>?_) (fun i hi=>by simpa using h2 i hi) (zsb g vs hg)⟩
   simp [World.cell?,h1,hi]
 | func f=>simp only [St.eval,R]; exact ⟨[],[],rfl,by simp [RL],by simp [RL]⟩
def Z2 (P:Program) (n':Nat) (o:Oper) (st:St) (K:St->Prop):Prop :=
 ∀ (F:Fr) (a:Act) (w:World) (pr:Nat->Nat->Prop) (lam:Nat->Option Nat),F.nt = n'->zq P F st a w pr lam ->
  ∀ (next:Act->World->Prop) (Q:Exit->Act->World->Prop),
   (∀ st' a' w' pr' lam',K st'->zq P F st' a' w' pr' lam'->next a' w')->o.wp P a w next Q
theorem zfQ.fresh {w':World} {pr':Nat->Nat->Prop} (h:zq P F st a w pr lam) (he:Ext w pr w' pr') {v:V} {x:Value} {e:TypeId} (t:Nat) (hc:tcl t < 2) (ho:Own P (fun g=>w.heap.size <= g) ⟨w',pr',lam⟩ (tcl t) e x) :
  zfQ P F (st.clear t) a w' pr' lam v x (some (t,e)):=by
 have hge:∀ g,zp (tcl t) x = some g->w.heap.size <= g:=fun g hg=>(ho g hg).1
 refine ⟨fun g hg=>?_,fun s t' e' g hs h1 h2=>?_,fun i B b hB hl hg=>?_,fun s e' hs=>absurd rfl (z6 hs).2.1,fun hc'=>by omega,fun s e' b o g hs=>absurd rfl (z6 hs).2.2,fun s u e' b o g hu=>?_⟩
 ·obtain ⟨h1,h2⟩:=ho g hg
  exact ⟨.inl (Nat.le_trans h.keep.size h1),h2⟩
 ·obtain ⟨_,n,cap,cur,sz,_,h3,_⟩:=h.own s t' e' (z6 hs).1 g h1
  have hlt:g < w.heap.size:=(Array.getElem?_eq_some_iff.1 h3).1
  have:=hge g h2
  omega
 ·obtain ⟨b',h1,h2,_⟩:=h.box i B hB
  rw [hl] at h1; cases h1
  have hlt:b < w.heap.size:=h2.lt
  have:=hge b hg
  omega
 ·exfalso
  unfold tcl at hc
  omega
theorem Zc {o:Oper} {K:St->Prop} {v:V} {fr:Option (Nat × TypeId)} {tk:Option (Nat × TypeId)} (hq:QV P o st.eval st.box v fr) (htk:∀ t e,tk = some (t,e)->fr = some (tcl t,e))
  (hd:∀ d,o.dst = some d->d < n') (hk:K ((st.fresh tk).put o.dst v tk)):Z2 P n' o st K:=by
 intro F a w pr lam hF h next Q hn
 subst hF
 refine hq a w pr lam h.hl (fun x _=>h.eval x) h.brel next Q fun x w' pr' he hx ho=>?_
 refine hn _ _ w' pr' lam hk (((h.ext he).fresh tk).put hd hx ?_)
 cases tk with
 | none=>trivial
 | some te =>
  obtain ⟨t,e⟩:=te
  obtain ⟨q1,q2⟩:=ho _ e (htk t e rfl)
  exact zfQ.fresh h he t q1 q2
theorem zdR {o:Oper} {K:St->Prop} {x:Operand} (ho:o.op = .move x ∨ o.op = .assign x) (hd:∀ d,o.dst = some d->d < n') (hk:K (st.put o.dst (st.eval x) (st.tokOf x))):Z2 P n' o st K:=by
 intro F a w pr lam hF h next Q hn
 subst hF
 have hr:(execOp a.eval o).run P w = .ok (.value (a.eval x)) w:=by
  rcases ho with ho | ho <;> simp [execOp,ho]
 unfold Oper.wp
 rw [hr,Oper.upon_value]
 refine hn _ _ w pr lam hk (h.put hd (h.eval x) ?_)
 cases x with
 | tmp s =>
  simp only [St.tokOf]
  cases hs:st.tok s with
  | none=>trivial
  | some te =>
   obtain ⟨t,e⟩:=te
   exact ⟨h.own s t e hs,fun s' t' e' g hs' h1 h2=>h.coh s s' t t' e e' g hs hs' h2 h1,fun i B b hB hl=>h.apart i B b s t e hB hl hs,fun s' e' hs' hc=>h.coh2 s' s t e' e hs' hs hc,fun hc=>h.old s t e hs hc,
    fun s' e' b o g hs' h1 h2=>h.ptr s' s t e' e b o g hs' hs h1 h2,fun s' u e' b o g hu hs' h1 h2=>h.ptr s s' u e e' b o g (hu ▸ hs) hs' h1 h2⟩
 | const v=>trivial
 | global g=>trivial
 | func f=>trivial
def St.setBox (st:St) (i:Nat) (B:Box):St:={ st with box:=upd st.box i (some B) }
theorem zfV (e:TypeId) (v:Value) (w:World):(newVar e v).run P w = .ok ⟨w.heap.size,0,none⟩ (w.alloc (.cells v.cells e)):=by
 simp [newVar,newRow]
theorem zq.newObj (h:zq P F st a w pr lam) {i:Nat} (hi:st.box i = none) {cs:List V} {ob:Obj} {e:TypeId}
  (hob:∀ E:Env,Env.Le ⟨w,pr,lam⟩ E->E.w.heap[w.heap.size]? = some ob->Yg E w.heap.size ⟨cs,e⟩) :
  zq P F (st.setBox i ⟨cs,e⟩) a (w.alloc ob) pr (upd lam i (some w.heap.size)):=by
 have hl:=h.nolam i hi
 have hext:Ext w pr (w.alloc ob) pr:=Ext.alloc w pr _
 have h':=h.ext hext
 have hle:Env.Le ⟨w.alloc ob,pr,lam⟩ ⟨w.alloc ob,pr,upd lam i (some w.heap.size)⟩ :=
  ⟨fun j b hj=>(by
   show upd lam i (some w.heap.size) j = some b
   have hji:j ≠ i:=by
    intro hji
    change lam j = some b at hj
    rw [hji,hl] at hj
    cases hj
   rw [ZE _ _ _ _ hji]; exact hj),fun _ _ h=>h,fun _ _ _=>rfl⟩
 have hle0:Env.Le ⟨w,pr,lam⟩ ⟨w.alloc ob,pr,lam⟩:=hext.le h.prlt
 have hne:∀ j B,st.box j = some B->j ≠ i:=by
  intro j B hB hj; rw [hj,hi] at hB; cases hB
 have holdlt:∀ j B b,st.box j = some B->lam j = some b->b < w.heap.size:=by
  intro j B b hB hj
  obtain ⟨b',q1,q2,_⟩:=h.box j B hB
  rw [hj] at q1; cases q1
  exact q2.lt
 refine ⟨h.size,h.defers,fun s=>(h'.env s).mono hle,fun s t e' hs g hg=>?_,h.coh,?_,?_,?_,?_,h'.prlt,h'.keep,h'.prsub,h'.prnew,fun j b hj=>hle.lam j b (h.lamsub j b hj),h.coh2,
  fun s t e' hs hc=>(h'.old s t e' hs hc).old hle.lam (fun _ _ _=>rfl),h.ptr⟩
 ·exact h'.own s t e' hs g hg
 ·intro j B hB
  change upd st.box i _ j = some B at hB
  by_cases hj:j = i
  ·subst hj
   rw [QK] at hB; cases hB
   exact ⟨w.heap.size,by simp,hob _ (hle0.trans hle) (heap_alloc_new w _),fun o hp=>by have:=h.prlt _ _ hp; omega,.inl h.keep.size⟩
  ·rw [ZE _ _ _ _ hj] at hB
   obtain ⟨b,q1,q2,q5,q6⟩:=h'.box j B hB
   exact ⟨b,by rw [ZE _ _ _ _ hj]; exact q1,q2.mono hle rfl,q5,q6⟩
 ·intro j j' B B' b hB hB' q1 q2
  change upd st.box i _ j = some B at hB
  change upd st.box i _ j' = some B' at hB'
  by_cases hj:j = i <;> by_cases hj':j' = i
  ·rw [hj,hj']
  ·exfalso
   rw [ZE _ _ _ _ hj'] at hB' q2
   rw [hj,QK] at q1
   cases q1
   have:=holdlt j' B' _ hB' q2
   omega
  ·exfalso
   rw [ZE _ _ _ _ hj] at hB q1
   rw [hj',QK] at q2
   cases q2
   have:=holdlt j B _ hB q1
   omega
  ·rw [ZE _ _ _ _ hj] at hB q1
   rw [ZE _ _ _ _ hj'] at hB' q2
   exact h.inj j j' B B' b hB hB' q1 q2
 ·intro j B b s t e' hB q1 hs hg
  change upd st.box i _ j = some B at hB
  by_cases hj:j = i
  ·rw [hj,QK] at q1
   cases q1
   obtain ⟨_,n,cap,cur',sz,_,h3,_⟩:=h.own s t e' hs _ hg
   have:w.heap.size < w.heap.size:=(Array.getElem?_eq_some_iff.1 h3).1
   omega
  ·rw [ZE _ _ _ _ hj] at hB q1
   exact h.apart j B b s t e' hB q1 hs hg
 ·intro j hj
  change upd st.box i _ j = none at hj
  by_cases hji:j = i
  ·rw [hji,QK] at hj; cases hj
  ·rw [ZE _ _ _ _ hji] at hj ⊢
   exact h.nolam j hj
theorem zq.newBox (h:zq P F st a w pr lam) {i:Nat} (hi:st.box i = none) {cs:List V} {cur:Array Value} {e:TypeId} (hty:e < ZL) (hr:RL ⟨w,pr,lam⟩ cs cur.toList) (h1:∀ y ∈ cur.toList,y.oneCell' = true) :
  zq P F (st.setBox i ⟨cs,e⟩) a (w.alloc (.cells cur e)) pr (upd lam i (some w.heap.size)) :=
 h.newObj hi fun _ hle hg=>⟨fun _=>⟨cur,hg,hr.mono hle,h1⟩,fun ht=>absurd hty (Nat.not_lt.2 ht)⟩
theorem zj4 {o:Oper} {K:St->Prop} {e:TypeId} {x:Operand} {i n:Nat} {v:V} (ho:o.op = .box e x) (hx:st.eval x = v) (hv:v.csize = some n) (hi:st.box i = none) (hty:e < ZL) (hd:∀ d,o.dst = some d->d < n')
  (hk:K ((st.setBox i ⟨v.cellsL,e⟩).put o.dst (.loc i 0) none)):Z2 P n' o st K:=by
 intro F a w pr lam hF h next Q hn
 subst hF
 have hr:(execOp a.eval o).run P w = .ok (.value (.pointer (some ⟨w.heap.size,0,none⟩))) (w.alloc (.cells (a.eval x).cells e)):=by
  simp [execOp,ho,Instr.box,zfV]
 unfold Oper.wp
 rw [hr,Oper.upon_value]
 have hx':=h.eval x
 rw [hx] at hx'
 obtain ⟨q1,q2⟩:=hx'.cells hv
 refine hn _ _ _ pr (upd lam i (some w.heap.size)) hk ((h.newBox hi hty q1 q2).put hd ?_ trivial)
 simp only [R]
 exact ⟨w.heap.size,by simp,rfl⟩
def ZM (P:Program) (t:TypeId):Option V:=((P.info? t).bind (·.zero)).map qU
theorem Yn {t:TypeId} {v:V} (h:ZM P t = some v):∃ i z,P.info? t = some i/\i.zero = some z/\qU z = v:=by
 unfold ZM at h
 cases hi:P.info? t with
 | none=>simp [hi] at h
 | some i =>
  simp [hi] at h
  obtain ⟨z,hz,hv⟩:=h
  exact ⟨i,z,rfl,hz,hv⟩
theorem zfW {o:Oper} {K:St->Prop} {e:TypeId} {i n:Nat} {v:V} (ho:o.op = .alloc e) (hz:ZM P e = some v) (hv:v.csize = some n) (hi:st.box i = none) (hty:e < ZL) (hd:∀ d,o.dst = some d->d < n')
  (hk:K ((st.setBox i ⟨v.cellsL,e⟩).put o.dst (.loc i 0) none)):Z2 P n' o st K:=by
 intro F a w pr lam hF h next Q hn
 subst hF
 obtain ⟨j,z,q1,q2,rfl⟩:=Yn hz
 have hr:(execOp a.eval o).run P w = .ok (.value (.pointer (some ⟨w.heap.size,0,none⟩))) (w.alloc (.cells z.cells e)):=by
  simp [execOp,ho,Instr.alloc,zeroValue,typeInfo,q1,q2,zfV]
 unfold Oper.wp
 rw [hr,Oper.upon_value]
 obtain ⟨q1,q2⟩:=(Yh ⟨w,pr,lam⟩ z).cells hv
 refine hn _ _ _ pr (upd lam i (some w.heap.size)) hk ((h.newBox hi hty q1 q2).put hd ?_ trivial)
 simp only [R]
 exact ⟨w.heap.size,by simp,rfl⟩
theorem zc9 {t:TypeId} {b off n:Nat} {w:World} {v:Value} {cur:Array Value} {ty:TypeId} (hs:zj P t = some n) (hn:v.cells.size = n) (hg:w.heap[b]? = some (.cells cur ty (0,0)))
  (hfit:off + n <= cur.size) (h1:∀ y ∈ v.cells.toList,y.oneCell' = true) :
  (storeVar t ⟨b,off,none⟩ v).run P w = .ok () (w.setRow b (cur.toList.take off++v.cells.toList++cur.toList.drop (off + n)).toArray):=by
 have hst:=run_storeCells_at P b off ty v.cells.toList 0 cur w hg (by simpa [hn] using hfit) h1
 simp only [Nat.add_zero,Array.length_toList,hn] at hst
 simp only [storeVar,Sem.run_bind,run_sizeOf hs,Result.andThen_ok,hn,ne_eq,not_true,if_false]
 exact hst
theorem cell?_setRow_ne {w:World} {g b o:Nat} {cs:Array Value} (h:b ≠ g):(w.setRow g cs).cell? ⟨b,o,none⟩ = w.cell? ⟨b,o,none⟩:=cell_setRow_other w g cs ⟨b,o,none⟩ h
structure ze6 (w w':World) (b:Nat):Prop where
 os:w'.os = w.os
 tape:w'.tape = w.tape
 output:w'.output = w.output
 drawn:DLE w w'
 size:w'.heap.size = w.heap.size
 block:∀ k,k ≠ b->w'.heap[k]? = w.heap[k]?
theorem ze6.cell {w w':World} {b:Nat} (h:ze6 w w' b) {c o:Nat} (hc:c ≠ b):w'.cell? ⟨c,o,none⟩ = w.cell? ⟨c,o,none⟩:=by
 unfold World.cell?
 rw [h.block c hc]
theorem ze6.setRow (w:World) (b:Nat) (cs:Array Value):ze6 w (w.setRow b cs) b :=
 ⟨rfl,rfl,rfl,DLE.of_eq rfl,by simp,fun k hk=>setRow_other w b k cs hk⟩
theorem zq.setObj (h:zq P F st a w pr lam) {w':World} {i b:Nat} {B:Box} {cs:List V} (hB:st.box i = some B) (hl:lam i = some b) (hw:ze6 w w' b)
  (hob:Env.Le ⟨w,pr,lam⟩ ⟨w',pr,lam⟩->Yg ⟨w',pr,lam⟩ b ⟨cs,B.ty⟩):zq P F (st.setBox i ⟨cs,B.ty⟩) a w' pr lam:=by
 obtain ⟨b',q1,q2,q5,q6⟩:=h.box i B hB
 obtain rfl:b = b':=by rw [hl] at q1; cases q1; rfl
 have hle:Env.Le ⟨w,pr,lam⟩ ⟨w',pr,lam⟩:=⟨fun _ _ h=>h,fun _ _ h=>h,fun c o hp=>hw.cell (fun hc=>by subst hc; exact q5 o hp)⟩
 refine ⟨h.size,h.defers,fun s=>(h.env s).mono hle,?_,h.coh,?_,?_,?_,?_,?_,?_,h.prsub,h.prnew,h.lamsub,h.coh2,fun s t e hs hc=>(h.old s t e hs hc).old (fun _ _ h=>h) (fun c o hp=>hle.cell c o (h.prsub c o hp)),h.ptr⟩
 ·intro s t e hs g hgb
  obtain ⟨r1,n,cap,cu,sz,r2,r3,r4,r5,r6⟩:=h.own s t e hs g hgb
  have hne:g ≠ b:=fun hgb'=>h.apart i B b s t e hB hl hs (by rw [<- hgb']; exact hgb)
  exact ⟨r1,n,cap,cu,sz,r2,by show w'.heap[g]? = _; rw [hw.block g hne]; exact r3,r4,r5,r6⟩
 ·intro j C hC
  change upd st.box i _ j = some C at hC
  by_cases hj:j = i
  ·subst hj
   rw [QK] at hC; cases hC
   exact ⟨b,hl,hob hle,q5,q6⟩
  ·rw [ZE _ _ _ _ hj] at hC
   obtain ⟨c,r1,r2,r5,r6⟩:=h.box j C hC
   have hne:c ≠ b:=fun hcb=>hj (h.inj j i C B b hC hB (by rw [r1,hcb]) hl)
   exact ⟨c,r1,r2.mono hle (hw.block c hne),r5,r6⟩
 ·intro j j' C C' c hC hC' r1 r2
  change upd st.box i _ j = some C at hC
  change upd st.box i _ j' = some C' at hC'
  have gt:∀ k D,upd st.box i (some ⟨cs,B.ty⟩) k = some D->∃ D',st.box k = some D':=by
   intro k D hD
   by_cases hk:k = i
   ·subst hk; exact ⟨B,hB⟩
   ·rw [ZE _ _ _ _ hk] at hD; exact ⟨D,hD⟩
  obtain ⟨D,hD⟩:=gt j C hC
  obtain ⟨D',hD'⟩:=gt j' C' hC'
  exact h.inj j j' D D' c hD hD' r1 r2
 ·intro j C c s t e hC r1 hs
  change upd st.box i _ j = some C at hC
  by_cases hj:j = i
  ·subst hj; exact h.apart j B c s t e hB r1 hs
  ·rw [ZE _ _ _ _ hj] at hC; exact h.apart j C c s t e hC r1 hs
 ·intro j hj
  change upd st.box i _ j = none at hj
  by_cases hji:j = i
  ·rw [hji,QK] at hj; cases hj
  ·rw [ZE _ _ _ _ hji] at hj; exact h.nolam j hj
 ·intro c o hp
  have:=h.prlt c o hp
  rw [hw.size]; exact this
 ·refine ⟨hw.os.trans h.keep.os,hw.tape.trans h.keep.tape,hw.output.trans h.keep.output,h.keep.drawn.trans hw.drawn,by rw [hw.size]; exact h.keep.size,fun k hk hn hh=>?_⟩
  have hne:k ≠ b:=by
   rintro rfl
   rcases q6 with q6 | q6
   ·exact Nat.lt_irrefl _ (Nat.lt_of_lt_of_le hk q6)
   ·exact hn q6
  rw [hw.block k hne]
  exact h.keep.block k hk hn hh
theorem zq.setBox (h:zq P F st a w pr lam) {i b:Nat} {B:Box} {cur cur':Array Value} {cs:List V} (hB:st.box i = some B) (hty:B.ty < ZL) (hl:lam i = some b) (hg:w.heap[b]? = some (.cells cur B.ty (0,0)))
  (hr:RL ⟨w,pr,lam⟩ cs cur'.toList) (h1:∀ y ∈ cur'.toList,y.oneCell' = true):zq P F (st.setBox i ⟨cs,B.ty⟩) a (w.setRow b cur') pr lam :=
 h.setObj hB hl (ze6.setRow w b cur') fun hle=>⟨fun _=>⟨cur',setRow_heap w b cur cur' B.ty (0,0) hg,hr.mono hle,h1⟩,fun ht=>absurd hty (Nat.not_lt.2 ht)⟩
theorem zlC {o:Oper} {K:St->Prop} {t:TypeId} {x y:Operand} {i off n:Nat} {B:Box} {v:V} (ho:o.op = .store t x y) (hx:st.eval x = .loc i off) (hy:st.eval y = v) (hB:st.box i = some B)
  (hv:v.csize = some n) (hs:zj P t = some n) (hfit:off + n <= B.cells.length) (hty:B.ty < ZL) (hd:o.dst = none)
  (hk:K (st.setBox i ⟨B.cells.take off++v.cellsL++B.cells.drop (off + n),B.ty⟩)):Z2 P n' o st K:=by
 intro F a w pr lam hF h next Q hn
 subst hF
 have hx':=h.eval x
 have hy':=h.eval y
 rw [hx] at hx'; rw [hy] at hy'
 simp only [R] at hx'
 obtain ⟨b,hl,e1⟩:=hx'
 obtain ⟨b',q1,hat,q5,q6⟩:=h.box i B hB
 obtain ⟨cur,q2,q3,q4⟩:=hat.cells hty
 obtain rfl:b = b':=by rw [show lam i = some b from hl] at q1; cases q1; rfl
 obtain ⟨r1,r2⟩:=hy'.cells hv
 have hsz:=hy'.csize hv
 have hlen:B.cells.length = cur.size:=by simpa using q3.length
 have hr:(execOp a.eval o).run P w = .ok .skip (w.setRow b (cur.toList.take off++(a.eval y).cells.toList++cur.toList.drop (off + n)).toArray):=by
  simp only [execOp,ho,e1]
  simp only [Instr.storeAt,Instr.sureAddr,Sem.run_bind,Sem.run_pure,Result.andThen_ok,zc9 hs hsz q2 (by omega:off + n <= cur.size) r2]
 unfold Oper.wp
 rw [hr,Oper.upon_skip,hd]
 refine hn _ _ _ pr lam hk (h.setBox hB hty hl q2 ?_ ?_)
 ·simpa using ((q3.take off).append r1).append (q3.drop (off + n))
 ·intro z hz
  simp only [List.mem_append] at hz
  rcases hz with (hz | hz) | hz
  ·exact q4 z (List.mem_of_mem_take hz)
  ·exact r2 z hz
  ·exact q4 z (List.mem_of_mem_drop hz)
end
end Go.Eng
