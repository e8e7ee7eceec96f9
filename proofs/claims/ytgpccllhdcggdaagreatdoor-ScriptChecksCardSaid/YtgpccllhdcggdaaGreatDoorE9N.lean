import Derived.WalkKit
import Derived.Deep.Draws
import Derived.Maps.Own
import Derived.Test.YtgpccllhdcggdaaGreatDoorRows
import Derived.Great.BuildSlice
import Derived.Lib.ConvBytes
open List renaming getElem?_eq_getElem -> zys
open List renaming mem_of_getElem? -> zyu
open Nat renaming le_refl -> zyF
open Bool renaming and_eq_true -> zyL
open Option.some renaming injEq -> zyO
open List renaming length_append -> zyQ
open List renaming eq_nil_of_length_eq_zero -> zyR
set_option linter.unusedSimpArgs false
set_option linter.unusedVariables false
namespace Go.Eng
open Go.RowKit
inductive V where
 | any
 | un
 | int (k:IntKind) (n:Int)
 | bool (b:Bool)
 | str (s:List UInt8)
 | agg (cs:List V)
 | tup (vs:List V)
 | loc (i off:Nat)
 | elt (cs:List V) (off:Nat)
 | nilp
 | list (rows:List V)
 | fn (f:Fn) (first captured:List V)
 | nilfn
 | iface (t:TypeId) (v:V)
 | nilif
 | mref (i:Nat)
 | nilm
 | ptr (off:Nat)
 deriving Inhabited
structure Env where
 w:World
 pr:Nat->Nat->Prop
 lam:Nat->Option Nat
def Env.at (E:Env) (b o:Nat) (x:Value):Prop:=E.w.cell? ⟨b,o,none⟩ = some x/\E.pr b o
mutual
def R (E:Env):V->Value->Prop
 | .any,_=>True
 | .un,x=>x = undef
 | .int k n,x=>x = .int k n
 | .bool b,x=>x = .bool b
 | .str s,x=>x = .string ⟨s.toArray⟩/\s.length <= maxLen
 | .agg cs,x=>∃ xs:List Value,x = .agg xs.toArray/\RL E cs xs/\∀ y ∈ xs,y.oneCell' = true
 | .tup cs,x=>∃ xs:List Value,x = .tuple xs.toArray/\RL E cs xs
 | .loc i off,x=>∃ b,E.lam i = some b/\x = .pointer (some ⟨b,off,none⟩)
 | .elt cs off,x=>∃ b o,x = .pointer (some ⟨b,o + off,none⟩)/\RC E b o cs
 | .nilp,x=>x = .pointer none
 | .list rows,x=>∃ base cap,x = .slice base rows.length cap/\rows.length <= cap/\cap <= maxLen/\((rows = []/\cap = 0) ∨ ∃ b o k,base = some ⟨b,o,none⟩/\RR E b k o rows)
 | .fn f first cap,x=>∃ xs ys:List Value,x = .func f xs.toArray ys.toArray/\RL E first xs/\RL E cap ys
 | .nilfn,x=>x = .nilFunc
 | .iface t v,x=>∃ y,x = .iface t y/\R E v y
 | .nilif,x=>x = .nilIface
 | .mref i,x=>∃ b,E.lam i = some b/\x = .map (some b)
 | .nilm,x=>x = .map none
 | .ptr off,x=>∃ b,x = .pointer (some ⟨b,off,none⟩)
def RL (E:Env):List V->List Value->Prop
 | [],xs=>xs = []
 | c :: cs,xs=>∃ y ys,xs = y :: ys/\R E c y/\RL E cs ys
def RC (E:Env) (b:Nat) (o:Nat):List V->Prop
 | []=>True
 | c :: cs=>(∃ y,E.at b o y/\y.oneCell' = true/\R E c y)/\RC E b (o + 1) cs
def RR (E:Env) (b k:Nat) (o:Nat):List V->Prop
 | []=>True
 | r :: rs=>(∃ y:Value,R E r y/\y.cells.size = k/\(∀ j z,y.cells[j]? = some z->E.at b (o + j) z/\z.oneCell' = true))/\RR E b k (o + k) rs
end
structure Env.Le (E E':Env):Prop where
 lam:∀ i b,E.lam i = some b->E'.lam i = some b
 pr:∀ b o,E.pr b o->E'.pr b o
 cell:∀ b o,E.pr b o->E'.w.cell? ⟨b,o,none⟩ = E.w.cell? ⟨b,o,none⟩
theorem Env.Le.trans {E E' E'':Env} (h:E.Le E') (k:E'.Le E''):E.Le E'' :=
 ⟨fun i b e=>k.lam i b (h.lam i b e),fun b o e=>k.pr b o (h.pr b o e),fun b o e=>(k.cell b o (h.pr b o e)).trans (h.cell b o e)⟩
theorem Env.Le.at {E E':Env} (h:E.Le E') {b o:Nat} {x:Value} (ha:E.at b o x):E'.at b o x :=
 ⟨(h.cell b o ha.2).trans ha.1,h.pr b o ha.2⟩
mutual
theorem R.mono {E E':Env} (h:E.Le E'):∀ (v:V) (x:Value),R E v x->R E' v x
 | .any,_,_=>by simp [R]
 | .un,_,q=>by simpa [R] using q
 | .int _ _,_,q=>by simpa [R] using q
 | .bool _,_,q=>by simpa [R] using q
 | .str _,_,q=>by simpa [R] using q
 | .agg cs,_,q=>by
  simp only [R] at q ⊢
  obtain ⟨xs,e,q,q1⟩:=q
  exact ⟨xs,e,RL.mono h cs xs q,q1⟩
 | .tup cs,_,q=>by
  simp only [R] at q ⊢
  obtain ⟨xs,e,q⟩:=q
  exact ⟨xs,e,RL.mono h cs xs q⟩
 | .loc i off,_,q=>by
  simp only [R] at q ⊢
  obtain ⟨b,e,q⟩:=q
  exact ⟨b,h.lam _ _ e,q⟩
 | .elt cs off,_,q=>by
  simp only [R] at q ⊢
  obtain ⟨b,o,e,q⟩:=q
  exact ⟨b,o,e,RC.mono h b o cs q⟩
 | .nilp,_,q=>by simpa [R] using q
 | .list rows,_,q=>by
  simp only [R] at q ⊢
  obtain ⟨base,cap,e,hc,hm,q⟩:=q
  refine ⟨base,cap,e,hc,hm,?_⟩
  rcases q with q | ⟨b,o,k,e2,q⟩
  ·exact .inl q
  ·exact .inr ⟨b,o,k,e2,RR.mono h b k o rows q⟩
 | .fn f first cap,_,q=>by
  simp only [R] at q ⊢
  obtain ⟨xs,ys,e,q1,q2⟩:=q
  exact ⟨xs,ys,e,RL.mono h _ _ q1,RL.mono h _ _ q2⟩
 | .nilfn,_,q=>by simpa [R] using q
 | .iface t v,_,q=>by
  simp only [R] at q ⊢
  obtain ⟨y,e,q⟩:=q
  exact ⟨y,e,R.mono h v y q⟩
 | .nilif,_,q=>by simpa [R] using q
 | .mref i,_,q=>by
  simp only [R] at q ⊢
  obtain ⟨b,e,q⟩:=q
  exact ⟨b,h.lam _ _ e,q⟩
 | .nilm,_,q=>by simpa [R] using q
 | .ptr _,_,q=>by simpa [R] using q
theorem RL.mono {E E':Env} (h:E.Le E'):∀ (cs:List V) (xs:List Value),RL E cs xs->RL E' cs xs
 | [],_,q=>by simpa [RL] using q
 | c :: cs,_,q=>by
  simp only [RL] at q ⊢
  obtain ⟨y,ys,e,q1,q2⟩:=q
  exact ⟨y,ys,e,R.mono h c y q1,RL.mono h cs ys q2⟩
theorem RC.mono {E E':Env} (h:E.Le E') (b:Nat):∀ (o:Nat) (cs:List V),RC E b o cs->RC E' b o cs
 | _,[],_=>by simp [RC]
 | o,c :: cs,q=>by
  simp only [RC] at q ⊢
  obtain ⟨⟨y,q0,q3,q1⟩,q2⟩:=q
  exact ⟨⟨y,h.at q0,q3,R.mono h c y q1⟩,RC.mono h b (o + 1) cs q2⟩
theorem RR.mono {E E':Env} (h:E.Le E') (b k:Nat):∀ (o:Nat) (cs:List V),RR E b k o cs->RR E' b k o cs
 | _,[],_=>by simp [RR]
 | o,c :: cs,q=>by
  simp only [RR] at q ⊢
  obtain ⟨⟨y,q0,q1,q3⟩,q2⟩:=q
  exact ⟨⟨y,R.mono h c y q0,q1,fun j z hz=>⟨h.at (q3 j z hz).1,(q3 j z hz).2⟩⟩,RR.mono h b k (o + k) cs q2⟩
end
theorem R.old {w w':World} {pr0:Nat->Nat->Prop} {lam lam':Nat->Option Nat} (hl:∀ i b,lam i = some b->lam' i = some b) (hc:∀ b o,pr0 b o->w'.cell? ⟨b,o,none⟩ = w.cell? ⟨b,o,none⟩) {v:V} {x:Value} (h:R ⟨w,pr0,lam⟩ v x):R ⟨w',pr0,lam'⟩ v x :=
 R.mono (E:=⟨w,pr0,lam⟩) (E':=⟨w',pr0,lam'⟩) ⟨hl,fun _ _ h=>h,hc⟩ v x h
def QB:Nat:=1000000000
def RM (E:Env):List V->List MapEntry->Prop
 | [],es=>es = []
 | c :: cs,es=>∃ k v e es',c = .tup [k,v]/\es = e :: es'/\R E k e.key/\R E v e.val/\RM E cs es'
theorem RM.mono {E E':Env} (h:E.Le E'):∀ {cs:List V} {es:List MapEntry},RM E cs es->RM E' cs es
 | [],_,q=>by simpa [RM] using q
 | c :: cs,_,q=>by
  simp only [RM] at q ⊢
  obtain ⟨k,v,e,es',h1,h2,h3,h4,h5⟩:=q
  exact ⟨k,v,e,es',h1,h2,h3.mono h,h4.mono h,RM.mono h h5⟩
structure Box where
 cells:List V
 ty:TypeId
structure Yc (E:Env) (b:Nat) (B:Box):Prop where
 cells:B.ty < QB->∃ cur,E.w.heap[b]? = some (.cells cur B.ty (0,0))/\RL E B.cells cur.toList/\∀ y ∈ cur.toList,y.oneCell' = true
 map:QB <= B.ty->∃ es clock,E.w.heap[b]? = some (.map es clock)/\RM E B.cells es.toList/\MapKept.Stamped es clock
theorem Yc.lt {E:Env} {b:Nat} {B:Box} (h:Yc E b B):b < E.w.heap.size:=by
 rcases Nat.lt_or_ge B.ty QB with q | q
 ·obtain ⟨cur,h1,_⟩:=h.cells q
  exact (Array.getElem?_eq_some_iff.1 h1).1
 ·obtain ⟨es,clock,h1,_⟩:=h.map q
  exact (Array.getElem?_eq_some_iff.1 h1).1
theorem Yc.mono {E E':Env} (h:E.Le E') {b:Nat} {B:Box} (hb:E'.w.heap[b]? = E.w.heap[b]?) (q:Yc E b B):Yc E' b B:=by
 refine ⟨fun ht=>?_,fun ht=>?_⟩
 ·obtain ⟨cur,h1,h2,h3⟩:=q.cells ht
  exact ⟨cur,hb.trans h1,h2.mono h,h3⟩
 ·obtain ⟨es,clock,h1,h2⟩:=q.map ht
  exact ⟨es,clock,hb.trans h1,h2.1.mono h,h2.2⟩
end Go.Eng
namespace Go.Eng
open Go.RowKit
mutual
def flatD:DataW Unit->Option (List Value)
 | .lit (.bool b)=>some [.bool b]
 | .lit (.int k n)=>some [.int k n]
 | .lit (.string l)=>some [.string ⟨l.toArray⟩]
 | .agg ds=>flatDs ds
 | _=>none
def flatDs:List (DataW Unit)->Option (List Value)
 | []=>some []
 | d :: ds=>match flatD d,flatDs ds with
  | some a,some b=>some (a++b)
  | _,_=>none
end
def G0:List Value:=(flatD Go.Proofs.YtgpccllhdcggdaaGreatDoor.Rows.laid_packhorse_script_uses).getD []
def G1:List Value:=(flatD Go.Proofs.YtgpccllhdcggdaaGreatDoor.Rows.laid_internal_strconv_uint64pow10).getD []
def GL:Nat->Option (List Value):=fun g=>if g = 0 then some G0 else if g = 3 then some G1 else none
theorem zwd (g:Nat) (vs:List Value) (h:GL g = some vs):∀ v ∈ vs,v.oneCell' = true:=by
 unfold GL at h
 split at h
 ·cases h
  have:G0.all (·.oneCell') = true:=by kernel_rfl
  exact List.all_eq_true.1 this
 ·split at h
  ·cases h
   have:G1.all (·.oneCell') = true:=by kernel_rfl
   exact List.all_eq_true.1 this
  ·cases h
theorem zwe (g:Nat) (vs:List Value) (h:GL g = some vs):0 < vs.length:=by
 unfold GL at h
 split at h
 ·cases h
  exact of_decide_eq_true (by kernel_rfl)
 ·split at h
  ·cases h
   exact of_decide_eq_true (by kernel_rfl)
  ·cases h
def TN:Option Nat:=some 1
def TEl (o:Bool) (n1 n2:Nat):List MapEntry:=cond o [⟨.string ⟨([99,111,110,116,97,99,116].map UInt8.ofNat).toArray⟩,.func (.func 198) #[] #[],n1⟩,⟨.string ⟨([110,111,100,101].map UInt8.ofNat).toArray⟩,.func (.func 197) #[] #[],n2⟩] [⟨.string ⟨([110,111,100,101].map UInt8.ofNat).toArray⟩,.func (.func 197) #[] #[],n2⟩,⟨.string ⟨([99,111,110,116,97,99,116].map UInt8.ofNat).toArray⟩,.func (.func 198) #[] #[],n1⟩]
def TE (es:List MapEntry):Prop:=∃ o n1 n2,es = TEl o n1 n2
def DLE (_ _:World):Prop:=True
theorem DLE.any (w w':World):DLE w w':=trivial
theorem DLE.refl (w:World):DLE w w:=trivial
theorem DLE.trans {w w1 w2:World} (h:DLE w w1) (k:DLE w1 w2):DLE w w2:=trivial
theorem DLE.of_eq {w w':World} (h:w'.drawn = w.drawn):DLE w w':=trivial
theorem DLE.drewN (w:World) (n:Nat):DLE w (w.drewN n):=trivial
end Go.Eng
namespace Go.Eng
open Go.RowKit
structure St where
 nb:Nat
 sl:Nat->V × Option (Nat × TypeId)
 box:Nat->Option Box
def St.env (st:St) (s:Nat):V:=(st.sl s).1
def St.tok (st:St) (s:Nat):Option (Nat × TypeId):=(st.sl s).2
def upd {α:Type} (f:Nat->α) (i:Nat) (x:α):Nat->α:=fun j=>if j = i then x else f j
@[simp] theorem QC {α:Type} (f:Nat->α) (i:Nat) (x:α):upd f i x i = x:=by simp [upd]
theorem Zx {α:Type} (f:Nat->α) (i j:Nat) (x:α) (h:j ≠ i):upd f i x j = f j:=by simp [upd,h]
def tcl (t:Nat):Nat:=t / 1000000
def zJ (c:Nat):Value->Option Nat
 | .slice (some a) n cap=>if (c = 0/\0 < cap) ∨ (c = 1/\n < cap) then some a.block else none
 | _=>none
def Own (P:Program) (M:Nat->Prop) (E:Env) (c:Nat) (e:TypeId) (x:Value):Prop :=
 ∀ g,zJ c x = some g->M g/\∃ n cap cur sz,x = .slice (some ⟨g,0,none⟩) n cap/\E.w.heap[g]? = some (.cells cur e (0,0)) /\
  (P.info? e).map (·.size) = some sz/\cur.size = cap * sz/\∀ o,n * sz <= o->¬ E.pr g o
def TBL (w:World) (g b:Nat):Prop:=(∃ ty fr,w.heap[g]? = some (.cells #[.map (some b)] ty fr))/\∃ es clock,w.heap[b]? = some (.map es clock)/\TE es.toList
theorem TBL.lt {w:World} {g b:Nat} (h:TBL w g b):g < w.heap.size/\b < w.heap.size:=by
 obtain ⟨⟨ty,fr,h1⟩,es,c,h2,_⟩:=h
 exact ⟨(Array.getElem?_eq_some_iff.1 h1).1,(Array.getElem?_eq_some_iff.1 h2).1⟩
theorem TBL.keep {w w':World} {g b:Nat} (h:TBL w g b) (h1:g < w.heap.size->w'.heap[g]? = w.heap[g]?) (h2:b < w.heap.size->w'.heap[b]? = w.heap[b]?):TBL w' g b:=by
 obtain ⟨q1,q2⟩:=h.lt
 obtain ⟨⟨ty,fr,k1⟩,es,c,k2,k3⟩:=h
 exact ⟨⟨ty,fr,(h1 q1).trans k1⟩,es,c,(h2 q2).trans k2,k3⟩
theorem TBL.nocells {w:World} {g b k:Nat} {cur:Array Value} {ty:TypeId} {fr:Nat × Nat} (h:TBL w g b) (hk:w.heap[k]? = some (.cells cur ty fr)):b ≠ k:=by
 rintro rfl
 obtain ⟨_,es,c,k2,_⟩:=h
 rw [hk] at k2; cases k2
structure HL (w:World) (pr:Nat->Nat->Prop):Prop where
 lt:∀ b o,pr b o->b < w.heap.size
 glob:∀ g vs,GL g = some vs->(∃ ty,w.heap[g]? = some (.cells vs.toArray ty (0,0)))/\∀ i,i < vs.length->pr g i
 tab:∀ g,TN = some g->∃ b,TBL w g b/\pr g 0/\pr b 0
theorem HL.two {w:World} {pr:Nat->Nat->Prop} (hn:TN = none) (lt:∀ b o,pr b o->b < w.heap.size)
  (glob:∀ g vs,GL g = some vs->(∃ ty,w.heap[g]? = some (.cells vs.toArray ty (0,0)))/\∀ i,i < vs.length->pr g i):HL w pr :=
 ⟨lt,glob,fun g hg=>by rw [hn] at hg; cases hg⟩
structure Fr where
 nt:Nat
 lam0:Nat->Option Nat
 w0:World
 pr0:Nat->Nat->Prop
 io:Nat->Prop
 lt0:∀ b o,pr0 b o->b < w0.heap.size
 hd:Option Nat
 hd0:∀ b o,hd = some b->¬ pr0 b o
 gl:∀ g vs,GL g = some vs->(∃ ty,w0.heap[g]? = some (.cells vs.toArray ty (0,0)))/\(¬ io g/\hd ≠ some g)/\∀ i,i < vs.length->pr0 g i
 tb:∀ g,TN = some g->∃ b,TBL w0 g b/\(¬ io g/\hd ≠ some g)/\(¬ io b/\hd ≠ some b)/\pr0 g 0/\pr0 b 0
def Fr.N (F:Fr):Nat:=F.w0.heap.size
def Fr.mine (F:Fr) (g:Nat):Prop:=F.N <= g ∨ F.hd = some g
theorem Fr.mine_pr {F:Fr} {g o:Nat} (h:F.mine g) (hp:F.pr0 g o):False:=by
 rcases h with h | h
 ·exact Nat.lt_irrefl _ (Nat.lt_of_lt_of_le (F.lt0 _ _ hp) h)
 ·exact F.hd0 g o h hp
theorem Fr.mine_keep {F:Fr} {g k:Nat} (h:F.mine g) (hk:k < F.w0.heap.size) (hh:F.hd ≠ some k):k ≠ g:=by
 rintro rfl
 rcases h with h | h
 ·exact Nat.lt_irrefl _ (Nat.lt_of_lt_of_le hk h)
 ·exact hh h
theorem Fr.mine_gl {F:Fr} {g k:Nat} {vs:List Value} (h:F.mine g) (hg:GL k = some vs):g ≠ k:=by
 rintro rfl
 obtain ⟨⟨ty,h3⟩,h4,_⟩:=F.gl g vs hg
 exact F.mine_keep h (Array.getElem?_eq_some_iff.1 h3).1 h4.2 rfl
theorem Fr.mine_tn {F:Fr} {g:Nat} (h:F.mine g):TN ≠ some g:=fun hq=>by
 obtain ⟨b,h1,h2,_⟩:=F.tb g hq
 exact F.mine_keep h h1.lt.1 h2.2 rfl
structure Kept (F:Fr) (w:World):Prop where
 os:w.os = F.w0.os
 tape:w.tape = F.w0.tape
 output:w.output = F.w0.output
 drawn:DLE F.w0 w
 size:F.w0.heap.size <= w.heap.size
 block:∀ k,k < F.w0.heap.size->¬ F.io k->F.hd ≠ some k->w.heap[k]? = F.w0.heap[k]?
structure zC (P:Program) (F:Fr) (st:St) (a:Act) (w:World) (pr:Nat->Nat->Prop) (lam:Nat->Option Nat):Prop where
 size:a.tmps.size = F.nt
 defers:a.defers = []
 env:∀ s,R ⟨w,pr,lam⟩ (st.env s) (a.tmps.getD s undef)
 own:∀ s t e,st.tok s = some (t,e)->Own P F.mine ⟨w,pr,lam⟩ (tcl t) e (a.tmps.getD s undef)
 coh:∀ s s' t t' e e' g,st.tok s = some (t,e)->st.tok s' = some (t',e')->zJ (tcl t) (a.tmps.getD s undef) = some g->zJ (tcl t') (a.tmps.getD s' undef) = some g->t = t'
 box:∀ i B,st.box i = some B->∃ b,lam i = some b/\Yc ⟨w,pr,lam⟩ b B/\(∀ o,¬ pr b o)/\(F.N <= b ∨ F.io b)
 inj:∀ i j B B' b,st.box i = some B->st.box j = some B'->lam i = some b->lam j = some b->i = j
 apart:∀ i B b s t e,st.box i = some B->lam i = some b->st.tok s = some (t,e)->zJ (tcl t) (a.tmps.getD s undef) ≠ some b
 nolam:∀ i,st.box i = none->lam i = none
 prlt:∀ b o,pr b o->b < w.heap.size
 keep:Kept F w
 prsub:∀ b o,F.pr0 b o->pr b o
 prnew:∀ b o,pr b o->F.pr0 b o ∨ F.mine b
 lamsub:∀ i b,F.lam0 i = some b->lam i = some b
 coh2:∀ s s' t e e',st.tok s = some (t,e)->st.tok s' = some (t,e')->tcl t = 0->a.tmps.getD s undef = a.tmps.getD s' undef
 old:∀ s t e,st.tok s = some (t,e)->tcl t = 2->R ⟨w,F.pr0,lam⟩ (st.env s) (a.tmps.getD s undef)
 ptr:∀ s s' t e e' b o g,st.tok s = some (t + 3000000,e)->st.tok s' = some (t,e')->a.tmps.getD s undef = .pointer (some ⟨b,o,none⟩)->zJ (tcl t) (a.tmps.getD s' undef) = some g->b = g
theorem zC.hl {P:Program} {F:Fr} {st:St} {a:Act} {w:World} {pr:Nat->Nat->Prop} {lam:Nat->Option Nat} (h:zC P F st a w pr lam):HL w pr:=by
 refine ⟨h.prlt,fun g vs hg=>?_,fun g hg=>?_⟩
 ·obtain ⟨⟨ty,h1⟩,h2,h3⟩:=F.gl g vs hg
  exact ⟨⟨ty,(h.keep.block g (Array.getElem?_eq_some_iff.1 h1).1 h2.1 h2.2).trans h1⟩,fun i hi=>h.prsub g i (h3 i hi)⟩
 ·obtain ⟨b,h1,h2,h3,h4,h5⟩:=F.tb g hg
  exact ⟨b,h1.keep (fun q=>h.keep.block g q h2.1 h2.2) (fun q=>h.keep.block b q h3.1 h3.2),h.prsub _ _ h4,h.prsub _ _ h5⟩
structure Ext (w:World) (pr:Nat->Nat->Prop) (w':World) (pr':Nat->Nat->Prop):Prop where
 below:Below w.heap.size w w'
 drawn:DLE w w'
 sub:∀ b o,pr b o->pr' b o
 new:∀ b o,pr' b o->pr b o ∨ (w.heap.size <= b/\b < w'.heap.size)
theorem Ext.refl (w:World) (pr:Nat->Nat->Prop):Ext w pr w pr:=⟨Below.refl _ _,DLE.refl _,fun _ _ h=>h,fun _ _ h=>.inl h⟩
theorem Ext.trans {w w1 w2:World} {pr pr1 pr2:Nat->Nat->Prop} (h:Ext w pr w1 pr1) (k:Ext w1 pr1 w2 pr2):Ext w pr w2 pr2 :=
 ⟨h.below.trans (k.below.mono h.below.size),h.drawn.trans k.drawn,fun b o x=>k.sub b o (h.sub b o x),fun b o x=>by
  rcases k.new b o x with x | ⟨x,y⟩
  ·rcases h.new b o x with x | ⟨x,y⟩
   ·exact .inl x
   ·exact .inr ⟨x,Nat.lt_of_lt_of_le y k.below.size⟩
  ·exact .inr ⟨Nat.le_trans h.below.size x,y⟩⟩
theorem Ext.drew {w:World} {pr:Nat->Nat->Prop} (n:Nat):Ext w pr (w.drewN n) pr :=
 ⟨⟨rfl,rfl,rfl,zyF _,fun _ _=>rfl⟩,DLE.drewN _ _,fun _ _ h=>h,fun _ _ h=>.inl h⟩
theorem Ext.alloc (w:World) (pr:Nat->Nat->Prop) (o:Obj):Ext w pr (w.alloc o) pr :=
 ⟨(Below.refl _ _).alloc (zyF _) o,DLE.of_eq rfl,fun _ _ h=>h,fun _ _ h=>.inl h⟩
theorem Ext.protect (w:World) (pr:Nat->Nat->Prop) (w':World) (h:Below w.heap.size w w') (hd:DLE w w') (n:Nat->Nat->Prop)
  (hn:∀ b o,n b o->w.heap.size <= b/\b < w'.heap.size):Ext w pr w' (fun b o=>pr b o ∨ n b o) :=
 ⟨h,hd,fun _ _ x=>.inl x,fun b o x=>x.imp id (hn b o)⟩
theorem Ext.le {w w':World} {pr pr':Nat->Nat->Prop} {lam:Nat->Option Nat} (h:Ext w pr w' pr') (hlt:∀ b o,pr b o->b < w.heap.size) :
  Env.Le ⟨w,pr,lam⟩ ⟨w',pr',lam⟩ :=
 ⟨fun _ _ h=>h,h.sub,fun b o hp=>h.below.cell (p:=⟨b,o,none⟩) (hlt b o hp)⟩
theorem Own.ext {P:Program} {N:Nat->Prop} {w w':World} {pr pr':Nat->Nat->Prop} {lam:Nat->Option Nat} {c:Nat} {e:TypeId} {x:Value} (h:Own P N ⟨w,pr,lam⟩ c e x) (k:Ext w pr w' pr') :
  Own P N ⟨w',pr',lam⟩ c e x:=by
 intro g hg
 obtain ⟨h1,n,cap,cur,sz,h2,h3,h4,h5,h6⟩:=h g hg
 have hlt:g < w.heap.size:=(Array.getElem?_eq_some_iff.1 h3).1
 refine ⟨h1,n,cap,cur,sz,h2,?_,h4,h5,fun o ho hp=>?_⟩
 ·show w'.heap[g]? = _
  rw [k.below.block g hlt]; exact h3
 ·rcases k.new g o hp with hp | ⟨hp,_⟩
  ·exact h6 o ho hp
  ·omega
theorem zC.ext {P:Program} {F:Fr} {st:St} {a:Act} {w w':World} {pr pr':Nat->Nat->Prop} {lam:Nat->Option Nat}
  (h:zC P F st a w pr lam) (k:Ext w pr w' pr'):zC P F st a w' pr' lam:=by
 have hle:Env.Le ⟨w,pr,lam⟩ ⟨w',pr',lam⟩:=k.le h.prlt
 refine ⟨h.size,h.defers,fun s=>(h.env s).mono hle,fun s t e ht=>(h.own s t e ht).ext k,h.coh,?_,h.inj,h.apart,h.nolam,?_,?_,fun b o hp=>k.sub b o (h.prsub b o hp),?_,h.lamsub,h.coh2,
  fun s t e ht hc=>(h.old s t e ht hc).old (fun _ _ h=>h) (fun b o hp=>hle.cell b o (h.prsub b o hp)),h.ptr⟩
 ·intro i B hB
  obtain ⟨b,h1,h2,h5,h6⟩:=h.box i B hB
  have hlt:b < w.heap.size:=h2.lt
  refine ⟨b,h1,h2.mono hle (k.below.block b hlt),fun o hp=>?_,h6⟩
  rcases k.new b o hp with hp | ⟨hp,_⟩
  ·exact h5 o hp
  ·omega
 ·intro b o hp
  rcases k.new b o hp with hp | ⟨_,hp⟩
  ·exact Nat.lt_of_lt_of_le (h.prlt b o hp) k.below.size
  ·exact hp
 ·refine ⟨k.below.os.trans h.keep.os,k.below.tape.trans h.keep.tape,k.below.output.trans h.keep.output,h.keep.drawn.trans k.drawn,Nat.le_trans h.keep.size k.below.size,fun b hb hn hh=>?_⟩
  rw [k.below.block b (Nat.lt_of_lt_of_le hb h.keep.size)]
  exact h.keep.block b hb hn hh
 ·intro b o hp
  rcases k.new b o hp with hp | ⟨hp,_⟩
  ·exact h.prnew b o hp
  ·exact .inr (.inl (Nat.le_trans h.keep.size hp))
structure zuU (P:Program) (F:Fr) (st:St) (a:Act) (w:World) (pr:Nat->Nat->Prop) (lam:Nat->Option Nat) (v:V) (x:Value) (t:Nat) (e:TypeId):Prop where
 own:Own P F.mine ⟨w,pr,lam⟩ (tcl t) e x
 coh:∀ s t' e' g,st.tok s = some (t',e')->zJ (tcl t') (a.tmps.getD s undef) = some g->zJ (tcl t) x = some g->t = t'
 apart:∀ i B b,st.box i = some B->lam i = some b->zJ (tcl t) x ≠ some b
 coh2:∀ s e',st.tok s = some (t,e')->tcl t = 0->a.tmps.getD s undef = x
 old:tcl t = 2->R ⟨w,F.pr0,lam⟩ v x
 ptr1:∀ s e' b o g,st.tok s = some (t + 3000000,e')->a.tmps.getD s undef = .pointer (some ⟨b,o,none⟩)->zJ (tcl t) x = some g->b = g
 ptr2:∀ s u e' b o g,t = u + 3000000->st.tok s = some (u,e')->x = .pointer (some ⟨b,o,none⟩)->zJ (tcl u) (a.tmps.getD s undef) = some g->b = g
def zi8 (P:Program) (F:Fr) (st:St) (a:Act) (w:World) (pr:Nat->Nat->Prop) (lam:Nat->Option Nat) (v:V) (x:Value):Option (Nat × TypeId)->Prop
 | none=>True
 | some (t,e)=>zuU P F st a w pr lam v x t e
def St.put (st:St) (dst:Option Nat) (v:V) (tk:Option (Nat × TypeId)):St :=
 match dst with
 | some d=>{ st with sl:=upd st.sl d (v,tk) }
 | none=>st
def clr (t:Nat) (x:V × Option (Nat × TypeId)):V × Option (Nat × TypeId) :=
 (x.1,match x.2 with | some (t',e)=>if t' = t ∨ t' = t + 3000000 then none else some (t',e) | none=>none)
def St.clear (st:St) (t:Nat):St:={ st with sl:=fun s=>clr t (st.sl s) }
theorem zV {st:St} {t s t':Nat} {e:TypeId} (h:(st.clear t).tok s = some (t',e)):st.tok s = some (t',e)/\t' ≠ t/\t' ≠ t + 3000000:=by
 change (match st.tok s with | some (t',e)=>if t' = t ∨ t' = t + 3000000 then none else some (t',e) | none=>none) = some (t',e) at h
 cases hs:st.tok s with
 | none=>rw [hs] at h; cases h
 | some te =>
  rw [hs] at h
  obtain ⟨a,b⟩:=te
  simp only at h
  split at h
  ·cases h
  ·rename_i hne; cases h
   exact ⟨rfl,fun h=>hne (.inl h),fun h=>hne (.inr h)⟩
theorem zC.clear {P:Program} {F:Fr} {st:St} {a:Act} {w:World} {pr:Nat->Nat->Prop} {lam:Nat->Option Nat} (h:zC P F st a w pr lam) (t:Nat):zC P F (st.clear t) a w pr lam :=
 ⟨h.size,h.defers,h.env,fun s t' e hs=>h.own s t' e (zV hs).1,fun s s' t t' e e' g hs hs'=>h.coh s s' t t' e e' g (zV hs).1 (zV hs').1,
  h.box,h.inj,fun i B b s t' e hB hl hs=>h.apart i B b s t' e hB hl (zV hs).1,h.nolam,h.prlt,h.keep,h.prsub,h.prnew,h.lamsub,
  fun s s' t e e' hs hs'=>h.coh2 s s' t e e' (zV hs).1 (zV hs').1,fun s t e hs=>h.old s t e (zV hs).1,
  fun s s' t e e' b o g hs hs'=>h.ptr s s' t e e' b o g (zV hs).1 (zV hs').1⟩
def St.fresh (st:St) (tk:Option (Nat × TypeId)):St:=match tk with | some (t,_)=>st.clear t | none=>st
theorem zC.fresh {P:Program} {F:Fr} {st:St} {a:Act} {w:World} {pr:Nat->Nat->Prop} {lam:Nat->Option Nat} (h:zC P F st a w pr lam) (tk:Option (Nat × TypeId)):zC P F (st.fresh tk) a w pr lam:=by
 cases tk with
 | none=>exact h
 | some te=>exact h.clear te.1
theorem St.env_put (st:St) (d s:Nat) (v:V) (tk:Option (Nat × TypeId)):(st.put (some d) v tk).env s = upd st.env d v s:=by
 simp only [St.put,St.env,upd]; split <;> rfl
theorem St.tok_put (st:St) (d s:Nat) (v:V) (tk:Option (Nat × TypeId)):(st.put (some d) v tk).tok s = upd st.tok d tk s:=by
 simp only [St.put,St.tok,upd]; split <;> rfl
theorem Act.getD_put (a:Act) (d s:Nat) (x:Value) (hd:d < a.tmps.size):(a.put (some d) x).tmps.getD s undef = if s = d then x else a.tmps.getD s undef:=by
 show (a.tmps.setIfInBounds d x).getD s undef = _
 simp only [Array.getD_eq_getD_getElem?]
 by_cases h:s = d
 ·subst h; simp [hd]
 ·rw [Array.getElem?_setIfInBounds_ne (Ne.symm h)]; simp [h]
theorem zC.put {P:Program} {F:Fr} {st:St} {a:Act} {w:World} {pr:Nat->Nat->Prop} {lam:Nat->Option Nat}
  (h:zC P F st a w pr lam) {dst:Option Nat} {v:V} {x:Value} {tk:Option (Nat × TypeId)} (hd:∀ d,dst = some d->d < F.nt)
  (hr:R ⟨w,pr,lam⟩ v x) (ht:zi8 P F st a w pr lam v x tk):zC P F (st.put dst v tk) (a.put dst x) w pr lam:=by
 cases dst with
 | none=>exact h
 | some d =>
  have hd':d < a.tmps.size:=by rw [h.size]; exact hd d rfl
  have hg:=fun s=>Act.getD_put a d s x hd'
  refine ⟨?_,h.defers,?_,?_,?_,h.box,h.inj,?_,h.nolam,h.prlt,h.keep,h.prsub,h.prnew,h.lamsub,?_,?_,?_⟩
  ·show (a.tmps.setIfInBounds d x).size = F.nt
   rw [Array.size_setIfInBounds]; exact h.size
  ·intro s
   rw [hg]
   rw [St.env_put]
   unfold upd
   split
   ·exact hr
   ·exact h.env s
  ·intro s t e hs
   rw [hg]
   rw [St.tok_put] at hs
   unfold upd at hs
   split at hs
   ·rename_i hsd; subst hsd; subst hs; simp only [if_true]; exact ht.own
   ·rename_i hsd; rw [if_neg hsd]; exact h.own s t e hs
  ·intro s s' t t' e e' g hs hs' hgs hgs'
   rw [hg] at hgs hgs'
   rw [St.tok_put] at hs
   rw [St.tok_put] at hs'
   unfold upd at hs hs'
   split at hs <;> split at hs'
   ·subst hs; simp only [zyO,Prod.mk.injEq] at hs'; exact hs'.1
   ·rename_i q1 q2; rw [if_pos q1] at hgs; rw [if_neg q2] at hgs'; subst hs; exact ht.coh s' t' e' g hs' hgs' hgs
   ·rename_i q1 q2; rw [if_neg q1] at hgs; rw [if_pos q2] at hgs'; subst hs'; exact (ht.coh s t e g hs hgs hgs').symm
   ·rename_i q1 q2; rw [if_neg q1] at hgs; rw [if_neg q2] at hgs'; exact h.coh s s' t t' e e' g hs hs' hgs hgs'
  ·intro i B b s t e hB hl hs
   rw [hg]
   rw [St.tok_put] at hs
   unfold upd at hs
   split at hs
   ·rename_i q; rw [if_pos q]; subst hs; exact ht.apart i B b hB hl
   ·rename_i q; rw [if_neg q]; exact h.apart i B b s t e hB hl hs
  ·intro s s' t e e' hs hs' hc
   rw [hg,hg]
   rw [St.tok_put] at hs hs'
   unfold upd at hs hs'
   split at hs <;> split at hs'
   ·rename_i q1 q2
    rw [if_pos q1,if_pos q2]
   ·rename_i q1 q2
    rw [if_pos q1,if_neg q2]
    subst hs
    exact (ht.coh2 s' e' hs' hc).symm
   ·rename_i q1 q2
    rw [if_neg q1,if_pos q2]
    subst hs'
    exact ht.coh2 s e hs hc
   ·rename_i q1 q2
    rw [if_neg q1,if_neg q2]
    exact h.coh2 s s' t e e' hs hs' hc
  ·intro s t e hs hc
   rw [hg]
   rw [St.tok_put] at hs
   rw [St.env_put]
   unfold upd at hs ⊢
   split at hs
   ·rename_i q; rw [if_pos q,if_pos q]; subst hs; exact ht.old hc
   ·rename_i q; rw [if_neg q,if_neg q]; exact h.old s t e hs hc
  ·intro s s' t e e' b o g hs hs' hx hgb
   rw [hg] at hx hgb
   rw [St.tok_put] at hs hs'
   unfold upd at hs hs'
   split at hs <;> split at hs'
   ·rename_i q1 q2
    subst hs
    simp only [zyO,Prod.mk.injEq] at hs'
    omega
   ·rename_i q1 q2
    rw [if_pos q1] at hx
    rw [if_neg q2] at hgb
    subst hs
    exact ht.ptr2 s' t e' b o g rfl hs' hx hgb
   ·rename_i q1 q2
    rw [if_neg q1] at hx
    rw [if_pos q2] at hgb
    subst hs'
    exact ht.ptr1 s e b o g hs hx hgb
   ·rename_i q1 q2
    rw [if_neg q1] at hx
    rw [if_neg q2] at hgb
    exact h.ptr s s' t e e' b o g hs hs' hx hgb
end Go.Eng
namespace Go.Eng
open Go.RowKit
def zuV (E:Env) (bx:Nat->Option Box):Prop :=
 ∀ i B,bx i = some B->∃ b,E.lam i = some b/\Yc E b B
theorem zC.brel {P:Program} {F:Fr} {st:St} {a:Act} {w:World} {pr:Nat->Nat->Prop} {lam:Nat->Option Nat} (h:zC P F st a w pr lam):zuV ⟨w,pr,lam⟩ st.box:=by
 intro i B hB
 obtain ⟨b,h1,h2,_⟩:=h.box i B hB
 exact ⟨b,h1,h2⟩
def QV (P:Program) (o:Oper) (ρ:Operand->V) (bx:Nat->Option Box) (v:V) (fr:Option (Nat × TypeId)):Prop :=
 ∀ (a:Act) (w:World) (pr:Nat->Nat->Prop) (lam:Nat->Option Nat),HL w pr ->
  (∀ x ∈ o.op.operands,R ⟨w,pr,lam⟩ (ρ x) (a.eval x))->zuV ⟨w,pr,lam⟩ bx ->
  ∀ (next:Act->World->Prop) (Q:Exit->Act->World->Prop),
   (∀ x w' pr',Ext w pr w' pr'->R ⟨w',pr',lam⟩ v x->(∀ c e,fr = some (c,e)->c < 2/\Own P (fun g=>w.heap.size <= g) ⟨w',pr',lam⟩ c e x)->next (a.put o.dst x) w')->o.wp P a w next Q
theorem QV.of_run {P:Program} {o:Oper} {ρ:Operand->V} {bx:Nat->Option Box} {v:V} {fr:Option (Nat × TypeId)}
  (h:∀ (a:Act) (w:World) (pr:Nat->Nat->Prop) (lam:Nat->Option Nat),HL w pr ->
   (∀ x ∈ o.op.operands,R ⟨w,pr,lam⟩ (ρ x) (a.eval x))->zuV ⟨w,pr,lam⟩ bx ->
   ∃ x w' pr',(execOp a.eval o).run P w = .ok (.value x) w'/\Ext w pr w' pr'/\R ⟨w',pr',lam⟩ v x/\(∀ c e,fr = some (c,e)->c < 2/\Own P (fun g=>w.heap.size <= g) ⟨w',pr',lam⟩ c e x)) :
  QV P o ρ bx v fr:=by
 intro a w pr lam h1 h2 h3 next Q hn
 obtain ⟨x,w',pr',hr,he,hx,ho⟩:=h a w pr lam h1 h2 h3
 unfold Oper.wp
 rw [hr,Oper.upon_value]
 exact hn x w' pr' he hx ho
theorem QV.pure {P:Program} {o:Oper} {ρ:Operand->V} {bx:Nat->Option Box} {v:V}
  (h:∀ (a:Act) (w:World) (pr:Nat->Nat->Prop) (lam:Nat->Option Nat),
   (∀ x ∈ o.op.operands,R ⟨w,pr,lam⟩ (ρ x) (a.eval x))->zuV ⟨w,pr,lam⟩ bx ->
   ∃ x,(execOp a.eval o).run P w = .ok (.value x) w/\R ⟨w,pr,lam⟩ v x) :
  QV P o ρ bx v none :=
 QV.of_run fun a w pr lam _ h2 h3=>by
  obtain ⟨x,hr,hx⟩:=h a w pr lam h2 h3
  exact ⟨x,w,pr,hr,Ext.refl w pr,hx,fun c e he=>by cases he⟩
section
variable {P:Program} {o:Oper} {ρ:Operand->V} {bx:Nat->Option Box}
theorem zuW {c x y:Operand} {t:Bool} (ho:o.op = .pick c x y) (hc:ρ c = .bool t):QV P o ρ bx (if t then ρ x else ρ y) none :=
 QV.pure fun a w pr lam h _=>by
  have h1:=h c (by simp [ho,Op.operands])
  have h2:=h x (by simp [ho,Op.operands])
  have h3:=h y (by simp [ho,Op.operands])
  rw [hc] at h1
  simp only [R] at h1
  refine ⟨if t then a.eval x else a.eval y,by simp [execOp,ho,h1,asBool],?_⟩
  cases t
  ·simpa using h3
  ·simpa using h2
theorem RL.length {E:Env}:∀ {cs:List V} {xs:List Value},RL E cs xs->cs.length = xs.length
 | [],xs,h=>by simp only [RL] at h; simp [h]
 | c :: cs,xs,h=>by
  simp only [RL] at h
  obtain ⟨y,ys,rfl,_,h⟩:=h
  simp [RL.length h]
theorem RL.get {E:Env}:∀ {cs:List V} {xs:List Value},RL E cs xs->∀ (i:Nat) (c:V),cs[i]? = some c->∃ x,xs[i]? = some x/\R E c x
 | [],xs,_,i,c,hc=>by simp at hc
 | c :: cs,xs,h,i,d,hd=>by
  simp only [RL] at h
  obtain ⟨y,ys,rfl,h1,h⟩:=h
  cases i with
  | zero=>simp at hd; subst hd; exact ⟨y,by simp,h1⟩
  | succ i=>simp at hd; simpa using RL.get h i d hd
theorem RL.of_get {E:Env}:∀ {cs:List V} {xs:List Value},cs.length = xs.length->(∀ (i:Nat) (c:V) (x:Value),cs[i]? = some c->xs[i]? = some x->R E c x)->RL E cs xs
 | [],xs,hl,_=>by simp only [RL]; exact zyR (by simpa using hl.symm)
 | c :: cs,[],hl,_=>by simp at hl
 | c :: cs,x :: xs,hl,h=>by
  simp only [RL]
  exact ⟨x,xs,rfl,h 0 c x (by simp) (by simp),RL.of_get (by simpa using hl) fun i d y hd hy=>h (i + 1) d y (by simpa using hd) (by simpa using hy)⟩
theorem RL.drop {E:Env} {cs:List V} {xs:List Value} (h:RL E cs xs) (n:Nat):RL E (cs.drop n) (xs.drop n):=by
 refine RL.of_get (by simp [h.length]) fun i c x hc hx=>?_
 rw [List.getElem?_drop] at hc hx
 obtain ⟨x',hx',hr⟩:=h.get _ _ hc
 rw [hx] at hx'
 cases hx'
 exact hr
theorem RL.take {E:Env} {cs:List V} {xs:List Value} (h:RL E cs xs) (n:Nat):RL E (cs.take n) (xs.take n):=by
 refine RL.of_get (by simp [h.length]) fun i c x hc hx=>?_
 rw [List.getElem?_take] at hc hx
 split at hc
 ·rename_i hi
  rw [if_pos hi] at hx
  obtain ⟨x',hx',hr⟩:=h.get _ _ hc
  rw [hx] at hx'
  cases hx'
  exact hr
 ·cases hc
theorem RL.append {E:Env} {cs ds:List V} {xs ys:List Value} (h:RL E cs xs) (k:RL E ds ys):RL E (cs++ds) (xs++ys):=by
 refine RL.of_get (by simp [h.length,k.length]) fun i c x hc hx=>?_
 rw [List.getElem?_append] at hc hx
 rw [h.length] at hc
 split at hc
 ·rename_i hi
  rw [if_pos hi] at hx
  obtain ⟨x',hx',hr⟩:=h.get _ _ hc
  rw [hx] at hx'; cases hx'; exact hr
 ·rename_i hi
  rw [if_neg hi] at hx
  obtain ⟨x',hx',hr⟩:=k.get _ _ hc
  rw [hx] at hx'; cases hx'; exact hr
theorem RC.get {E:Env} {b:Nat}:∀ {cs:List V} {o:Nat},RC E b o cs->∀ (i:Nat) (c:V),cs[i]? = some c->∃ x,E.at b (o + i) x/\x.oneCell' = true/\R E c x
 | [],_,_,i,c,hc=>by simp at hc
 | c :: cs,o,h,i,d,hd=>by
  simp only [RC] at h
  obtain ⟨⟨y,h1,h3,h2⟩,h⟩:=h
  cases i with
  | zero=>simp at hd; subst hd; exact ⟨y,h1,h3,h2⟩
  | succ i =>
   simp at hd
   obtain ⟨x,q1,q2,q3⟩:=RC.get h i d hd
   exact ⟨x,by rwa [show o + (i + 1) = o + 1 + i from by omega],q2,q3⟩
theorem RC.vals {E:Env} {b:Nat}:∀ {cs:List V} {o:Nat},RC E b o cs->∃ xs:List Value,RL E cs xs/\(∀ j x,xs[j]? = some x->E.at b (o + j) x/\x.oneCell' = true)
 | [],_,_=>⟨[],by simp [RL],by simp⟩
 | c :: cs,o,h=>by
  simp only [RC] at h
  obtain ⟨⟨y,h1,h3,h2⟩,h⟩:=h
  obtain ⟨xs,q1,q2⟩:=RC.vals h
  refine ⟨y :: xs,by simp only [RL]; exact ⟨y,xs,rfl,h2,q1⟩,fun j x hx=>?_⟩
  cases j with
  | zero=>simp at hx; subst hx; exact ⟨h1,h3⟩
  | succ j =>
   simp at hx
   have:=q2 j x hx
   rwa [show o + (j + 1) = o + 1 + j from by omega]
theorem RC.of_vals {E:Env} {b:Nat}:∀ {cs:List V} {xs:List Value} {o:Nat},RL E cs xs->(∀ j x,xs[j]? = some x->E.at b (o + j) x/\x.oneCell' = true)->RC E b o cs
 | [],_,_,_,_=>by simp [RC]
 | c :: cs,xs,o,h,k=>by
  simp only [RL] at h
  obtain ⟨y,ys,rfl,h1,h⟩:=h
  have k0:=k 0 y (by simp)
  simp only [RC]
  refine ⟨⟨y,by simpa using k0.1,k0.2,h1⟩,RC.of_vals h fun j x hx=>?_⟩
  have:=k (j + 1) x (by simpa using hx)
  rwa [show o + 1 + j = o + (j + 1) from by omega]
theorem Addr.add_none (b off n:Nat):(⟨b,off,none⟩:Addr).add n = ⟨b,off + n,none⟩:=by
 unfold Addr.add; split <;> simp_all
def aggT (P:Program) (t:TypeId):Option Bool:=match P.underlying t with
 | some (.struct _) | some (.array _ _)=>some true
 | some _=>some false
 | none=>none
def sizeT (P:Program) (t:TypeId):Option Nat:=(P.info? t).map (·.size)
theorem run_isAgg {t:TypeId} {b:Bool} (h:aggT P t = some b) (w:World):(isAgg t).run P w = .ok b w:=by
 unfold aggT at h
 unfold isAgg
 cases hu:P.underlying t with
 | none=>rw [hu] at h; simp at h
 | some d =>
  rw [hu] at h
  rw [Sem.run_bind,run_underlying hu w]
  cases d <;> simp_all
theorem run_sizeOf {t:TypeId} {n:Nat} (h:sizeT P t = some n) (w:World):(sizeOf t).run P w = .ok n w:=by
 unfold sizeT at h
 cases hi:P.info? t with
 | none=>simp [hi] at h
 | some i=>simp [hi] at h; simp [sizeOf,typeInfo,hi,h]
theorem run_loadVar_agg {t:TypeId} {b off:Nat} {w:World} {xs:List Value} (ha:aggT P t = some true) (hs:sizeT P t = some xs.length)
  (hc:∀ j x,xs[j]? = some x->w.cell? ⟨b,off + j,none⟩ = some x):(loadVar t ⟨b,off,none⟩).run P w = .ok (.agg xs.toArray) w:=by
 have hl:(loadCells ⟨b,off,none⟩ xs.length).run P w = .ok xs.toArray w :=
  run_loadCells_list (P:=P) w ⟨b,off,none⟩ xs (fun j v hv=>by rw [Addr.add_none]; exact hc j v hv)
 simp [loadVar,Sem.run_bind,run_isAgg ha,run_sizeOf hs,hl]
theorem run_loadVar_one {t:TypeId} {b off:Nat} {w:World} {x:Value} (ha:aggT P t = some false)
  (hc:w.cell? ⟨b,off,none⟩ = some x):(loadVar t ⟨b,off,none⟩).run P w = .ok x w:=by
 simp [loadVar,Sem.run_bind,run_isAgg ha,run_load,hc]
theorem zfU {t:TypeId} {x:Operand} {cs:List V} {off n:Nat} (ho:o.op = .load t x) (hx:ρ x = .elt cs off) (ha:aggT P t = some true) (hs:sizeT P t = some n)
  (hn:off + n <= cs.length):QV P o ρ bx (.agg ((cs.drop off).take n)) none :=
 QV.pure fun a w pr lam h _=>by
  have h1:=h x (by simp [ho,Op.operands])
  rw [hx] at h1
  simp only [R] at h1
  obtain ⟨b,o',e,hc⟩:=h1
  obtain ⟨xs,q1,q2⟩:=hc.vals
  have hlen:((xs.drop off).take n).length = n:=by
   have:=q1.length
   simp; omega
  have hrun:(loadVar t ⟨b,o' + off,none⟩).run P w = .ok (.agg ((xs.drop off).take n).toArray) w :=
   run_loadVar_agg ha (by rw [hlen]; exact hs) (fun j y hy=>by
    rw [List.getElem?_take] at hy
    split at hy
    ·rw [List.getElem?_drop] at hy
     have:=(q2 _ _ hy).1.1
     rwa [show o' + off + j = o' + (off + j) from by omega]
    ·cases hy)
  refine ⟨.agg ((xs.drop off).take n).toArray,by simp [execOp,ho,Instr.loadAt,Instr.sureAddr,e,hrun],?_⟩
  simp only [R]
  refine ⟨_,rfl,(q1.drop off).take n,fun y hy=>?_⟩
  obtain ⟨j,hj⟩:=List.mem_iff_getElem?.1 (List.mem_of_mem_drop (List.mem_of_mem_take hy))
  exact (q2 j y hj).2
theorem zfV {t:TypeId} {x:Operand} {cs:List V} {off:Nat} {c:V} (ho:o.op = .load t x) (hx:ρ x = .elt cs off) (ha:aggT P t = some false)
  (hc:cs[off]? = some c):QV P o ρ bx c none :=
 QV.pure fun a w pr lam h _=>by
  have h1:=h x (by simp [ho,Op.operands])
  rw [hx] at h1
  simp only [R] at h1
  obtain ⟨b,o',e,hr⟩:=h1
  obtain ⟨y,q1,_,q2⟩:=hr.get off c hc
  exact ⟨y,by simp [execOp,ho,Instr.loadAt,Instr.sureAddr,e,run_loadVar_one ha q1.1],q2⟩
theorem zfW {t:TypeId} {x:Operand} {i off n:Nat} {B:Box} (ho:o.op = .load t x) (hx:ρ x = .loc i off) (hb:bx i = some B) (ha:aggT P t = some true) (hs:sizeT P t = some n)
  (hn:off + n <= B.cells.length) (hpl:B.ty < QB):QV P o ρ bx (.agg ((B.cells.drop off).take n)) none :=
 QV.pure fun a w pr lam h hB=>by
  have h1:=h x (by simp [ho,Op.operands])
  rw [hx] at h1
  simp only [R] at h1
  obtain ⟨b,hl,e⟩:=h1
  obtain ⟨b',hl',hat⟩:=hB i B hb
  obtain ⟨cur,hg,q1,q2⟩:=hat.cells hpl
  obtain rfl:b = b':=by simpa [hl] using hl'
  change w.heap[b]? = _ at hg
  have hlen:((cur.toList.drop off).take n).length = n:=by
   have:=q1.length
   simp at this ⊢; omega
  have hrun:(loadVar t ⟨b,off,none⟩).run P w = .ok (.agg ((cur.toList.drop off).take n).toArray) w :=
   run_loadVar_agg ha (by rw [hlen]; exact hs) (fun j y hy=>by
    rw [List.getElem?_take] at hy
    split at hy
    ·rw [List.getElem?_drop] at hy
     simpa [World.cell?,hg] using hy
    ·cases hy)
  refine ⟨.agg ((cur.toList.drop off).take n).toArray,by simp only [execOp,ho,e]; simp [Instr.loadAt,Instr.sureAddr,hrun],?_⟩
  simp only [R]
  exact ⟨_,rfl,(q1.drop off).take n,fun y hy=>q2 y (List.mem_of_mem_drop (List.mem_of_mem_take hy))⟩
theorem zfX {t:TypeId} {x:Operand} {i off:Nat} {B:Box} {c:V} (ho:o.op = .load t x) (hx:ρ x = .loc i off) (hb:bx i = some B) (ha:aggT P t = some false)
  (hc:B.cells[off]? = some c) (hpl:B.ty < QB):QV P o ρ bx c none :=
 QV.pure fun a w pr lam h hB=>by
  have h1:=h x (by simp [ho,Op.operands])
  rw [hx] at h1
  simp only [R] at h1
  obtain ⟨b,hl,e⟩:=h1
  obtain ⟨b',hl',hat⟩:=hB i B hb
  obtain ⟨cur,hg,q1,q2⟩:=hat.cells hpl
  obtain rfl:b = b':=by simpa [hl] using hl'
  change w.heap[b]? = _ at hg
  obtain ⟨y,hy,hr⟩:=q1.get off c hc
  have hcell:w.cell? ⟨b,off,none⟩ = some y:=by simpa [World.cell?,hg] using hy
  exact ⟨y,by simp [execOp,ho,Instr.loadAt,Instr.sureAddr,e,run_loadVar_one ha hcell],hr⟩
end
end Go.Eng
namespace Go.Eng
open Go.RowKit
def zcu (op:BinOp) (k:IntKind) (a b:Int):Int :=
 let x:=BitVec.ofInt k.bits a
 let y:=BitVec.ofInt k.bits b
 match op with
 | .and=>k.wrap ((x &&& y).toNat:Int)
 | .or=>k.wrap ((x ||| y).toNat:Int)
 | .xor=>k.wrap ((x ^^^ y).toNat:Int)
 | _=>k.wrap ((x &&& ~~~y).toNat:Int)
def zsf (op:BinOp) (k:IntKind) (a b:Int):Option V :=
 match op with
 | .add=>some (.int k (k.wrap (a + b)))
 | .sub=>some (.int k (k.wrap (a - b)))
 | .mul=>some (.int k (k.wrap (a * b)))
 | .quo=>if b = 0 then none else some (.int k (k.wrap (a.tdiv b)))
 | .rem=>if b = 0 then none else some (.int k (a.tmod b))
 | .eql=>some (.bool (a == b))
 | .neq=>some (.bool (a != b))
 | .lss=>some (.bool (decide (a < b)))
 | .leq=>some (.bool (decide (a <= b)))
 | .gtr=>some (.bool (decide (a > b)))
 | .geq=>some (.bool (decide (a ≥ b)))
 | .and=>some (.int k (zcu .and k a b))
 | .or=>some (.int k (zcu .or k a b))
 | .xor=>some (.int k (zcu .xor k a b))
 | .andNot=>some (.int k (zcu .andNot k a b))
 | _=>none
def zuX (op:BinOp) (s t:List UInt8):Option V :=
 match op with
 | .add=>if s.length + t.length <= maxLen then some (.str (s++t)) else none
 | .eql=>some (.bool (s == t))
 | .neq=>some (.bool (!(s == t)))
 | .lss=>some (.bool (Op.bytesLess s t))
 | .leq=>some (.bool (Op.bytesLess s t || s == t))
 | .gtr=>some (.bool (!(Op.bytesLess s t || s == t)))
 | .geq=>some (.bool (!Op.bytesLess s t))
 | _=>none
def V.csize:V->Option Nat
 | .agg cs=>some cs.length
 | .any | .un | .tup _=>none
 | _=>some 1
def V.cellsL:V->List V
 | .agg cs=>cs
 | v=>[v]
def qL (n:Nat) (rows:List V):Prop:=∀ r ∈ rows,r.csize = some n
section
variable {P:Program} {o:Oper} {ρ:Operand->V} {bx:Nat->Option Box}
theorem R.csize {E:Env} {v:V} {x:Value} {n:Nat} (h:R E v x) (hn:v.csize = some n):x.cells.size = n:=by
 cases v <;> simp only [V.csize,zyO,reduceCtorEq] at hn <;> simp only [R] at h
 case agg cs=>obtain ⟨xs,rfl,h,_⟩:=h; subst hn; simp [Value.cells,h.length]
 all_goals subst hn
 case int=>subst h; rfl
 case bool=>subst h; rfl
 case str=>obtain ⟨rfl,_⟩:=h; rfl
 case loc=>obtain ⟨b,_,rfl⟩:=h; rfl
 case elt=>obtain ⟨b,o,rfl,_⟩:=h; rfl
 case nilp=>subst h; rfl
 case list=>obtain ⟨b,c,rfl,_⟩:=h; rfl
 case fn=>obtain ⟨b,c,rfl,_⟩:=h; rfl
 case nilfn=>subst h; rfl
 case iface=>obtain ⟨y,rfl,_⟩:=h; rfl
 case nilif=>subst h; rfl
 case mref=>obtain ⟨b,_,rfl⟩:=h; rfl
 case nilm=>subst h; rfl
 case ptr=>obtain ⟨b,rfl⟩:=h; rfl
theorem R.oneCell {E:Env} {v:V} {x:Value} (h:R E v x) (hn:(match v with | .agg _=>false | _=>true) = true) (hc:v.csize = some 1):x.oneCell' = true:=by
 cases v <;> simp only [V.csize,reduceCtorEq] at hc <;> simp only [reduceCtorEq,Bool.false_eq_true] at hn <;> simp only [R] at h
 case int=>subst h; rfl
 case bool=>subst h; rfl
 case str=>obtain ⟨rfl,_⟩:=h; rfl
 case loc=>obtain ⟨b,_,rfl⟩:=h; rfl
 case elt=>obtain ⟨b,o,rfl,_⟩:=h; rfl
 case nilp=>subst h; rfl
 case list=>obtain ⟨b,c,rfl,_⟩:=h; rfl
 case fn=>obtain ⟨b,c,rfl,_⟩:=h; rfl
 case nilfn=>subst h; rfl
 case iface=>obtain ⟨y,rfl,_⟩:=h; rfl
 case nilif=>subst h; rfl
 case mref=>obtain ⟨b,_,rfl⟩:=h; rfl
 case nilm=>subst h; rfl
 case ptr=>obtain ⟨b,rfl⟩:=h; rfl
theorem R.cells {E:Env} {v:V} {x:Value} {n:Nat} (h:R E v x) (hn:v.csize = some n):RL E v.cellsL x.cells.toList/\∀ y ∈ x.cells.toList,y.oneCell' = true:=by
 cases v
 case agg cs =>
  simp only [R] at h
  obtain ⟨xs,rfl,h,h1⟩:=h
  exact ⟨by simpa [V.cellsL,Value.cells] using h,by simpa [Value.cells] using h1⟩
 case any=>simp [V.csize] at hn
 case un=>simp [V.csize] at hn
 case tup=>simp [V.csize] at hn
 all_goals
  have hc:x.cells = #[x]:=by
   have:=h
   simp only [R] at this
   first
    | (subst this; rfl)
    | (obtain ⟨rfl,_⟩:=this; rfl)
    | (obtain ⟨_,_,rfl⟩:=this; rfl)
    | (obtain ⟨_,_,rfl,_⟩:=this; rfl)
    | (obtain ⟨_,rfl,_⟩:=this; rfl)
  have h1:=R.oneCell h rfl rfl
  rw [hc]
  exact ⟨by simp only [V.cellsL,RL]; exact ⟨x,[],rfl,h,rfl⟩,by simpa using h1⟩
theorem zuY (P:Program) (w:World) (k:IntKind) (a b:Int):(Op.intBits .and k a b).run P w = .ok (.int k (zcu .and k a b)) w:=rfl
theorem zwf (P:Program) (w:World) (k:IntKind) (a b:Int):(Op.intBits .or k a b).run P w = .ok (.int k (zcu .or k a b)) w:=rfl
theorem zuZ (P:Program) (w:World) (k:IntKind) (a b:Int):(Op.intBits .xor k a b).run P w = .ok (.int k (zcu .xor k a b)) w:=rfl
theorem zn4 (P:Program) (w:World) (k:IntKind) (a b:Int):(Op.intBits .andNot k a b).run P w = .ok (.int k (zcu .andNot k a b)) w:=rfl
def shI (op:BinOp) (k:IntKind) (a b:Int):Option V :=
 if b < 0 then none else match op with
 | .shl=>some (.int k (k.wrap (a * 2 ^ (min b.toNat k.bits))))
 | .shr=>some (.int k (a.fdiv (2 ^ (min b.toNat k.bits))))
 | _=>none
theorem zi9 {op:BinOp} {xT yT:TypeId} {x y:Operand} {k k':IntKind} {a b:Int} {v:V} (ho:o.op = .binOp op xT x y yT) (hx:ρ x = .int k a) (hy:ρ y = .int k' b)
  (hv:shI op k a b = some v):QV P o ρ bx v none :=
 QV.pure fun ac w pr lam h _=>by
  have h1:=h x (by simp [ho,Op.operands])
  have h2:=h y (by simp [ho,Op.operands])
  rw [hx] at h1; rw [hy] at h2
  simp only [R] at h1 h2
  unfold shI at hv
  split at hv
  ·cases hv
  ·rename_i hb
   cases op <;> simp only [zyO,reduceCtorEq] at hv
   all_goals subst hv
   all_goals exact ⟨_,by simp [execOp,ho,h1,h2,eqGuard,binOp,Op.shift,hb]; rfl,by simp [R]⟩
theorem zn5 {op:BinOp} {xT yT:TypeId} {x y:Operand} {k:IntKind} {a b:Int} {v:V} (ho:o.op = .binOp op xT x y yT) (hx:ρ x = .int k a) (hy:ρ y = .int k b)
  (hv:zsf op k a b = some v):QV P o ρ bx v none :=
 QV.pure fun ac w pr lam h _=>by
  have h1:=h x (by simp [ho,Op.operands])
  have h2:=h y (by simp [ho,Op.operands])
  rw [hx] at h1; rw [hy] at h2
  simp only [R] at h1 h2
  cases op <;> simp only [zsf,zyO,reduceCtorEq] at hv
  case quo =>
   split at hv
   ·cases hv
   ·rename_i hb
    simp only [zyO] at hv; subst hv
    exact ⟨_,by simp [execOp,ho,h1,h2,eqGuard,binOp,Op.intDiv,hb]; rfl,by simp [R]⟩
  case rem =>
   split at hv
   ·cases hv
   ·rename_i hb
    simp only [zyO] at hv; subst hv
    exact ⟨_,by simp [execOp,ho,h1,h2,eqGuard,binOp,Op.intDiv,hb]; rfl,by simp [R]⟩
  all_goals subst hv
  case and=>exact ⟨_,by simp [execOp,ho,h1,h2,eqGuard,binOp,zuY]; rfl,by simp [R]⟩
  case or=>exact ⟨_,by simp [execOp,ho,h1,h2,eqGuard,binOp,zwf]; rfl,by simp [R]⟩
  case xor=>exact ⟨_,by simp [execOp,ho,h1,h2,eqGuard,binOp,zuZ]; rfl,by simp [R]⟩
  case andNot=>exact ⟨_,by simp [execOp,ho,h1,h2,eqGuard,binOp,zn4]; rfl,by simp [R]⟩
  all_goals exact ⟨_,by simp [execOp,ho,h1,h2,eqGuard,binOp,Op.intArith,Op.intCmp]; rfl,by simp [R]⟩
theorem zj7 (l:List UInt8):(ByteArray.mk l.toArray).toList = l:=by rw [ByteArray.toList_eq]
theorem zn6 {op:BinOp} {xT yT:TypeId} {x y:Operand} {s t:List UInt8} {v:V} (ho:o.op = .binOp op xT x y yT) (hx:ρ x = .str s) (hy:ρ y = .str t)
  (hv:zuX op s t = some v):QV P o ρ bx v none :=
 QV.pure fun ac w pr lam h _=>by
  have h1:=h x (by simp [ho,Op.operands])
  have h2:=h y (by simp [ho,Op.operands])
  rw [hx] at h1; rw [hy] at h2
  simp only [R] at h1 h2
  obtain ⟨h1,l1⟩:=h1
  obtain ⟨h2,l2⟩:=h2
  cases op <;> simp only [zuX,zyO,reduceCtorEq] at hv
  case add =>
   split at hv
   ·rename_i hl
    simp only [zyO] at hv; subst hv
    have hs:¬ ((((ByteArray.mk s.toArray).size + (ByteArray.mk t.toArray).size:Nat):Int) > IntKind.i64.max):=by
     show ¬ (((s.toArray.size + t.toArray.size:Nat):Int) > 9223372036854775807)
     simp only [maxLen] at hl
     simp; omega
    refine ⟨.string ⟨(s++t).toArray⟩,?_,?_⟩
    ·simp only [execOp,ho,h1,h2]
     simp [eqGuard,binOp,Op.stringOp]
     rw [if_neg (by simpa using hs)]
     have:(ByteArray.mk s.toArray++ByteArray.mk t.toArray) = ByteArray.mk (s.toArray++t.toArray):=by
      apply ByteArray.ext
      simp
     simp [this]
    ·simpa [R] using hl
   ·cases hv
  all_goals subst hv
  all_goals exact ⟨_,by simp [execOp,ho,h1,h2,eqGuard,binOp,Op.stringOp,zj7]; rfl,by simp [R]⟩
theorem zff {op:BinOp} {xT yT:TypeId} {x y:Operand} {s t:Bool} {v:V} (ho:o.op = .binOp op xT x y yT) (hx:ρ x = .bool s) (hy:ρ y = .bool t)
  (hT:P.underlying xT = some .bool) (hv:(match op with | .eql=>some (V.bool (s == t)) | .neq=>some (V.bool (!(s == t))) | _=>none) = some v):QV P o ρ bx v none :=
 QV.pure fun ac w pr lam h _=>by
  have h1:=h x (by simp [ho,Op.operands])
  have h2:=h y (by simp [ho,Op.operands])
  rw [hx] at h1; rw [hy] at h2
  simp only [R] at h1 h2
  have he:(Op.equal xT (.bool s) (.bool t)).run P w = .ok (s == t) w:=run_equalIn_bool' w 9999 xT s t hT
  cases op <;> simp only [zyO,reduceCtorEq] at hv
  all_goals subst hv
  all_goals exact ⟨_,by simp [execOp,ho,h1,h2,eqGuard,binOp,he]; rfl,by simp [R]⟩
theorem zwg {xT:TypeId} {x:Operand} {s:Bool} (ho:o.op = .unOp .not xT x) (hx:ρ x = .bool s):QV P o ρ bx (.bool (!s)) none :=
 QV.pure fun ac w pr lam h _=>by
  have h1:=h x (by simp [ho,Op.operands])
  rw [hx] at h1
  simp only [R] at h1
  exact ⟨_,by simp [execOp,ho,h1,Op.unary]; rfl,by simp [R]⟩
theorem zwh {xT:TypeId} {x:Operand} {k:IntKind} {n:Int} (ho:o.op = .unOp .neg xT x) (hx:ρ x = .int k n):QV P o ρ bx (.int k (k.wrap (0 - n))) none :=
 QV.pure fun ac w pr lam h _=>by
  have h1:=h x (by simp [ho,Op.operands])
  rw [hx] at h1
  simp only [R] at h1
  exact ⟨.int k (k.wrap (0 - n)),by simp [execOp,ho,h1,Op.unary,Op.intArith],by simp [R]⟩
theorem zl5 {s d:TypeId} {x:Operand} {k k':IntKind} {n:Int} {ds:TypeDesc} (ho:o.op = .convert s d x) (hx:ρ x = .int k n) (hs:P.underlying s = some ds) (hd:P.underlying d = some (.int k')) :
  QV P o ρ bx (.int k' (k'.wrap n)) none :=
 QV.pure fun ac w pr lam h _=>by
  have h1:=h x (by simp [ho,Op.operands])
  rw [hx] at h1
  simp only [R] at h1
  exact ⟨.int k' (k'.wrap n),by simp [execOp,ho,h1,convert,run_underlying hs,run_underlying hd,Conv.intToInt],by simp [R]⟩
theorem zl6 {s d:TypeId} {x:Operand} {l:List UInt8} (ho:o.op = .convert s d x) (hx:ρ x = .str l) (hs:P.underlying s = some .string) (hd:P.underlying d = some .string) :
  QV P o ρ bx (.str l) none :=
 QV.pure fun ac w pr lam h _=>by
  have h1:=h x (by simp [ho,Op.operands])
  rw [hx] at h1
  have h1':=h1
  simp only [R] at h1
  obtain ⟨h1,hl⟩:=h1
  exact ⟨_,by simp [execOp,ho,h1,convert,run_underlying hs,run_underlying hd]; rfl,by simp [R,hl]⟩
theorem zj8 {t:TypeId} {x:Operand} {d:TypeDesc} (ho:o.op = .makeInterface t x) (ht:P.underlying t = some d) (hd:(match d with | .interface _=>false | _=>true) = true) :
  QV P o ρ bx (.iface t (ρ x)) none :=
 QV.pure fun ac w pr lam h _=>by
  have h1:=h x (by simp [ho,Op.operands])
  refine ⟨.iface t (ac.eval x),?_,by simp only [R]; exact ⟨_,rfl,h1⟩⟩
  simp only [execOp,ho,Instr.makeInterface,Sem.run_bind,run_underlying ht,Result.andThen_ok]
  cases d <;> first | (simp at hd; done) | simp
theorem zl7 {f:Fn} {first cap:Array Operand} (ho:o.op = .makeFunc f first cap):QV P o ρ bx (.fn f (first.toList.map ρ) (cap.toList.map ρ)) none :=
 QV.pure fun ac w pr lam h _=>by
  have key:∀ (l:List Operand),(∀ x ∈ l,x ∈ o.op.operands)->RL ⟨w,pr,lam⟩ (l.map ρ) (l.map ac.eval):=by
   intro l hl
   refine RL.of_get (by simp) fun i c x hc hx=>?_
   rw [List.getElem?_map] at hc hx
   cases hi:l[i]? with
   | none=>rw [hi] at hc; simp at hc
   | some y =>
    rw [hi] at hc hx
    simp only [Option.map_some,zyO] at hc hx
    subst hc; subst hx
    exact h y (hl y (zyu hi))
  refine ⟨.func f (first.map ac.eval) (cap.map ac.eval),by simp [execOp,ho,Instr.makeFunc],?_⟩
  simp only [R]
  refine ⟨first.toList.map ac.eval,cap.toList.map ac.eval,by rw [<- Array.toList_map,<- Array.toList_map],key _ ?_,key _ ?_⟩
  ·intro x hx; simp [ho,Op.operands]; exact .inl (by simpa using hx)
  ·intro x hx; simp [ho,Op.operands]; exact .inr (by simpa using hx)
theorem zn7 {x:Operand} {i:Nat} {vs:List V} {v:V} (ho:o.op = .extract x i) (hx:ρ x = .tup vs) (hv:vs[i]? = some v):QV P o ρ bx v none :=
 QV.pure fun ac w pr lam h _=>by
  have h1:=h x (by simp [ho,Op.operands])
  rw [hx] at h1
  simp only [R] at h1
  obtain ⟨xs,e,hl⟩:=h1
  obtain ⟨y,hy,hr⟩:=hl.get i v hv
  exact ⟨y,by simp [execOp,ho,e,Instr.extract,hy],hr⟩
theorem zfY {x:Operand} {i off:Nat} (ho:o.op = .nilCheck x) (hx:ρ x = .loc i off):QV P o ρ bx (.loc i off) none :=
 QV.pure fun ac w pr lam h _=>by
  have h1:=h x (by simp [ho,Op.operands])
  rw [hx] at h1
  have h2:=h1
  simp only [R] at h1
  obtain ⟨b,_,e⟩:=h1
  exact ⟨ac.eval x,by simp [execOp,ho,e],h2⟩
theorem zfZ {x:Operand} {cs:List V} {off:Nat} (ho:o.op = .nilCheck x) (hx:ρ x = .elt cs off):QV P o ρ bx (.elt cs off) none :=
 QV.pure fun ac w pr lam h _=>by
  have h1:=h x (by simp [ho,Op.operands])
  rw [hx] at h1
  have h2:=h1
  simp only [R] at h1
  obtain ⟨b,_,e,_⟩:=h1
  exact ⟨ac.eval x,by simp [execOp,ho,e],h2⟩
def fieldT (P:Program) (s:TypeId) (i:Nat):Option (Nat × TypeId) :=
 match P.underlying s with
 | some (.struct fs)=>(fs[i]?).map fun f=>(f.offset,f.type)
 | _=>none
theorem fieldT_spec {s:TypeId} {i off:Nat} {t:TypeId} (h:fieldT P s i = some (off,t)):∃ fs f,P.underlying s = some (.struct fs)/\fs[i]? = some f/\f.offset = off/\f.type = t:=by
 unfold fieldT at h
 split at h
 ·rename_i fs hu
  cases hf:fs[i]? with
  | none=>rw [hf] at h; simp at h
  | some f=>rw [hf] at h; simp at h; exact ⟨fs,f,hu,hf,h.1,h.2⟩
 ·cases h
theorem run_fieldAt {s:TypeId} {i off n:Nat} {t:TypeId} (hf:fieldT P s i = some (off,t)) (hs:sizeT P t = some n) (hn:n ≠ 0) (b a:Nat) (w:World) :
  (Instr.fieldAt s (.pointer (some ⟨b,a,none⟩)) i).run P w = .ok (.pointer (some ⟨b,a + off,none⟩)) w:=by
 obtain ⟨fs,f,h1,h2,rfl,rfl⟩:=fieldT_spec hf
 simp [Instr.fieldAt,run_underlying h1,h2,Instr.sureAddr,fieldPlace,run_sizeOf hs,hn,Addr.add_none]
theorem zek {s:TypeId} {x:Operand} {fi i a off n:Nat} {t:TypeId} (ho:o.op = .fieldAddr s x fi) (hx:ρ x = .loc i a) (hf:fieldT P s fi = some (off,t)) (hs:sizeT P t = some n) (hn:n ≠ 0) :
  QV P o ρ bx (.loc i (a + off)) none :=
 QV.pure fun ac w pr lam h _=>by
  have h1:=h x (by simp [ho,Op.operands])
  rw [hx] at h1
  simp only [R] at h1
  obtain ⟨b,hl,e⟩:=h1
  exact ⟨_,by simp [execOp,ho,e,run_fieldAt hf hs hn]; rfl,by simp only [R]; exact ⟨b,hl,rfl⟩⟩
theorem zel {s:TypeId} {x:Operand} {fi a off n:Nat} {cs:List V} {t:TypeId} (ho:o.op = .fieldAddr s x fi) (hx:ρ x = .elt cs a) (hf:fieldT P s fi = some (off,t)) (hs:sizeT P t = some n) (hn:n ≠ 0) :
  QV P o ρ bx (.elt cs (a + off)) none :=
 QV.pure fun ac w pr lam h _=>by
  have h1:=h x (by simp [ho,Op.operands])
  rw [hx] at h1
  simp only [R] at h1
  obtain ⟨b,o',e,hc⟩:=h1
  exact ⟨_,by simp [execOp,ho,e,run_fieldAt hf hs hn]; rfl,by simp only [R]; exact ⟨b,o',by rw [Nat.add_assoc],hc⟩⟩
theorem RR.get {E:Env} {b k:Nat}:∀ {rows:List V} {o:Nat},RR E b k o rows->∀ (i:Nat) (r:V),rows[i]? = some r ->
  ∃ y:Value,R E r y/\y.cells.size = k/\∀ j z,y.cells[j]? = some z->E.at b (o + i * k + j) z/\z.oneCell' = true
 | [],_,_,i,c,hc=>by simp at hc
 | r :: rs,o,h,i,d,hd=>by
  simp only [RR] at h
  obtain ⟨⟨y,h1,h2,h3⟩,h⟩:=h
  cases i with
  | zero=>simp at hd; subst hd; exact ⟨y,h1,h2,by simpa using h3⟩
  | succ i =>
   simp at hd
   obtain ⟨x,q1,q2,q3⟩:=RR.get h i d hd
   refine ⟨x,q1,q2,fun j z hz=>?_⟩
   have:=q3 j z hz
   rwa [show o + (i + 1) * k + j = o + k + i * k + j from by rw [Nat.add_mul]; omega]
theorem RR.of_get {E:Env} {b k:Nat}:∀ {rows:List V} {o:Nat},(∀ (i:Nat) (r:V),rows[i]? = some r ->
  ∃ y:Value,R E r y/\y.cells.size = k/\∀ j z,y.cells[j]? = some z->E.at b (o + i * k + j) z/\z.oneCell' = true)->RR E b k o rows
 | [],_,_=>by simp [RR]
 | r :: rs,o,h=>by
  simp only [RR]
  obtain ⟨y,h1,h2,h3⟩:=h 0 r (by simp)
  refine ⟨⟨y,h1,h2,by simpa using h3⟩,RR.of_get fun i d hd=>?_⟩
  obtain ⟨y,h1,h2,h3⟩:=h (i + 1) d (by simpa using hd)
  refine ⟨y,h1,h2,fun j z hz=>?_⟩
  have:=h3 j z hz
  rwa [show o + (i + 1) * k + j = o + k + i * k + j from by rw [Nat.add_mul]; omega] at this
theorem RR.size {E:Env} {b k o n:Nat} {rows:List V} (h:RR E b k o rows) (hr:qL n rows) {r:V} (hm:r ∈ rows):k = n:=by
 obtain ⟨i,hi⟩:=List.mem_iff_getElem?.1 hm
 obtain ⟨y,h1,h2,_⟩:=h.get i r hi
 rw [<- h2]
 exact h1.csize (hr r hm)
theorem zgH {E:Env} {b k o:Nat} {r:V} {y:Value} {n:Nat} (h1:R E r y) (hn:r.csize = some n) (h3:∀ j z,y.cells[j]? = some z->E.at b (o + j) z/\z.oneCell' = true):RC E b o r.cellsL:=by
 obtain ⟨q1,_⟩:=h1.cells hn
 exact RC.of_vals q1 fun j x hx=>h3 j x (by simpa using hx)
theorem zdn {t e:TypeId} {x ix:Operand} {rows:List V} {k:IntKind} {i:Int} {n:Nat} {r:V} (ho:o.op = .indexAddr t x ix) (hx:ρ x = .list rows) (hi:ρ ix = .int k i)
  (ht:P.underlying t = some (.slice e)) (hs:sizeT P e = some n) (hrows:qL n rows) (h0:0 <= i) (hr:rows[i.toNat]? = some r):QV P o ρ bx (.elt r.cellsL 0) none :=
 QV.pure fun ac w pr lam h _=>by
  have h1:=h x (by simp [ho,Op.operands])
  have h2:=h ix (by simp [ho,Op.operands])
  rw [hx] at h1; rw [hi] at h2
  simp only [R] at h1 h2
  obtain ⟨base,cap,e1,hc,hm,hb⟩:=h1
  have hlt:i.toNat < rows.length:=(List.getElem?_eq_some_iff.1 hr).1
  rcases hb with ⟨hb,_⟩ | ⟨b,o',k',rfl,hb⟩
  ·subst hb; simp at hlt
  ·have hmem:r ∈ rows:=zyu hr
   obtain rfl:=hb.size hrows hmem
   obtain ⟨y,q1,q2,q3⟩:=hb.get _ r hr
   have hcond:0 <= i/\i < (rows.length:Int):=⟨h0,by omega⟩
   refine ⟨.pointer (some ⟨b,o' + i.toNat * k',none⟩),?_,?_⟩
   ·simp only [execOp,ho,e1,h2]
    simp [Instr.indexAt,asIntOf,run_underlying ht,hcond,run_sizeOf hs,Addr.add_none]
   ·simp only [R]
    exact ⟨b,o' + i.toNat * k',rfl,zgH (k:=k') q1 (hrows r hmem) q3⟩
theorem zem {t e:TypeId} {x ix:Operand} {j a:Nat} {k:IntKind} {i:Int} {n len:Nat} (ho:o.op = .indexAddr t x ix) (hx:ρ x = .loc j a) (hi:ρ ix = .int k i)
  (ht:P.underlying t = some (.array len e)) (hs:sizeT P e = some n) (h0:0 <= i) (h1:i < len):QV P o ρ bx (.loc j (a + i.toNat * n)) none :=
 QV.pure fun ac w pr lam h _=>by
  have q1:=h x (by simp [ho,Op.operands])
  have q2:=h ix (by simp [ho,Op.operands])
  rw [hx] at q1; rw [hi] at q2
  simp only [R] at q1 q2
  obtain ⟨b,hl,e1⟩:=q1
  refine ⟨.pointer (some ⟨b,a + i.toNat * n,none⟩),?_,by simp only [R]; exact ⟨b,hl,rfl⟩⟩
  simp only [execOp,ho,e1,q2]
  simp [Instr.indexAt,asIntOf,run_underlying ht,Instr.sureAddr,h0,h1,run_sizeOf hs,Addr.add_none]
theorem zen {t e:TypeId} {x ix:Operand} {cs:List V} {a:Nat} {k:IntKind} {i:Int} {n len:Nat} (ho:o.op = .indexAddr t x ix) (hx:ρ x = .elt cs a) (hi:ρ ix = .int k i)
  (ht:P.underlying t = some (.array len e)) (hs:sizeT P e = some n) (h0:0 <= i) (h1:i < len):QV P o ρ bx (.elt cs (a + i.toNat * n)) none :=
 QV.pure fun ac w pr lam h _=>by
  have q1:=h x (by simp [ho,Op.operands])
  have q2:=h ix (by simp [ho,Op.operands])
  rw [hx] at q1; rw [hi] at q2
  simp only [R] at q1 q2
  obtain ⟨b,o',e1,hc⟩:=q1
  refine ⟨.pointer (some ⟨b,o' + a + i.toNat * n,none⟩),?_,by simp only [R]; exact ⟨b,o',by rw [Nat.add_assoc],hc⟩⟩
  simp only [execOp,ho,e1,q2]
  simp [Instr.indexAt,asIntOf,run_underlying ht,Instr.sureAddr,h0,h1,run_sizeOf hs,Addr.add_none]
theorem zj9 {t:TypeId} {x ix:Operand} {s:List UInt8} {k:IntKind} {i:Int} {c:UInt8} (ho:o.op = .index t x ix) (hx:ρ x = .str s) (hi:ρ ix = .int k i)
  (ht:P.underlying t = some .string) (h0:0 <= i) (hc:s[i.toNat]? = some c):QV P o ρ bx (.int .u8 c.toNat) none :=
 QV.pure fun ac w pr lam h _=>by
  have q1:=h x (by simp [ho,Op.operands])
  have q2:=h ix (by simp [ho,Op.operands])
  rw [hx] at q1; rw [hi] at q2
  simp only [R] at q1 q2
  obtain ⟨e1,_⟩:=q1
  have hlt:i.toNat < s.length:=(List.getElem?_eq_some_iff.1 hc).1
  have hget:(ByteArray.mk s.toArray)[i.toNat]? = some c:=by
   have h2:i.toNat < (ByteArray.mk s.toArray).size:=by simpa [ByteArray.size] using hlt
   have h3:=(List.getElem?_eq_some_iff.1 hc).2
   rw [getElem?_pos (ByteArray.mk s.toArray) i.toNat h2]
   simp only [zyO]
   rw [<- h3]
   rfl
  refine ⟨.int .u8 c.toNat,?_,by simp [R]⟩
  simp only [execOp,ho,e1,q2]
  simp [Instr.index,asIntOf,run_underlying ht,h0,hget]
end
end Go.Eng
namespace Go.Eng
open Go.RowKit
section
variable {P:Program} {o:Oper} {ρ:Operand->V} {bx:Nat->Option Box}
theorem RR.slice {E:Env} {b k o l h:Nat} {rows:List V} (hr:RR E b k o rows):RR E b k (o + l * k) ((rows.take h).drop l):=by
 refine RR.of_get fun i r hi=>?_
 rw [List.getElem?_drop,List.getElem?_take] at hi
 split at hi
 ·obtain ⟨y,h1,h2,h3⟩:=hr.get _ r hi
  refine ⟨y,h1,h2,fun j z hz=>?_⟩
  have:=h3 j z hz
  rwa [show o + (l + i) * k + j = o + l * k + i * k + j from by rw [Nat.add_mul]; omega] at this
 ·cases hi
def zac (ρ:Operand->V) (x:Option Operand) (d:Nat):Option Nat :=
 match x with
 | none=>some d
 | some x=>match ρ x with
  | .int _ i=>if 0 <= i then some i.toNat else none
  | _=>none
theorem run_sliceBound {v:Value} {k:IntKind} {i:Int} {y n:Nat} (hv:v = .int k i) (h0:0 <= i) (hn:i.toNat = n) (hy:n <= y) (c:BoundsCode) (w:World):(Instr.sliceBound v y c).run P w = .ok n w:=by
 subst hv
 have:0 <= i/\i <= (y:Int):=⟨h0,by omega⟩
 simp [Instr.sliceBound,asIntOf,this,hn]
theorem ZQ {x:Operand} {d n:Nat} (h:zac ρ (some x) d = some n):∃ k i,ρ x = .int k i/\0 <= i/\i.toNat = n:=by
 simp only [zac] at h
 split at h
 ·rename_i k i hx
  split at h
  ·rename_i h0; simp at h; exact ⟨k,i,hx,h0,h⟩
  ·cases h
 ·cases h
theorem ziv {t e:TypeId} {x:Operand} {lo hi:Option Operand} {rows:List V} {l h n:Nat} (ho:o.op = .slice t x lo hi none) (hx:ρ x = .list rows)
  (ht:P.underlying t = some (.slice e)) (hs:sizeT P e = some n) (hrows:qL n rows) (hl:zac ρ lo 0 = some l) (hh:zac ρ hi rows.length = some h) (hlh:l <= h) (hhl:h <= rows.length) :
  QV P o ρ bx (.list ((rows.take h).drop l)) none :=
 QV.pure fun ac w pr lam hop _=>by
  have q1:=hop x (by simp [ho,Op.operands])
  rw [hx] at q1
  simp only [R] at q1
  obtain ⟨base,cap,e1,hc,hm,hb⟩:=q1
  have hb1:(match lo.map ac.eval with | some v=>Instr.sliceBound v h .sliceB | none=>Pure.pure 0).run P w = .ok l w:=by
   cases lo with
   | none=>simp only [zac,zyO] at hl; subst hl; simp
   | some y =>
    obtain ⟨k,i,hy,h0,hn⟩:=ZQ hl
    have q:=hop y (by simp [ho,Op.operands])
    rw [hy] at q; simp only [R] at q
    exact run_sliceBound q h0 hn hlh _ w
  have hb2:(match hi.map ac.eval with | some v=>Instr.sliceBound v cap .sliceAcap | none=>Pure.pure rows.length).run P w = .ok h w:=by
   cases hi with
   | none=>simp only [zac,zyO] at hh; subst hh; simp
   | some y =>
    obtain ⟨k,i,hy,h0,hn⟩:=ZQ hh
    have q:=hop y (by simp [ho,Op.operands])
    rw [hy] at q; simp only [R] at q
    exact run_sliceBound q h0 hn (Nat.le_trans hhl hc) _ w
  have hbs:(Instr.sliceBounds true rows.length cap (lo.map ac.eval) (hi.map ac.eval) none).run P w = .ok (l,h,cap) w:=by
   cases lo <;> cases hi <;> simp only [Option.map_some,Option.map_none,Sem.run_pure,Result.ok.injEq,and_true] at hb1 hb2 <;>
    simp [Instr.sliceBounds,hb1,hb2]
  refine ⟨.slice (if cap = l then base else base.map (·.add (l * n))) (h - l) (cap - l),?_,?_⟩
  ·simp only [execOp,ho,e1]
   simp [Instr.sliceAt,run_underlying ht,Instr.slice,hbs,run_sizeOf hs]
  ·simp only [R]
   have hlen:((rows.take h).drop l).length = h - l:=by simp; omega
   refine ⟨_,cap - l,by rw [hlen],by rw [hlen]; omega,by omega,?_⟩
   rcases hb with ⟨rfl,rfl⟩ | ⟨b,o',k,rfl,hb⟩
   ·left
    simp at hhl; subst hhl
    simp at hlh; subst hlh
    simp
   ·right
    by_cases hcl:cap = l
    ·have:(rows.take h).drop l = []:=by
      apply zyR
      rw [hlen]; omega
     rw [this,if_pos hcl]
     exact ⟨b,o',k,rfl,by simp [RR]⟩
    ·rw [if_neg hcl]
     refine ⟨b,o' + l * n,k,by simp [Addr.add_none],?_⟩
     rcases rows with _ | ⟨r,rs⟩
     ·simp [RR]
     ·obtain rfl:=hb.size hrows (r:=r) (by simp)
      exact hb.slice
def YZ (n:Nat):Nat->List V->List V
 | 0,_=>[]
 | k + 1,cs=>.agg (cs.take n) :: YZ n k (cs.drop n)
theorem zad (n:Nat):∀ (k:Nat) (cs:List V),(YZ n k cs).length = k
 | 0,_=>rfl
 | k + 1,cs=>by simp [YZ,zad n k]
theorem zgI {n:Nat}:∀ {k:Nat} {cs:List V} {i:Nat} {r:V},(YZ n k cs)[i]? = some r->i < k/\r = .agg ((cs.drop (i * n)).take n)
 | 0,_,i,r,h=>by simp [YZ] at h
 | k + 1,cs,0,r,h=>by simp [YZ] at h; exact ⟨by omega,by simp [h]⟩
 | k + 1,cs,i + 1,r,h=>by
  simp only [YZ,List.getElem?_cons_succ] at h
  obtain ⟨h1,h2⟩:=zgI h
  rw [List.drop_drop] at h2
  exact ⟨by omega,by rw [h2]; congr 2; rw [Nat.add_mul]; congr 1; omega⟩
theorem zka {t e:TypeId} {x:Operand} {cs:List V} {off k n:Nat} (ho:o.op = .slice t x none none none) (hx:ρ x = .elt cs off)
  (ht:P.underlying t = some (.array k e)) (hs:sizeT P e = some n) (hk:off + k * n <= cs.length) (hm:k <= maxLen) (hk0:0 < k):QV P o ρ bx (.list (YZ n k (cs.drop off))) none :=
 QV.pure fun ac w pr lam hop _=>by
  have q1:=hop x (by simp [ho,Op.operands])
  rw [hx] at q1
  simp only [R] at q1
  obtain ⟨b,o',e1,hc⟩:=q1
  refine ⟨.slice (some ⟨b,o' + off,none⟩) k k,?_,?_⟩
  ·have hk1:¬ k = 0:=by omega
   simp only [execOp,ho,e1]
   simp [Instr.sliceAt,run_underlying ht,Instr.sureAddr,Instr.sliceBounds,run_sizeOf hs,hk1,Addr.add_none]
  ·simp only [R]
   refine ⟨_,k,by rw [zad],by rw [zad]; exact zyF _,hm,.inr ⟨b,o' + off,n,rfl,?_⟩⟩
   obtain ⟨xs,v1,v2⟩:=hc.vals
   have hl:=v1.length
   refine RR.of_get fun i r hi=>?_
   obtain ⟨h1,rfl⟩:=zgI hi
   have hin:i * n + n <= k * n:=by
    have:=Nat.mul_le_mul_right n (show i + 1 <= k from h1)
    rw [Nat.add_mul] at this
    omega
   have hrl:RL _ (((cs.drop off).drop (i * n)).take n) (((xs.drop off).drop (i * n)).take n):=((v1.drop off).drop (i * n)).take n
   have hone:∀ y ∈ ((xs.drop off).drop (i * n)).take n,y.oneCell' = true:=fun y hy=>by
    have h2:=List.mem_of_mem_drop (List.mem_of_mem_drop (List.mem_of_mem_take hy))
    obtain ⟨j,hj,rfl⟩:=List.mem_iff_getElem.1 h2
    exact (v2 j _ (zys hj)).2
   refine ⟨.agg (((xs.drop off).drop (i * n)).take n).toArray,by simp only [R]; exact ⟨_,rfl,hrl,hone⟩,?_,fun j z hz=>?_⟩
   ·simp only [Value.cells,List.size_toArray,List.length_take,List.length_drop]
    omega
   ·simp only [Value.cells,List.getElem?_toArray,List.getElem?_take] at hz
    split at hz
    ·rw [List.drop_drop,List.getElem?_drop] at hz
     have:=v2 _ z hz
     rw [show o' + (off + i * n + j) = o' + off + i * n + j from by omega] at this
     exact this
    ·cases hz
theorem ziw {t e:TypeId} {x:Operand} {cs:List V} {off k:Nat} (ho:o.op = .slice t x none none none) (hx:ρ x = .elt cs off)
  (ht:P.underlying t = some (.array k e)) (hs:sizeT P e = some 1) (hk:off + k <= cs.length) (hm:k <= maxLen) (hk0:0 < k):QV P o ρ bx (.list ((cs.drop off).take k)) none :=
 QV.pure fun ac w pr lam hop _=>by
  have q1:=hop x (by simp [ho,Op.operands])
  rw [hx] at q1
  simp only [R] at q1
  obtain ⟨b,o',e1,hc⟩:=q1
  have hlen:((cs.drop off).take k).length = k:=by rw [List.length_take,List.length_drop]; omega
  refine ⟨.slice (some ⟨b,o' + off,none⟩) k k,?_,?_⟩
  ·have hk1:¬ k = 0:=by omega
   simp only [execOp,ho,e1]
   simp [Instr.sliceAt,run_underlying ht,Instr.sureAddr,Instr.sliceBounds,run_sizeOf hs,hk1,Addr.add_none]
  ·simp only [R]
   refine ⟨_,k,by rw [hlen],by rw [hlen]; exact zyF _,hm,.inr ⟨b,o' + off,1,rfl,RR.of_get fun i r hi=>?_⟩⟩
   rw [List.getElem?_take] at hi
   split at hi
   ·rw [List.getElem?_drop] at hi
    obtain ⟨y,h1,h2,h3⟩:=hc.get _ r hi
    have hy:y.cells = #[y]:=by cases y <;> first | rfl | cases h2
    refine ⟨y,h3,by rw [hy]; rfl,fun j z hz=>?_⟩
    rw [hy] at hz
    match j,hz with
    | 0,hz =>
     simp at hz; subst hz
     exact ⟨by rw [show o' + off + i * 1 + 0 = o' + (off + i) from by omega]; exact h1,h2⟩
    | j + 1,hz=>simp at hz
   ·cases hi
theorem zgJ {t e e':TypeId} {x:Operand} {lo:Option Operand} {hi mx:Operand} {rows:List V} {l h n:Nat} {c0:Nat} (hc0:c0 = 1 ∨ (c0 = 0/\h = 0)) (ho:o.op = .slice t x lo (some hi) (some mx)) (hx:ρ x = .list rows)
  (ht:P.underlying t = some (.slice e)) (hs:sizeT P e = some n) (hrows:qL n rows) (hl:zac ρ lo 0 = some l) (hh:zac ρ (some hi) rows.length = some h) (hm':zac ρ (some mx) rows.length = some h) (hlh:l <= h) (hhl:h <= rows.length) :
  QV P o ρ bx (.list ((rows.take h).drop l)) (some (c0,e')) :=
 QV.of_run fun ac w pr lam hlt hop _=>by
  have q1:=hop x (by simp [ho,Op.operands])
  rw [hx] at q1
  simp only [R] at q1
  obtain ⟨base,cap,e1,hc,hm,hb⟩:=q1
  obtain ⟨k2,i2,hy2,h02,hn2⟩:=ZQ hh
  obtain ⟨k3,i3,hy3,h03,hn3⟩:=ZQ hm'
  have q2:=hop hi (by simp [ho,Op.operands])
  have q3:=hop mx (by simp [ho,Op.operands])
  rw [hy2] at q2; rw [hy3] at q3
  simp only [R] at q2 q3
  have hb1:(match lo.map ac.eval with | some v=>Instr.sliceBound v h .slice3C | none=>Pure.pure 0).run P w = .ok l w:=by
   cases lo with
   | none=>simp only [zac,zyO] at hl; subst hl; simp
   | some y =>
    obtain ⟨k,i,hy,h0,hn⟩:=ZQ hl
    have q:=hop y (by simp [ho,Op.operands])
    rw [hy] at q; simp only [R] at q
    exact run_sliceBound q h0 hn hlh _ w
  have hb2:=run_sliceBound (P:=P) q2 h02 hn2 (zyF h) .slice3B w
  have hb3:=run_sliceBound (P:=P) q3 h03 hn3 (Nat.le_trans hhl hc) .slice3Acap w
  have hbs:(Instr.sliceBounds true rows.length cap (lo.map ac.eval) (some (ac.eval hi)) (some (ac.eval mx))).run P w = .ok (l,h,h) w:=by
   cases lo <;> simp only [Option.map_some,Option.map_none,Sem.run_pure,Result.ok.injEq,and_true] at hb1 <;>
    simp [Instr.sliceBounds,hb1,hb2,hb3]
  refine ⟨.slice (if h = l then base else base.map (·.add (l * n))) (h - l) (h - l),w,pr,?_,Ext.refl w pr,?_,?_⟩
  ·simp only [execOp,ho,e1]
   simp [Instr.sliceAt,run_underlying ht,Instr.slice,hbs,run_sizeOf hs]
  ·simp only [R]
   have hlen:((rows.take h).drop l).length = h - l:=by simp; omega
   refine ⟨_,h - l,by rw [hlen],by rw [hlen]; omega,by omega,?_⟩
   rcases hb with ⟨rfl,rfl⟩ | ⟨b,o',k,rfl,hb⟩
   ·left
    simp at hhl; subst hhl
    simp at hlh; subst hlh
    simp
   ·right
    by_cases hcl:h = l
    ·have:(rows.take h).drop l = []:=by
      apply zyR
      rw [hlen]; omega
     rw [this,if_pos hcl]
     exact ⟨b,o',k,rfl,by simp [RR]⟩
    ·rw [if_neg hcl]
     refine ⟨b,o' + l * n,k,by simp [Addr.add_none],?_⟩
     rcases rows with _ | ⟨r,rs⟩
     ·simp [RR]
     ·obtain rfl:=hb.size hrows (r:=r) (by simp)
      exact hb.slice
  ·intro c e'' hce
   simp only [zyO,Prod.mk.injEq] at hce
   obtain ⟨hce,rfl⟩:=hce
   subst hce
   refine ⟨by omega,fun g hg=>?_⟩
   exfalso
   have:zJ c0 (.slice (if h = l then base else base.map (·.add (l * n))) (h - l) (h - l)) = none:=by
    cases hq:(if h = l then base else base.map (·.add (l * n))) <;> simp [zJ]
    rcases hc0 with rfl | ⟨rfl,rfl⟩ <;> simp
   rw [this] at hg; cases hg
theorem zkb {t:TypeId} {x:Operand} {lo hi:Option Operand} {s:List UInt8} {l h:Nat} (ho:o.op = .slice t x lo hi none) (hx:ρ x = .str s)
  (ht:P.underlying t = some .string) (hl:zac ρ lo 0 = some l) (hh:zac ρ hi s.length = some h) (hlh:l <= h) (hhl:h <= s.length) :
  QV P o ρ bx (.str ((s.take h).drop l)) none :=
 QV.pure fun ac w pr lam hop _=>by
  have q1:=hop x (by simp [ho,Op.operands])
  rw [hx] at q1
  simp only [R] at q1
  obtain ⟨e1,hm⟩:=q1
  have hb1:(match lo.map ac.eval with | some v=>Instr.sliceBound v h .sliceB | none=>Pure.pure 0).run P w = .ok l w:=by
   cases lo with
   | none=>simp only [zac,zyO] at hl; subst hl; simp
   | some y =>
    obtain ⟨k,i,hy,h0,hn⟩:=ZQ hl
    have q:=hop y (by simp [ho,Op.operands])
    rw [hy] at q; simp only [R] at q
    exact run_sliceBound q h0 hn hlh _ w
  have hb2:(match hi.map ac.eval with | some v=>Instr.sliceBound v s.length .sliceAlen | none=>Pure.pure s.length).run P w = .ok h w:=by
   cases hi with
   | none=>simp only [zac,zyO] at hh; subst hh; simp
   | some y =>
    obtain ⟨k,i,hy,h0,hn⟩:=ZQ hh
    have q:=hop y (by simp [ho,Op.operands])
    rw [hy] at q; simp only [R] at q
    exact run_sliceBound q h0 hn hhl _ w
  have hbs:(Instr.sliceBounds false s.length s.length (lo.map ac.eval) (hi.map ac.eval) none).run P w = .ok (l,h,s.length) w:=by
   cases lo <;> cases hi <;> simp only [Option.map_some,Option.map_none,Sem.run_pure,Result.ok.injEq,and_true] at hb1 hb2 <;>
    simp [Instr.sliceBounds,hb1,hb2]
  have hsz:(ByteArray.mk s.toArray).size = s.length:=by simp [ByteArray.size]
  refine ⟨.string ((ByteArray.mk s.toArray).extract l h),?_,?_⟩
  ·simp only [execOp,ho,e1]
   simp [Instr.sliceAt,run_underlying ht,Instr.slice,hsz,hbs]
  ·simp only [R]
   refine ⟨?_,by simp; omega⟩
   congr 1
   apply ByteArray.ext
   apply Array.ext'
   simp [ByteArray.data_extract,List.drop_take]
theorem zl8 {t e:TypeId} {x:Operand} {rows:List V} (ho:o.op = .call { callee:=.builtin .len,args:=#[x],argTypes:=#[t] }) (hx:ρ x = .list rows)
  (ht:P.underlying t = some (.slice e)):QV P o ρ bx (.int .i64 rows.length) none :=
 QV.pure fun ac w pr lam hop _=>by
  have q1:=hop x (by simp [ho,Op.operands,Call.operands])
  rw [hx] at q1
  simp only [R] at q1
  obtain ⟨base,cap,e1,_⟩:=q1
  refine ⟨.int .i64 rows.length,?_,by simp [R]⟩
  simp only [execOp,ho,resolve,invoke,builtin,Sem.run_bind,Sem.run_pure,Result.andThen_ok,List.map_toArray,List.map_cons,List.map_nil,e1]
  simp [Builtin.len_,run_underlying ht,goInt]
theorem zn8 {t:TypeId} {x:Operand} {s:List UInt8} (ho:o.op = .call { callee:=.builtin .len,args:=#[x],argTypes:=#[t] }) (hx:ρ x = .str s)
  (ht:P.underlying t = some .string):QV P o ρ bx (.int .i64 s.length) none :=
 QV.pure fun ac w pr lam hop _=>by
  have q1:=hop x (by simp [ho,Op.operands,Call.operands])
  rw [hx] at q1
  simp only [R] at q1
  obtain ⟨e1,_⟩:=q1
  refine ⟨.int .i64 s.length,?_,by simp [R]⟩
  simp only [execOp,ho,resolve,invoke,builtin,Sem.run_bind,Sem.run_pure,Result.andThen_ok,List.map_toArray,List.map_cons,List.map_nil,e1]
  have hsz:(ByteArray.mk s.toArray).size = s.length:=by simp [ByteArray.size]
  simp [Builtin.len_,run_underlying ht,goInt,hsz]
theorem zwi {t u:TypeId} {x y:Operand} {k:IntKind} {a b:Int} (ho:o.op = .call { callee:=.builtin .max,args:=#[x,y],argTypes:=#[t,u] }) (hx:ρ x = .int k a) (hy:ρ y = .int k b) :
  QV P o ρ bx (.int k (max a b)) none :=
 QV.pure fun ac w pr lam hop _=>by
  have q1:=hop x (by simp [ho,Op.operands,Call.operands])
  have q2:=hop y (by simp [ho,Op.operands,Call.operands])
  rw [hx] at q1; rw [hy] at q2
  simp only [R] at q1 q2
  refine ⟨.int k (max a b),?_,by simp [R]⟩
  simp only [execOp,ho,resolve,invoke,builtin,Sem.run_bind,Sem.run_pure,Result.andThen_ok,List.map_toArray,List.map_cons,List.map_nil,q1,q2]
  simp [Builtin.max_,Builtin.max2]
  split <;> omega
theorem zwj {t u:TypeId} {x y:Operand} {k:IntKind} {a b:Int} (ho:o.op = .call { callee:=.builtin .min,args:=#[x,y],argTypes:=#[t,u] }) (hx:ρ x = .int k a) (hy:ρ y = .int k b) :
  QV P o ρ bx (.int k (min a b)) none :=
 QV.pure fun ac w pr lam hop _=>by
  have q1:=hop x (by simp [ho,Op.operands,Call.operands])
  have q2:=hop y (by simp [ho,Op.operands,Call.operands])
  rw [hx] at q1; rw [hy] at q2
  simp only [R] at q1 q2
  refine ⟨.int k (min a b),?_,by simp [R]⟩
  simp only [execOp,ho,resolve,invoke,builtin,Sem.run_bind,Sem.run_pure,Result.andThen_ok,List.map_toArray,List.map_cons,List.map_nil,q1,q2]
  simp [Builtin.min_,Builtin.min2]
  split <;> omega
theorem run_part_agg {t:TypeId} {n off:Nat} {xs:List Value} (ha:aggT P t = some true) (hs:sizeT P t = some n) (w:World) :
  (part t xs.toArray off).run P w = .ok (.agg ((xs.drop off).take n).toArray) w:=by
 simp [part,run_isAgg ha,run_sizeOf hs]
theorem run_part_one {t:TypeId} {off:Nat} {xs:List Value} {x:Value} (ha:aggT P t = some false) (hx:xs[off]? = some x) (w:World) :
  (part t xs.toArray off).run P w = .ok x w:=by
 simp [part,run_isAgg ha,hx]
theorem zkc {s t:TypeId} {x:Operand} {fi off n:Nat} {cs:List V} (ho:o.op = .field s x fi) (hx:ρ x = .agg cs) (hf:fieldT P s fi = some (off,t)) (ha:aggT P t = some true) (hs:sizeT P t = some n) :
  QV P o ρ bx (.agg ((cs.drop off).take n)) none :=
 QV.pure fun ac w pr lam hop _=>by
  have q1:=hop x (by simp [ho,Op.operands])
  rw [hx] at q1
  simp only [R] at q1
  obtain ⟨xs,e1,q1,q2⟩:=q1
  obtain ⟨fs,f,h1,h2,rfl,rfl⟩:=fieldT_spec hf
  refine ⟨.agg ((xs.drop f.offset).take n).toArray,?_,?_⟩
  ·simp only [execOp,ho,e1]
   simp [Instr.field,run_underlying h1,h2,asAgg,run_part_agg ha hs]
  ·simp only [R]
   exact ⟨_,rfl,(q1.drop _).take _,fun y hy=>q2 y (List.mem_of_mem_drop (List.mem_of_mem_take hy))⟩
theorem zkd {s t:TypeId} {x:Operand} {fi off:Nat} {cs:List V} {c:V} (ho:o.op = .field s x fi) (hx:ρ x = .agg cs) (hf:fieldT P s fi = some (off,t)) (ha:aggT P t = some false) (hc:cs[off]? = some c) :
  QV P o ρ bx c none :=
 QV.pure fun ac w pr lam hop _=>by
  have q1:=hop x (by simp [ho,Op.operands])
  rw [hx] at q1
  simp only [R] at q1
  obtain ⟨xs,e1,q1,q2⟩:=q1
  obtain ⟨fs,f,h1,h2,rfl,rfl⟩:=fieldT_spec hf
  obtain ⟨y,hy,hr⟩:=q1.get _ c hc
  refine ⟨y,?_,hr⟩
  simp only [execOp,ho,e1]
  simp [Instr.field,run_underlying h1,h2,asAgg,run_part_one ha hy]
theorem zeo {t e:TypeId} {x ix:Operand} {cs:List V} {c:V} {k:IntKind} {i:Int} {len n:Nat} (ho:o.op = .index t x ix) (hx:ρ x = .agg cs) (hi:ρ ix = .int k i)
  (ht:P.underlying t = some (.array len e)) (ha:aggT P e = some false) (hs:sizeT P e = some n) (h0:0 <= i) (h1:i < len) (hc:cs[i.toNat * n]? = some c):QV P o ρ bx c none :=
 QV.pure fun ac w pr lam hop _=>by
  have q1:=hop x (by simp [ho,Op.operands])
  have q2:=hop ix (by simp [ho,Op.operands])
  rw [hx] at q1; rw [hi] at q2
  simp only [R] at q1 q2
  obtain ⟨xs,e1,q1,_⟩:=q1
  obtain ⟨y,hy,hr⟩:=q1.get _ c hc
  refine ⟨y,?_,hr⟩
  simp only [execOp,ho,e1,q2]
  simp [Instr.index,asIntOf,run_underlying ht,h0,h1,run_sizeOf hs,run_part_one ha hy]
def bytesV (s:List UInt8):List V:=s.map fun b=>.int .u8 b.toNat
end
end Go.Eng
namespace Go.Eng
open Go.RowKit
def YC:Value->V
 | .int k n=>.int k n
 | .bool b=>.bool b
 | .string s=>if s.size <= maxLen then .str s.data.toList else .any
 | .pointer none=>.nilp
 | .slice none 0 0=>.list []
 | .nilFunc=>.nilfn
 | .nilIface=>.nilif
 | _=>.any
def Zd:Value->V
 | .agg cs=>if cs.toList.all (fun x=>x.oneCell') then .agg (cs.toList.map YC) else .any
 | .tuple cs=>.tup (cs.toList.map YC)
 | v=>YC v
theorem zl9 (E:Env) (x:Value):R E (YC x) x:=by
 unfold YC
 split
 all_goals first
  | (simp [R]; done)
  | skip
 ·split
  ·rename_i s h
   have h':s.data.toList.length <= maxLen:=by rw [Array.length_toList]; exact h
   simp only [R]
   first | exact ⟨rfl,h'⟩ | exact ⟨trivial,h'⟩
  ·simp [R]
 ·simp only [R]
  exact ⟨none,0,rfl,zyF _,by simp [maxLen],.inl ⟨trivial,rfl⟩⟩
theorem zep (E:Env):∀ (xs:List Value),RL E (xs.map YC) xs
 | []=>by simp [RL]
 | x :: xs=>by
  simp only [List.map_cons,RL]
  exact ⟨x,xs,rfl,zl9 E x,zep E xs⟩
theorem QD (E:Env) (x:Value):R E (Zd x) x:=by
 unfold Zd
 split
 ·split
  ·rename_i cs h
   simp only [R]
   refine ⟨cs.toList,by simp,zep E _,fun y hy=>?_⟩
   exact List.all_eq_true.1 h y hy
  ·simp [R]
 ·rename_i cs
  simp only [R]
  exact ⟨cs.toList,by simp,zep E _⟩
 ·exact zl9 E _
def St.eval (st:St):Operand->V
 | .tmp t=>st.env t
 | .const v=>Zd v
 | .global g=>(match GL g with | some vs=>.elt (vs.map Zd) 0 | none=>.any)
 | .func f=>.fn (.func f) [] []
theorem zja {w:World} {pr:Nat->Nat->Prop} {lam:Nat->Option Nat} {b:Nat}:∀ (vs:List Value) (o:Nat),(∀ i,(h:i < vs.length)->w.cell? ⟨b,o + i,none⟩ = some vs[i])->(∀ i,i < vs.length->pr b (o + i))->(∀ v ∈ vs,v.oneCell' = true)->RC ⟨w,pr,lam⟩ b o (vs.map Zd)
 | [],_,_,_,_=>by simp [RC]
 | v :: vs,o,h1,h2,h3=>by
  simp only [List.map_cons,RC]
  refine ⟨⟨v,⟨h1 0 (by simp),h2 0 (by simp)⟩,h3 v (by simp),QD _ v⟩,zja vs (o + 1) (fun i hi=>?_) (fun i hi=>?_) fun v hv=>h3 v (by simp [hv])⟩
  ·have:=h1 (i + 1) (by simpa using hi)
   rw [show o + 1 + i = o + (i + 1) from by omega,this]; rfl
  ·have:=h2 (i + 1) (by simpa using hi)
   rwa [show o + 1 + i = o + (i + 1) from by omega]
def St.tokOf (st:St):Operand->Option (Nat × TypeId)
 | .tmp t=>st.tok t
 | _=>none
section
variable {P:Program} {n':Nat} {F:Fr} {st:St} {a:Act} {w:World} {pr:Nat->Nat->Prop} {lam:Nat->Option Nat}
theorem zC.eval (h:zC P F st a w pr lam) (x:Operand):R ⟨w,pr,lam⟩ (st.eval x) (a.eval x):=by
 cases x with
 | tmp t=>exact h.env t
 | const v=>exact QD _ v
 | global g =>
  simp only [St.eval]
  cases hg:GL g with
  | none=>simp [R]
  | some vs =>
   obtain ⟨⟨ty,h1⟩,h2⟩:=h.hl.glob g vs hg
   simp only [R]
   refine ⟨g,0,rfl,zja (b:=g) (pr:=pr) (w:=w) (lam:=lam) vs 0 (fun i hi=>?_) (fun i hi=>by simpa using h2 i hi) (zwd g vs hg)⟩
   simp [World.cell?,h1,hi]
 | func f=>simp only [St.eval,R]; exact ⟨[],[],rfl,by simp [RL],by simp [RL]⟩
def Y0 (P:Program) (n':Nat) (o:Oper) (st:St) (K:St->Prop):Prop :=
 ∀ (F:Fr) (a:Act) (w:World) (pr:Nat->Nat->Prop) (lam:Nat->Option Nat),F.nt = n'->zC P F st a w pr lam ->
  ∀ (next:Act->World->Prop) (Q:Exit->Act->World->Prop),
   (∀ st' a' w' pr' lam',K st'->zC P F st' a' w' pr' lam'->next a' w')->o.wp P a w next Q
theorem zi8.fresh {w':World} {pr':Nat->Nat->Prop} (h:zC P F st a w pr lam) (he:Ext w pr w' pr') {v:V} {x:Value} {e:TypeId} (t:Nat) (hc:tcl t < 2) (ho:Own P (fun g=>w.heap.size <= g) ⟨w',pr',lam⟩ (tcl t) e x) :
  zi8 P F (st.clear t) a w' pr' lam v x (some (t,e)):=by
 have hge:∀ g,zJ (tcl t) x = some g->w.heap.size <= g:=fun g hg=>(ho g hg).1
 refine ⟨fun g hg=>?_,fun s t' e' g hs h1 h2=>?_,fun i B b hB hl hg=>?_,fun s e' hs=>absurd rfl (zV hs).2.1,fun hc'=>by omega,fun s e' b o g hs=>absurd rfl (zV hs).2.2,fun s u e' b o g hu=>?_⟩
 ·obtain ⟨h1,h2⟩:=ho g hg
  exact ⟨.inl (Nat.le_trans h.keep.size h1),h2⟩
 ·obtain ⟨_,n,cap,cur,sz,_,h3,_⟩:=h.own s t' e' (zV hs).1 g h1
  have hlt:g < w.heap.size:=(Array.getElem?_eq_some_iff.1 h3).1
  have:=hge g h2
  omega
 ·obtain ⟨b',h1,h2,_⟩:=h.box i B hB
  rw [hl] at h1; cases h1
  have hlt:b < w.heap.size:=h2.lt
  have:=hge b hg
  omega
 ·exfalso
  unfold tcl at hc
  omega
theorem YD {o:Oper} {K:St->Prop} {v:V} {fr:Option (Nat × TypeId)} {tk:Option (Nat × TypeId)} (hq:QV P o st.eval st.box v fr) (htk:∀ t e,tk = some (t,e)->fr = some (tcl t,e))
  (hd:∀ d,o.dst = some d->d < n') (hk:K ((st.fresh tk).put o.dst v tk)):Y0 P n' o st K:=by
 intro F a w pr lam hF h next Q hn
 subst hF
 refine hq a w pr lam h.hl (fun x _=>h.eval x) h.brel next Q fun x w' pr' he hx ho=>?_
 refine hn _ _ w' pr' lam hk (((h.ext he).fresh tk).put hd hx ?_)
 cases tk with
 | none=>trivial
 | some te =>
  obtain ⟨t,e⟩:=te
  obtain ⟨q1,q2⟩:=ho _ e (htk t e rfl)
  exact zi8.fresh h he t q1 q2
theorem zeq {o:Oper} {K:St->Prop} {x:Operand} (ho:o.op = .move x ∨ o.op = .assign x) (hd:∀ d,o.dst = some d->d < n') (hk:K (st.put o.dst (st.eval x) (st.tokOf x))):Y0 P n' o st K:=by
 intro F a w pr lam hF h next Q hn
 subst hF
 have hr:(execOp a.eval o).run P w = .ok (.value (a.eval x)) w:=by
  rcases ho with ho | ho <;> simp [execOp,ho]
 unfold Oper.wp
 rw [hr,Oper.upon_value]
 refine hn _ _ w pr lam hk (h.put hd (h.eval x) ?_)
 cases x with
 | tmp s =>
  simp only [St.tokOf]
  cases hs:st.tok s with
  | none=>trivial
  | some te =>
   obtain ⟨t,e⟩:=te
   exact ⟨h.own s t e hs,fun s' t' e' g hs' h1 h2=>h.coh s s' t t' e e' g hs hs' h2 h1,fun i B b hB hl=>h.apart i B b s t e hB hl hs,fun s' e' hs' hc=>h.coh2 s' s t e' e hs' hs hc,fun hc=>h.old s t e hs hc,
    fun s' e' b o g hs' h1 h2=>h.ptr s' s t e' e b o g hs' hs h1 h2,fun s' u e' b o g hu hs' h1 h2=>h.ptr s s' u e e' b o g (hu ▸ hs) hs' h1 h2⟩
 | const v=>trivial
 | global g=>trivial
 | func f=>trivial
def St.setBox (st:St) (i:Nat) (B:Box):St:={ st with box:=upd st.box i (some B) }
theorem zcJ (e:TypeId) (v:Value) (w:World):(newVar e v).run P w = .ok ⟨w.heap.size,0,none⟩ (w.alloc (.cells v.cells e)):=by
 simp [newVar,newRow]
theorem zC.newObj (h:zC P F st a w pr lam) {i:Nat} (hi:st.box i = none) {cs:List V} {ob:Obj} {e:TypeId}
  (hob:∀ E:Env,Env.Le ⟨w,pr,lam⟩ E->E.w.heap[w.heap.size]? = some ob->Yc E w.heap.size ⟨cs,e⟩) :
  zC P F (st.setBox i ⟨cs,e⟩) a (w.alloc ob) pr (upd lam i (some w.heap.size)):=by
 have hl:=h.nolam i hi
 have hext:Ext w pr (w.alloc ob) pr:=Ext.alloc w pr _
 have h':=h.ext hext
 have hle:Env.Le ⟨w.alloc ob,pr,lam⟩ ⟨w.alloc ob,pr,upd lam i (some w.heap.size)⟩ :=
  ⟨fun j b hj=>(by
   show upd lam i (some w.heap.size) j = some b
   have hji:j ≠ i:=by
    intro hji
    change lam j = some b at hj
    rw [hji,hl] at hj
    cases hj
   rw [Zx _ _ _ _ hji]; exact hj),fun _ _ h=>h,fun _ _ _=>rfl⟩
 have hle0:Env.Le ⟨w,pr,lam⟩ ⟨w.alloc ob,pr,lam⟩:=hext.le h.prlt
 have hne:∀ j B,st.box j = some B->j ≠ i:=by
  intro j B hB hj; rw [hj,hi] at hB; cases hB
 have holdlt:∀ j B b,st.box j = some B->lam j = some b->b < w.heap.size:=by
  intro j B b hB hj
  obtain ⟨b',q1,q2,_⟩:=h.box j B hB
  rw [hj] at q1; cases q1
  exact q2.lt
 refine ⟨h.size,h.defers,fun s=>(h'.env s).mono hle,fun s t e' hs g hg=>?_,h.coh,?_,?_,?_,?_,h'.prlt,h'.keep,h'.prsub,h'.prnew,fun j b hj=>hle.lam j b (h.lamsub j b hj),h.coh2,
  fun s t e' hs hc=>(h'.old s t e' hs hc).old hle.lam (fun _ _ _=>rfl),h.ptr⟩
 ·exact h'.own s t e' hs g hg
 ·intro j B hB
  change upd st.box i _ j = some B at hB
  by_cases hj:j = i
  ·subst hj
   rw [QC] at hB; cases hB
   exact ⟨w.heap.size,by simp,hob _ (hle0.trans hle) (heap_alloc_new w _),fun o hp=>by have:=h.prlt _ _ hp; omega,.inl h.keep.size⟩
  ·rw [Zx _ _ _ _ hj] at hB
   obtain ⟨b,q1,q2,q5,q6⟩:=h'.box j B hB
   exact ⟨b,by rw [Zx _ _ _ _ hj]; exact q1,q2.mono hle rfl,q5,q6⟩
 ·intro j j' B B' b hB hB' q1 q2
  change upd st.box i _ j = some B at hB
  change upd st.box i _ j' = some B' at hB'
  by_cases hj:j = i <;> by_cases hj':j' = i
  ·rw [hj,hj']
  ·exfalso
   rw [Zx _ _ _ _ hj'] at hB' q2
   rw [hj,QC] at q1
   cases q1
   have:=holdlt j' B' _ hB' q2
   omega
  ·exfalso
   rw [Zx _ _ _ _ hj] at hB q1
   rw [hj',QC] at q2
   cases q2
   have:=holdlt j B _ hB q1
   omega
  ·rw [Zx _ _ _ _ hj] at hB q1
   rw [Zx _ _ _ _ hj'] at hB' q2
   exact h.inj j j' B B' b hB hB' q1 q2
 ·intro j B b s t e' hB q1 hs hg
  change upd st.box i _ j = some B at hB
  by_cases hj:j = i
  ·rw [hj,QC] at q1
   cases q1
   obtain ⟨_,n,cap,cur',sz,_,h3,_⟩:=h.own s t e' hs _ hg
   have:w.heap.size < w.heap.size:=(Array.getElem?_eq_some_iff.1 h3).1
   omega
  ·rw [Zx _ _ _ _ hj] at hB q1
   exact h.apart j B b s t e' hB q1 hs hg
 ·intro j hj
  change upd st.box i _ j = none at hj
  by_cases hji:j = i
  ·rw [hji,QC] at hj; cases hj
  ·rw [Zx _ _ _ _ hji] at hj ⊢
   exact h.nolam j hj
theorem zC.newBox (h:zC P F st a w pr lam) {i:Nat} (hi:st.box i = none) {cs:List V} {cur:Array Value} {e:TypeId} (hty:e < QB) (hr:RL ⟨w,pr,lam⟩ cs cur.toList) (h1:∀ y ∈ cur.toList,y.oneCell' = true) :
  zC P F (st.setBox i ⟨cs,e⟩) a (w.alloc (.cells cur e)) pr (upd lam i (some w.heap.size)) :=
 h.newObj hi fun _ hle hg=>⟨fun _=>⟨cur,hg,hr.mono hle,h1⟩,fun ht=>absurd hty (Nat.not_lt.2 ht)⟩
theorem zma {o:Oper} {K:St->Prop} {e:TypeId} {x:Operand} {i n:Nat} {v:V} (ho:o.op = .box e x) (hx:st.eval x = v) (hv:v.csize = some n) (hi:st.box i = none) (hty:e < QB) (hd:∀ d,o.dst = some d->d < n')
  (hk:K ((st.setBox i ⟨v.cellsL,e⟩).put o.dst (.loc i 0) none)):Y0 P n' o st K:=by
 intro F a w pr lam hF h next Q hn
 subst hF
 have hr:(execOp a.eval o).run P w = .ok (.value (.pointer (some ⟨w.heap.size,0,none⟩))) (w.alloc (.cells (a.eval x).cells e)):=by
  simp [execOp,ho,Instr.box,zcJ]
 unfold Oper.wp
 rw [hr,Oper.upon_value]
 have hx':=h.eval x
 rw [hx] at hx'
 obtain ⟨q1,q2⟩:=hx'.cells hv
 refine hn _ _ _ pr (upd lam i (some w.heap.size)) hk ((h.newBox hi hty q1 q2).put hd ?_ trivial)
 simp only [R]
 exact ⟨w.heap.size,by simp,rfl⟩
def zeroT (P:Program) (t:TypeId):Option V:=((P.info? t).bind (·.zero)).map Zd
theorem zeroT_spec {t:TypeId} {v:V} (h:zeroT P t = some v):∃ i z,P.info? t = some i/\i.zero = some z/\Zd z = v:=by
 unfold zeroT at h
 cases hi:P.info? t with
 | none=>simp [hi] at h
 | some i =>
  simp [hi] at h
  obtain ⟨z,hz,hv⟩:=h
  exact ⟨i,z,rfl,hz,hv⟩
theorem zgK {o:Oper} {K:St->Prop} {e:TypeId} {i n:Nat} {v:V} (ho:o.op = .alloc e) (hz:zeroT P e = some v) (hv:v.csize = some n) (hi:st.box i = none) (hty:e < QB) (hd:∀ d,o.dst = some d->d < n')
  (hk:K ((st.setBox i ⟨v.cellsL,e⟩).put o.dst (.loc i 0) none)):Y0 P n' o st K:=by
 intro F a w pr lam hF h next Q hn
 subst hF
 obtain ⟨j,z,q1,q2,rfl⟩:=zeroT_spec hz
 have hr:(execOp a.eval o).run P w = .ok (.value (.pointer (some ⟨w.heap.size,0,none⟩))) (w.alloc (.cells z.cells e)):=by
  simp [execOp,ho,Instr.alloc,zeroValue,typeInfo,q1,q2,zcJ]
 unfold Oper.wp
 rw [hr,Oper.upon_value]
 obtain ⟨q1,q2⟩:=(QD ⟨w,pr,lam⟩ z).cells hv
 refine hn _ _ _ pr (upd lam i (some w.heap.size)) hk ((h.newBox hi hty q1 q2).put hd ?_ trivial)
 simp only [R]
 exact ⟨w.heap.size,by simp,rfl⟩
theorem zke {t:TypeId} {b off n:Nat} {w:World} {v:Value} {cur:Array Value} {ty:TypeId} (hs:sizeT P t = some n) (hn:v.cells.size = n) (hg:w.heap[b]? = some (.cells cur ty (0,0)))
  (hfit:off + n <= cur.size) (h1:∀ y ∈ v.cells.toList,y.oneCell' = true) :
  (storeVar t ⟨b,off,none⟩ v).run P w = .ok () (w.setRow b (cur.toList.take off++v.cells.toList++cur.toList.drop (off + n)).toArray):=by
 have hst:=run_storeCells_at P b off ty v.cells.toList 0 cur w hg (by simpa [hn] using hfit) h1
 simp only [Nat.add_zero,Array.length_toList,hn] at hst
 simp only [storeVar,Sem.run_bind,run_sizeOf hs,Result.andThen_ok,hn,ne_eq,not_true,if_false]
 exact hst
theorem cell?_setRow_ne {w:World} {g b o:Nat} {cs:Array Value} (h:b ≠ g):(w.setRow g cs).cell? ⟨b,o,none⟩ = w.cell? ⟨b,o,none⟩:=cell_setRow_other w g cs ⟨b,o,none⟩ h
structure zmb (w w':World) (b:Nat):Prop where
 os:w'.os = w.os
 tape:w'.tape = w.tape
 output:w'.output = w.output
 drawn:DLE w w'
 size:w'.heap.size = w.heap.size
 block:∀ k,k ≠ b->w'.heap[k]? = w.heap[k]?
theorem zmb.cell {w w':World} {b:Nat} (h:zmb w w' b) {c o:Nat} (hc:c ≠ b):w'.cell? ⟨c,o,none⟩ = w.cell? ⟨c,o,none⟩:=by
 unfold World.cell?
 rw [h.block c hc]
theorem zmb.setRow (w:World) (b:Nat) (cs:Array Value):zmb w (w.setRow b cs) b :=
 ⟨rfl,rfl,rfl,DLE.of_eq rfl,by simp,fun k hk=>setRow_other w b k cs hk⟩
theorem zC.setObj (h:zC P F st a w pr lam) {w':World} {i b:Nat} {B:Box} {cs:List V} (hB:st.box i = some B) (hl:lam i = some b) (hw:zmb w w' b)
  (hob:Env.Le ⟨w,pr,lam⟩ ⟨w',pr,lam⟩->Yc ⟨w',pr,lam⟩ b ⟨cs,B.ty⟩):zC P F (st.setBox i ⟨cs,B.ty⟩) a w' pr lam:=by
 obtain ⟨b',q1,q2,q5,q6⟩:=h.box i B hB
 obtain rfl:b = b':=by rw [hl] at q1; cases q1; rfl
 have hle:Env.Le ⟨w,pr,lam⟩ ⟨w',pr,lam⟩:=⟨fun _ _ h=>h,fun _ _ h=>h,fun c o hp=>hw.cell (fun hc=>by subst hc; exact q5 o hp)⟩
 refine ⟨h.size,h.defers,fun s=>(h.env s).mono hle,?_,h.coh,?_,?_,?_,?_,?_,?_,h.prsub,h.prnew,h.lamsub,h.coh2,fun s t e hs hc=>(h.old s t e hs hc).old (fun _ _ h=>h) (fun c o hp=>hle.cell c o (h.prsub c o hp)),h.ptr⟩
 ·intro s t e hs g hgb
  obtain ⟨r1,n,cap,cu,sz,r2,r3,r4,r5,r6⟩:=h.own s t e hs g hgb
  have hne:g ≠ b:=fun hgb'=>h.apart i B b s t e hB hl hs (by rw [<- hgb']; exact hgb)
  exact ⟨r1,n,cap,cu,sz,r2,by show w'.heap[g]? = _; rw [hw.block g hne]; exact r3,r4,r5,r6⟩
 ·intro j C hC
  change upd st.box i _ j = some C at hC
  by_cases hj:j = i
  ·subst hj
   rw [QC] at hC; cases hC
   exact ⟨b,hl,hob hle,q5,q6⟩
  ·rw [Zx _ _ _ _ hj] at hC
   obtain ⟨c,r1,r2,r5,r6⟩:=h.box j C hC
   have hne:c ≠ b:=fun hcb=>hj (h.inj j i C B b hC hB (by rw [r1,hcb]) hl)
   exact ⟨c,r1,r2.mono hle (hw.block c hne),r5,r6⟩
 ·intro j j' C C' c hC hC' r1 r2
  change upd st.box i _ j = some C at hC
  change upd st.box i _ j' = some C' at hC'
  have gt:∀ k D,upd st.box i (some ⟨cs,B.ty⟩) k = some D->∃ D',st.box k = some D':=by
   intro k D hD
   by_cases hk:k = i
   ·subst hk; exact ⟨B,hB⟩
   ·rw [Zx _ _ _ _ hk] at hD; exact ⟨D,hD⟩
  obtain ⟨D,hD⟩:=gt j C hC
  obtain ⟨D',hD'⟩:=gt j' C' hC'
  exact h.inj j j' D D' c hD hD' r1 r2
 ·intro j C c s t e hC r1 hs
  change upd st.box i _ j = some C at hC
  by_cases hj:j = i
  ·subst hj; exact h.apart j B c s t e hB r1 hs
  ·rw [Zx _ _ _ _ hj] at hC; exact h.apart j C c s t e hC r1 hs
 ·intro j hj
  change upd st.box i _ j = none at hj
  by_cases hji:j = i
  ·rw [hji,QC] at hj; cases hj
  ·rw [Zx _ _ _ _ hji] at hj; exact h.nolam j hj
 ·intro c o hp
  have:=h.prlt c o hp
  rw [hw.size]; exact this
 ·refine ⟨hw.os.trans h.keep.os,hw.tape.trans h.keep.tape,hw.output.trans h.keep.output,h.keep.drawn.trans hw.drawn,by rw [hw.size]; exact h.keep.size,fun k hk hn hh=>?_⟩
  have hne:k ≠ b:=by
   rintro rfl
   rcases q6 with q6 | q6
   ·exact Nat.lt_irrefl _ (Nat.lt_of_lt_of_le hk q6)
   ·exact hn q6
  rw [hw.block k hne]
  exact h.keep.block k hk hn hh
theorem zC.setBox (h:zC P F st a w pr lam) {i b:Nat} {B:Box} {cur cur':Array Value} {cs:List V} (hB:st.box i = some B) (hty:B.ty < QB) (hl:lam i = some b) (hg:w.heap[b]? = some (.cells cur B.ty (0,0)))
  (hr:RL ⟨w,pr,lam⟩ cs cur'.toList) (h1:∀ y ∈ cur'.toList,y.oneCell' = true):zC P F (st.setBox i ⟨cs,B.ty⟩) a (w.setRow b cur') pr lam :=
 h.setObj hB hl (zmb.setRow w b cur') fun hle=>⟨fun _=>⟨cur',setRow_heap w b cur cur' B.ty (0,0) hg,hr.mono hle,h1⟩,fun ht=>absurd hty (Nat.not_lt.2 ht)⟩
theorem zn9 {o:Oper} {K:St->Prop} {t:TypeId} {x y:Operand} {i off n:Nat} {B:Box} {v:V} (ho:o.op = .store t x y) (hx:st.eval x = .loc i off) (hy:st.eval y = v) (hB:st.box i = some B)
  (hv:v.csize = some n) (hs:sizeT P t = some n) (hfit:off + n <= B.cells.length) (hty:B.ty < QB) (hd:o.dst = none)
  (hk:K (st.setBox i ⟨B.cells.take off++v.cellsL++B.cells.drop (off + n),B.ty⟩)):Y0 P n' o st K:=by
 intro F a w pr lam hF h next Q hn
 subst hF
 have hx':=h.eval x
 have hy':=h.eval y
 rw [hx] at hx'; rw [hy] at hy'
 simp only [R] at hx'
 obtain ⟨b,hl,e1⟩:=hx'
 obtain ⟨b',q1,hat,q5,q6⟩:=h.box i B hB
 obtain ⟨cur,q2,q3,q4⟩:=hat.cells hty
 obtain rfl:b = b':=by rw [show lam i = some b from hl] at q1; cases q1; rfl
 obtain ⟨r1,r2⟩:=hy'.cells hv
 have hsz:=hy'.csize hv
 have hlen:B.cells.length = cur.size:=by simpa using q3.length
 have hr:(execOp a.eval o).run P w = .ok .skip (w.setRow b (cur.toList.take off++(a.eval y).cells.toList++cur.toList.drop (off + n)).toArray):=by
  simp only [execOp,ho,e1]
  simp only [Instr.storeAt,Instr.sureAddr,Sem.run_bind,Sem.run_pure,Result.andThen_ok,zke hs hsz q2 (by omega:off + n <= cur.size) r2]
 unfold Oper.wp
 rw [hr,Oper.upon_skip,hd]
 refine hn _ _ _ pr lam hk (h.setBox hB hty hl q2 ?_ ?_)
 ·simpa using ((q3.take off).append r1).append (q3.drop (off + n))
 ·intro z hz
  simp only [List.mem_append] at hz
  rcases hz with (hz | hz) | hz
  ·exact q4 z (List.mem_of_mem_take hz)
  ·exact r2 z hz
  ·exact q4 z (List.mem_of_mem_drop hz)
end
end Go.Eng
namespace Go.Eng
open Go.RowKit
def zm (ys:List Value):List Value:=ys.flatMap fun y=>y.cells.toList
theorem yB {k:Nat}:∀ {ys:List Value},(∀ y ∈ ys,y.cells.size = k)->(zm ys).length = ys.length * k
 | [],_=>by simp [zm]
 | y :: ys,h=>by
  have h1:=h y (by simp)
  have h2:=yB (ys:=ys) fun z hz=>h z (by simp [hz])
  simp only [zm,List.flatMap_cons,zyQ,Array.length_toList,List.length_cons,h1] at h2 ⊢
  rw [h2,Nat.add_mul]; omega
theorem RR.vals {E:Env} {b k:Nat}:∀ {rows:List V} {o:Nat},RR E b k o rows ->
  ∃ ys:List Value,RL E rows ys/\(∀ y ∈ ys,y.cells.size = k)/\∀ j z,(zm ys)[j]? = some z->E.at b (o + j) z/\z.oneCell' = true
 | [],_,_=>⟨[],by simp [RL],by simp,by simp [zm]⟩
 | r :: rs,o,h=>by
  simp only [RR] at h
  obtain ⟨⟨y,h1,h2,h3⟩,h⟩:=h
  obtain ⟨ys,q1,q2,q3⟩:=RR.vals h
  refine ⟨y :: ys,by simp only [RL]; exact ⟨y,ys,rfl,h1,q1⟩,?_,fun j z hz=>?_⟩
  ·intro z hz; rcases List.mem_cons.1 hz with rfl | hz
   ·exact h2
   ·exact q2 z hz
  ·simp only [zm,List.flatMap_cons,List.getElem?_append,Array.length_toList,h2] at hz
   split at hz
   ·exact h3 j z (by simpa using hz)
   ·rename_i hj
    have:=q3 (j - k) z hz
    rwa [show o + k + (j - k) = o + j from by omega] at this
theorem RR.of_vals {E:Env} {b k:Nat}:∀ {rows:List V} {ys:List Value} {o:Nat},RL E rows ys->(∀ y ∈ ys,y.cells.size = k) ->
  (∀ j z,(zm ys)[j]? = some z->E.at b (o + j) z/\z.oneCell' = true)->RR E b k o rows
 | [],_,_,_,_,_=>by simp [RR]
 | r :: rs,ys,o,h,hs,hc=>by
  simp only [RL] at h
  obtain ⟨y,ys,rfl,h1,h⟩:=h
  have h2:=hs y (by simp)
  simp only [RR]
  refine ⟨⟨y,h1,h2,fun j z hz=>hc j z ?_⟩,RR.of_vals h (fun z hz=>hs z (by simp [hz])) fun j z hz=>?_⟩
  ·have hj:j < y.cells.toList.length:=by
    have:=(Array.getElem?_eq_some_iff.1 hz).1; simpa using this
   simp only [zm,List.flatMap_cons,List.getElem?_append,hj,if_true]
   simpa using hz
  ·have:=hc (k + j) z (by
    simp only [zm,List.flatMap_cons,List.getElem?_append,Array.length_toList,h2]
    rw [if_neg (by omega)]
    simpa [zm] using hz)
   rwa [show o + (k + j) = o + k + j from by omega] at this
theorem qR (xs ys:List Value):zm (xs++ys) = zm xs++zm ys:=by simp [zm]
def bytesT (P:Program) (t:TypeId):Option Nat:=(P.info? t).map (·.bytes)
def srcT (P:Program) (t:TypeId):Bool:=match P.underlying t with
 | some (.slice _)=>true
 | some .string=>true
 | _=>false
section
variable {P:Program}
theorem srcT_spec {u:TypeId} (h:srcT P u = true):P.underlying u = some .string ∨ ∃ e',P.underlying u = some (.slice e'):=by
 unfold srcT at h
 split at h
 ·rename_i e' hu; exact .inr ⟨e',hu⟩
 ·rename_i hu; exact .inl hu
 ·cases h
theorem zcz {t u ty e:TypeId} {i:TypeInfo} (ht:P.underlying t = some (.slice e)) (hu:srcT P u = true) (hi:P.info? e = some i)
  {g sLen sCap m:Nat} {xv:Value} {news:List Value} {cur:Array Value} {e':TypeId} {w:World} (hg:w.heap[g]? = some (.cells cur e' (0,0)))
  (hxl:(Builtin.lenOf xv).run P w = .ok m w) (hxf:(Builtin.firstCells i.size m xv).run P w = .ok news.toArray w) (h1:∀ y ∈ news,y.oneCell' = true)
  (hroom:sLen + m <= sCap) (hfit:sLen * i.size + news.length <= cur.size) :
  (Builtin.append_ #[t,u] ty #[.slice (some ⟨g,0,none⟩) sLen sCap,xv]).run P w =
   .ok (.slice (some ⟨g,0,none⟩) (sLen + m) sCap) (w.setRow g (cur.toList.take (sLen * i.size)++news++cur.toList.drop (sLen * i.size + news.length)).toArray):=by
 have hst:=run_storeCells_at P g (sLen * i.size) e' news 0 cur w hg (by simpa using hfit) h1
 simp only [Nat.add_zero] at hst
 rcases srcT_spec hu with hd | ⟨e2,hd⟩ <;> simp [Builtin.append_,run_underlying ht,run_underlying hd,sizeOf,typeInfo,hi,hxl,hroom,hxf,Addr.add_lit,hst]
theorem run_append_none {t u ty e:TypeId} {i:TypeInfo} (ht:P.underlying t = some (.slice e)) (hu:srcT P u = true) (hi:P.info? e = some i)
  {base:Option Addr} {sLen sCap:Nat} {xv:Value} {w:World}
  (hxl:(Builtin.lenOf xv).run P w = .ok 0 w) (hxf:(Builtin.firstCells i.size 0 xv).run P w = .ok #[] w) (hroom:sLen <= sCap) :
  (Builtin.append_ #[t,u] ty #[.slice base sLen sCap,xv]).run P w = .ok (.slice base sLen sCap) w:=by
 rcases srcT_spec hu with hd | ⟨e2,hd⟩ <;> cases base <;> simp [Builtin.append_,run_underlying ht,run_underlying hd,sizeOf,typeInfo,hi,hxl,hroom,hxf,storeCells]
theorem run_append_new {t u ty e:TypeId} {i:TypeInfo} {z:Value} (ht:P.underlying t = some (.slice e)) (hu:srcT P u = true) (hi:P.info? e = some i) (hz:i.zero = some z)
  {base:Option Addr} {sLen sCap m:Nat} {xv:Value} {olds news:List Value} {w:World}
  (hxl:(Builtin.lenOf xv).run P w = .ok m w) (hxf:(Builtin.firstCells i.size m xv).run P w.drew = .ok news.toArray w.drew)
  (hof:(Builtin.firstCells i.size sLen (.slice base sLen sCap)).run P w.drew = .ok olds.toArray w.drew)
  (hg:sCap < sLen + m) (h63:((sLen + m:Nat):Int) <= 9223372036854775807) (hfit:Builtin.nextslicecap (sLen + m) sCap * i.bytes <= 281474976710656) :
  (Builtin.append_ #[t,u] ty #[.slice base sLen sCap,xv]).run P w =
   .ok (.slice (some ⟨w.heap.size,0,none⟩) (sLen + m) (grownCap w (sLen + m) sCap e))
    (w.drew.alloc (.cells (olds.toArray++news.toArray++Builtin.zeroCells z.cells (grownCap w (sLen + m) sCap e - (sLen + m))) e)):=by
 have hn:¬ (sLen + m <= sCap):=by omega
 have h63':¬ (9223372036854775807 < ((sLen:Int) + (m:Int))):=by omega
 have h48':¬ (281474976710656 < Builtin.nextslicecap (sLen + m) sCap * i.bytes):=by omega
 rcases srcT_spec hu with hd | ⟨e2,hd⟩ <;> simp [Builtin.append_,run_underlying ht,run_underlying hd,sizeOf,typeInfo,zeroValue,hi,hz,hxl,hn,h63',h48',Question.forced,hxf,hof,newRow,grownCap]
 all_goals
  congr 2
  apply Array.ext'
  simp [List.append_assoc]
end
section
variable {P:Program} {n':Nat} {F:Fr} {st:St} {a:Act} {w:World} {pr:Nat->Nat->Prop} {lam:Nat->Option Nat}
theorem zC.grow (h:zC P F st a w pr lam) {ss tk:Nat} {e:TypeId} {g n cap sz m:Nat} {cur cur':Array Value} (hcl:tcl tk < 2) (htk:st.tok ss = some (tk,e)) (hx:a.tmps.getD ss undef = .slice (some ⟨g,0,none⟩) n cap) (hlt:n < cap)
  (hg:w.heap[g]? = some (.cells cur e (0,0))) (hN:F.mine g) (hsame:∀ j,j < n * sz->cur'[j]? = cur[j]?) (hspare:∀ o,n * sz <= o->¬ pr g o) :
  zC P F (st.clear tk) a (w.setRow g cur') (fun b o=>pr b o ∨ (b = g/\n * sz <= o/\o < (n + m) * sz)) lam:=by
 have hgb:zJ (tcl tk) (a.tmps.getD ss undef) = some g:=by
  rw [hx]
  have:tcl tk = 0/\0 < cap ∨ tcl tk = 1/\n < cap:=by omega
  simp only [zJ,if_pos this]
 have hcell:∀ b o,pr b o->(w.setRow g cur').cell? ⟨b,o,none⟩ = w.cell? ⟨b,o,none⟩:=by
  intro b o hp
  by_cases hb:b = g
  ·subst hb
   have ho:o < n * sz:=by
    rcases Nat.lt_or_ge o (n * sz) with q | q
    ·exact q
    ·exact absurd hp (hspare o q)
   rw [cell_setRow_same w b o cur cur' e (0,0) hg,hsame o ho]
   simp [World.cell?,hg]
  ·exact cell?_setRow_ne hb
 have hle:Env.Le ⟨w,pr,lam⟩ ⟨w.setRow g cur',fun b o=>pr b o ∨ (b = g/\n * sz <= o/\o < (n + m) * sz),lam⟩:=⟨fun _ _ h=>h,fun _ _ h=>.inl h,hcell⟩
 have hother:∀ s t' e' g',(st.clear tk).tok s = some (t',e')->zJ (tcl t') (a.tmps.getD s undef) = some g'->g' ≠ g:=by
  intro s t' e' g' hs hg' heq
  obtain ⟨q1,q2,_⟩:=zV hs
  rw [heq] at hg'
  exact q2 (h.coh s ss t' tk e' e g q1 htk hg' hgb)
 have hboxne:∀ i B b,st.box i = some B->lam i = some b->b ≠ g:=by
  intro i B b hB hl hb
  exact h.apart i B b ss tk e hB hl htk (by rw [hb]; exact hgb)
 have hc:=h.clear tk
 refine ⟨hc.size,hc.defers,fun s=>(hc.env s).mono hle,?_,hc.coh,?_,hc.inj,hc.apart,hc.nolam,?_,?_,fun b o hp=>.inl (hc.prsub b o hp),?_,hc.lamsub,hc.coh2,fun s t e hs hcc=>(hc.old s t e hs hcc).old (fun _ _ h=>h) (fun b o hp=>hcell b o (hc.prsub b o hp)),hc.ptr⟩
 ·intro s t' e' hs g' hg'
  have hne:=hother s t' e' g' hs hg'
  obtain ⟨r1,n',cap',cu,sz',r2,r3,r4,r5,r6⟩:=hc.own s t' e' hs g' hg'
  refine ⟨r1,n',cap',cu,sz',r2,?_,r4,r5,fun o ho hp=>?_⟩
  ·show (w.setRow g cur').heap[g']? = _
   rw [setRow_other w g g' cur' hne]; exact r3
  ·rcases hp with hp | ⟨hp,_⟩
   ·exact r6 o ho hp
   ·exact hne hp
 ·intro i B hB
  obtain ⟨b,r1,r2,r5,r6⟩:=h.box i B hB
  have hne:=hboxne i B b hB r1
  refine ⟨b,r1,r2.mono hle (setRow_other w g b cur' hne),fun o hp=>?_,r6⟩
  rcases hp with hp | ⟨hp,_⟩
  ·exact r5 o hp
  ·exact hne hp
 ·intro b o hp
  have hgl:g < w.heap.size:=(Array.getElem?_eq_some_iff.1 hg).1
  rcases hp with hp | ⟨hp,_⟩
  ·simpa using h.prlt b o hp
  ·subst hp; simpa using hgl
 ·refine ⟨h.keep.os,h.keep.tape,h.keep.output,h.keep.drawn.trans (DLE.of_eq rfl),by simpa using h.keep.size,fun k hk hn hh=>?_⟩
  have hne:k ≠ g:=F.mine_keep hN hk hh
  rw [setRow_other w g k cur' hne]
  exact h.keep.block k hk hn hh
 ·intro b o hp
  rcases hp with hp | ⟨hp,_⟩
  ·exact h.prnew b o hp
  ·subst hp; exact .inr hN
structure Src (P:Program) (w:World) (pr:Nat->Nat->Prop) (lam:Nat->Option Nat) (sz:Nat) (xv:Value) (rows2:List V) (ys:List Value):Prop where
 len:∀ w',(Builtin.lenOf xv).run P w' = .ok rows2.length w'
 first:∀ w',(∀ b o,pr b o->w'.cell? ⟨b,o,none⟩ = w.cell? ⟨b,o,none⟩)->(Builtin.firstCells sz rows2.length xv).run P w' = .ok (zm ys).toArray w'
 rel:RL ⟨w,pr,lam⟩ rows2 ys
 size:∀ y ∈ ys,y.cells.size = sz
 one:∀ z ∈ zm ys,z.oneCell' = true
theorem Src.list {sz:Nat} {x:Value} {rows:List V} (h:R ⟨w,pr,lam⟩ (.list rows) x) (hr:qL sz rows):∃ ys,Src P w pr lam sz x rows ys:=by
 simp only [R] at h
 obtain ⟨base,cap,rfl,hc,hm,hb⟩:=h
 rcases hb with ⟨rfl,rfl⟩ | ⟨b,o,k,rfl,hb⟩
 ·exact ⟨[],fun w'=>by simp [Builtin.lenOf],fun w' _=>by cases base <;> simp [Builtin.firstCells,zm,loadCells,loadCellsFrom],by simp [RL],by simp,by simp [zm]⟩
 ·obtain ⟨ys,q1,q2,q3⟩:=hb.vals
  have hk:rows ≠ []->k = sz:=fun hne=>by
   obtain ⟨r,hr'⟩:=List.exists_mem_of_ne_nil rows hne
   exact hb.size hr hr'
  have hlen:(zm ys).length = rows.length * sz:=by
   rw [yB q2,<- q1.length]
   by_cases hne:rows = []
   ·simp [hne]
   ·rw [hk hne]
  refine ⟨ys,fun w'=>by simp [Builtin.lenOf],fun w' hw=>?_,q1,fun y hy=>?_,fun z hz=>?_⟩
  ·have:=run_loadCells_list (P:=P) w' ⟨b,o,none⟩ (zm ys) (fun j v hv=>by
    rw [Addr.add_none]
    obtain ⟨⟨r1,r2⟩,_⟩:=q3 j v hv
    rw [hw b (o + j) r2]; exact r1)
   rw [hlen] at this
   simpa [Builtin.firstCells] using this
  ·rw [q2 y hy]
   apply hk
   rintro rfl
   have:=q1.length
   have:ys = []:=zyR (by simpa using this.symm)
   subst this; cases hy
  ·obtain ⟨j,hj⟩:=List.mem_iff_getElem?.1 hz
   exact (q3 j z hj).2
theorem R.list_len {E:Env} {rows:List V} {x:Value} (h:R E (.list rows) x):rows.length <= maxLen:=by
 simp only [R] at h
 obtain ⟨base,cap,_,h1,h2,_⟩:=h
 exact Nat.le_trans h1 h2
theorem zvS {P:Program} {e:TypeId} {sz by':Nat} {zv:V} (hsz:sizeT P e = some sz) (hby:bytesT P e = some by') (hz:zeroT P e = some zv) :
  ∃ i z,P.info? e = some i/\i.size = sz/\i.bytes = by'/\i.zero = some z/\Zd z = zv:=by
 obtain ⟨i,z,h1,h2,h3⟩:=zeroT_spec hz
 simp [sizeT,h1] at hsz
 simp [bytesT,h1] at hby
 exact ⟨i,z,h1,hsz,hby,h2,h3⟩
theorem zbl {o:Oper} {K:St->Prop} {x:Operand} {ss tk:Nat} {t u e:TypeId} {rows rows2:List V} {sz by':Nat} {zv:V}
  (ho:o.op = .call { callee:=.builtin .append,args:=#[.tmp ss,x],argTypes:=#[t,u] }) (hs:st.env ss = .list rows) (htk:st.tok ss = some (tk,e))
  (hcl:tcl tk < 2) (ht:P.underlying t = some (.slice e)) (hu:srcT P u = true) (hsz:sizeT P e = some sz) (hby:bytesT P e = some by') (hz:zeroT P e = some zv) (hzs:zv.csize = some sz)
  (hr1:qL sz rows)
  (hx:∀ (w:World) (pr:Nat->Nat->Prop) (lam:Nat->Option Nat) (xv:Value),R ⟨w,pr,lam⟩ (st.eval x) xv->∃ ys,Src P w pr lam sz xv rows2 ys)
  (hb:(rows.length + rows2.length) * by' <= 140737488355328) (hl:rows.length + rows2.length <= maxLen)
  (hd:∀ d,o.dst = some d->d < n') (hk:K ((st.clear tk).put o.dst (.list (rows++rows2)) (some (tk,e)))):Y0 P n' o st K:=by
 intro F a w pr lam hF h next Q hn
 subst hF
 obtain ⟨i,z,i1,i2,i3,i4,i5⟩:=zvS hsz hby hz
 have hzc:z.cells.size = sz:=(QD ⟨w,pr,lam⟩ z).csize (by rw [i5]; exact hzs)
 have hss:=h.env ss
 rw [hs] at hss
 obtain ⟨ysOld,srcOld⟩:=Src.list (P:=P) hss hr1
 obtain ⟨ys,src⟩:=hx w pr lam _ (h.eval x)
 have hss':=hss
 simp only [R] at hss
 obtain ⟨base,cap,hv,hc,hm,hbase⟩:=hss
 have hmaxl:rows.length + rows2.length <= 9223372036854775807:=by simp only [maxLen] at hl; omega
 have hexec:∀ {v' w'},(Builtin.append_ #[t,u] o.type #[.slice base rows.length cap,a.eval x]).run P w = .ok v' w'->(execOp a.eval o).run P w = .ok (.value v') w':=by
  intro v' w' hr
  have hv':a.eval (.tmp ss) = .slice base rows.length cap:=hv
  simp only [execOp,ho,resolve,invoke,builtin,Sem.run_bind,Sem.run_pure,Result.andThen_ok,List.map_toArray,List.map_cons,List.map_nil,hv',hr]
 by_cases h0:rows2.length = 0
 ·-- nothing is appended
  have hnil:rows2 = []:=zyR h0
  subst hnil
  have hys:ys = []:=zyR (by have:=src.rel.length; simpa using this.symm)
  subst hys
  have hrun:=run_append_none (ty:=o.type) (base:=base) ht hu i1 (src.len w) (by rw [i2]; simpa [zm] using src.first w (fun _ _ _=>rfl)) hc
  unfold Oper.wp
  rw [hexec hrun,Oper.upon_value]
  rw [List.append_nil] at hk
  refine hn _ _ w pr lam hk ((h.clear tk).put hd (by rw [<- hv]; exact hss') ?_)
  rw [<- hv]
  exact ⟨h.own ss tk e htk,fun s t' e' g hs' h1 h2=>(h.coh ss s tk t' e e' g htk (zV hs').1 h2 h1),fun i B b hB hl'=>h.apart i B b ss tk e hB hl' htk,
   fun s e' hs=>absurd rfl (zV hs).2.1,fun hc'=>by omega,fun s e' b o g hs=>absurd rfl (zV hs).2.2,fun s u e' b o g hu'=>by exfalso; unfold tcl at hcl; omega⟩
 ·by_cases hroom:rows.length + rows2.length <= cap
  ·-- in place
   have hgb:∃ b o',base = some ⟨b,o',none⟩:=by
    rcases hbase with ⟨_,_,rfl⟩ | ⟨b,o',k,rfl,_⟩
    ·omega
    ·exact ⟨b,o',rfl⟩
   obtain ⟨g,og,rfl⟩:=hgb
   have hgbl:zJ (tcl tk) (a.tmps.getD ss undef) = some g:=by
    rw [hv]
    have:tcl tk = 0/\0 < cap ∨ tcl tk = 1/\rows.length < cap:=by omega
    simp only [zJ,if_pos this]
   obtain ⟨hN,n',cap',cur,sz',q1,q2,q3,q4,q5⟩:=h.own ss tk e htk g hgbl
   rw [hv] at q1
   simp only [Value.slice.injEq,zyO,Addr.mk.injEq] at q1
   obtain ⟨⟨_,rfl,_⟩,rfl,rfl⟩:=q1
   obtain rfl:sz = sz':=by simp [i1] at q3; omega
   have hfl:(zm ys).length = rows2.length * sz:=by rw [yB src.size,<- src.rel.length]
   have hfo:(zm ysOld).length = rows.length * sz:=by rw [yB srcOld.size,<- srcOld.rel.length]
   have hfit:rows.length * i.size + (zm ys).length <= cur.size:=by
    rw [i2,hfl,q4,<- Nat.add_mul]; exact Nat.mul_le_mul_right _ hroom
   have hrun:=zcz (ty:=o.type) ht hu i1 (w:=w) (g:=g) (sLen:=rows.length) (sCap:=cap) q2 (src.len w) (by rw [i2]; exact src.first w (fun _ _ _=>rfl)) src.one hroom hfit
   unfold Oper.wp
   rw [hexec hrun,Oper.upon_value]
   rw [i2] at hfit ⊢
   generalize hcur':(cur.toList.take (rows.length * sz)++zm ys++cur.toList.drop (rows.length * sz + (zm ys).length)).toArray = cur'
   have hget:∀ j:Nat,cur'[j]? = if j < rows.length * sz then cur[j]? else if j < rows.length * sz + (zm ys).length then (zm ys)[j - rows.length * sz]? else cur[j]?:=by
    intro j
    rw [<- hcur']
    have hmin:min (rows.length * sz) cur.size = rows.length * sz:=by omega
    simp only [List.getElem?_toArray,List.getElem?_append,zyQ,List.length_take,Array.length_toList,hmin,List.getElem?_take,List.getElem?_drop,Array.getElem?_toList]
    by_cases c1:j < rows.length * sz
    ·simp [c1]; omega
    ·by_cases c2:j < rows.length * sz + (zm ys).length
     ·simp [c1,c2]
     ·simp only [c1,c2,if_false]
      congr 1; omega
   have hsize':cur'.size = cur.size:=by
    rw [<- hcur']
    simp; omega
   have hrel:=h.grow (m:=rows2.length) hcl htk hv (by omega) q2 hN (cur':=cur') (fun j hj=>by rw [hget]; simp [hj]) q5
   have hle:Env.Le ⟨w,pr,lam⟩ ⟨w.setRow g cur',fun b o=>pr b o ∨ (b = g/\rows.length * sz <= o/\o < (rows.length + rows2.length) * sz),lam⟩:=by
    refine ⟨fun _ _ h=>h,fun _ _ h=>.inl h,fun b o hp=>?_⟩
    show (w.setRow g cur').cell? _ = _
    by_cases hb:b = g
    ·subst hb
     have ho:o < rows.length * sz:=by
      rcases Nat.lt_or_ge o (rows.length * sz) with q | q
      ·exact q
      ·exact absurd hp (q5 o q)
     rw [cell_setRow_same w b o cur cur' e (0,0) q2,hget]
     simp [ho,World.cell?,q2]
    ·exact cell?_setRow_ne hb
   refine hn _ _ _ _ lam hk (hrel.put hd ?_ ?_)
   ·simp only [R]
    refine ⟨some ⟨g,0,none⟩,cap,by rw [zyQ],by rw [zyQ]; exact hroom,hm,.inr ⟨g,0,sz,rfl,?_⟩⟩
    refine RR.of_vals (ys:=ysOld++ys) ((srcOld.rel.mono hle).append (src.rel.mono hle)) (fun y hy=>?_) fun j z hz=>?_
    ·rcases List.mem_append.1 hy with hy | hy
     ·exact srcOld.size y hy
     ·exact src.size y hy
    ·rw [qR,List.getElem?_append,hfo] at hz
     rw [Nat.zero_add]
     split at hz
     ·rename_i hj
      rcases hbase with ⟨hbn,_⟩ | ⟨b',o2,k',hbe,hrr⟩
      ·simp [hbn] at hj
      ·simp only [zyO,Addr.mk.injEq] at hbe
       obtain ⟨rfl,rfl,_⟩:=hbe
       have hk':k' = sz:=by
        rcases rows with _ | ⟨r,rs⟩
        ·simp at hj
        ·exact hrr.size hr1 (r:=r) (by simp)
       subst hk'
       obtain ⟨ys0,p1,p2,p3⟩:=hrr.vals
       have hf0:=srcOld.first w (fun _ _ _=>rfl)
       have hl0:(zm ys0).length = rows.length * k':=by rw [yB p2,<- p1.length]
       have hf1:(Builtin.firstCells k' rows.length (.slice (some ⟨g,0,none⟩) rows.length cap)).run P w = .ok (zm ys0).toArray w:=by
        have:=run_loadCells_list (P:=P) w ⟨g,0,none⟩ (zm ys0) (fun j v hv'=>by rw [Addr.add_none]; exact (p3 j v hv').1.1)
        rw [hl0] at this
        simpa [Builtin.firstCells] using this
       rw [hv] at hf0
       rw [hf0] at hf1
       simp only [Result.ok.injEq,and_true] at hf1
       have hfe:zm ysOld = zm ys0:=by simpa using congrArg Array.toList hf1
       rw [hfe] at hz
       obtain ⟨r1,r2⟩:=p3 j z hz
       rw [Nat.zero_add] at r1
       exact ⟨hle.at r1,r2⟩
     ·rename_i hj
      have hjlt:j - rows.length * sz < (zm ys).length:=(List.getElem?_eq_some_iff.1 hz).1
      refine ⟨⟨?_,.inr ⟨rfl,by omega,?_⟩⟩,src.one z (zyu hz)⟩
      ·show (w.setRow g cur').cell? _ = _
       rw [cell_setRow_same w g j cur cur' e (0,0) q2,hget,if_neg hj,if_pos (by omega)]
       exact hz
      ·rw [Nat.add_mul]; omega
   ·refine ⟨fun g' hg'=>?_,fun s t' e' g' hs' h1 h2=>?_,fun i' B b hB hl' hg'=>?_,fun s e' hs=>absurd rfl (zV hs).2.1,fun hc'=>by omega,fun s e' b o g hs=>absurd rfl (zV hs).2.2,fun s u e' b o g hu'=>by exfalso; unfold tcl at hcl; omega⟩
    ·have hg'':g' = g:=by
      simp only [zJ] at hg'
      split at hg'
      ·cases hg'; rfl
      ·cases hg'
     subst hg''
     refine ⟨hN,rows.length + rows2.length,cap,cur',sz,rfl,setRow_heap w g' cur cur' e (0,0) q2,by simp [i1,i2],by rw [hsize',q4],fun o ho hp=>?_⟩
     rcases hp with hp | ⟨_,_,hp⟩
     ·refine q5 o ?_ hp
      rw [Nat.add_mul] at ho; omega
     ·omega
    ·exfalso
     have hg'':g' = g:=by
      simp only [zJ] at h2
      split at h2
      ·cases h2; rfl
      ·cases h2
     rw [hg''] at h1
     obtain ⟨r1,r2,_⟩:=zV hs'
     exact r2 (h.coh s ss t' tk e' e g r1 htk h1 hgbl)
    ·have hg'':b = g:=by
      simp only [zJ] at hg'
      split at hg'
      ·cases hg'; rfl
      ·cases hg'
     rw [hg''] at hl'
     exact h.apart i' B g ss tk e hB hl' htk hgbl
  ·-- a new array
   have hge:=grownCap_ge w (rows.length + rows2.length) cap e
   have hcm:grownCap w (rows.length + rows2.length) cap e <= maxLen:=grownCap_le_maxLen w _ cap e hl
   have hof:=srcOld.first w.drew (fun _ _ _=>rfl)
   rw [hv] at hof
   have hxf:=src.first w.drew (fun _ _ _=>rfl)
   have hrun:=run_append_new (ty:=o.type) (base:=base) ht hu i1 i4 (w:=w) (src.len w) (by rw [i2]; exact hxf) (by rw [i2]; exact hof) (by omega) (by omega) (growslice_fits (by omega) (by rw [i3]; exact hb))
   unfold Oper.wp
   rw [hexec hrun,Oper.upon_value]
   generalize grownCap w (rows.length + rows2.length) cap e = nc at hge hcm ⊢
   have hfl:(zm ys).length = rows2.length * sz:=by rw [yB src.size,<- src.rel.length]
   have hfo:(zm ysOld).length = rows.length * sz:=by rw [yB srcOld.size,<- srcOld.rel.length]
   generalize hw':w.drew.alloc (.cells ((zm ysOld).toArray++(zm ys).toArray++Builtin.zeroCells z.cells (nc - (rows.length + rows2.length))) e) = w'
   have hnew:w'.heap[w.heap.size]? = some (.cells ((zm ysOld).toArray++(zm ys).toArray++Builtin.zeroCells z.cells (nc - (rows.length + rows2.length))) e):=by
    rw [<- hw']; exact heap_alloc_new w.drew _
   have hwsz:w'.heap.size = w.heap.size + 1:=by rw [<- hw']; simp
   have hbel:Below w.heap.size w w':=by
    rw [<- hw']
    exact ((Below.refl _ _).drew).alloc (zyF _) _
   have hext:Ext w pr w' (fun b o=>pr b o ∨ (b = w.heap.size/\o < (rows.length + rows2.length) * sz)) :=
    Ext.protect w pr w' hbel (by rw [<- hw']; exact (DLE.drewN w 1).trans (DLE.of_eq rfl)) _ (fun b o hp=>by rw [hp.1]; omega)
   have hle:=hext.le (lam:=lam) h.prlt
   have hcells:∀ j z',(zm (ysOld++ys))[j]? = some z'->w'.cell? ⟨w.heap.size,j,none⟩ = some z':=by
    intro j z' hz'
    rw [qR] at hz'
    have hlt:j < (zm ysOld++zm ys).length:=(List.getElem?_eq_some_iff.1 hz').1
    simp only [World.cell?,hnew]
    simp only [Option.isSome_none,Bool.false_eq_true,if_false]
    rw [Array.getElem?_append,if_pos (by simpa using hlt)]
    simpa using hz'
   refine hn _ _ w' _ lam hk (((h.ext hext).clear tk).put hd ?_ ?_)
   ·simp only [R]
    refine ⟨some ⟨w.heap.size,0,none⟩,nc,by rw [zyQ],by rw [zyQ]; exact hge,hcm,.inr ⟨w.heap.size,0,sz,rfl,?_⟩⟩
    refine RR.of_vals (ys:=ysOld++ys) ((srcOld.rel.mono hle).append (src.rel.mono hle)) (fun y hy=>?_) fun j z' hz'=>?_
    ·rcases List.mem_append.1 hy with hy | hy
     ·exact srcOld.size y hy
     ·exact src.size y hy
    ·rw [Nat.zero_add]
     have hlt:j < (zm (ysOld++ys)).length:=(List.getElem?_eq_some_iff.1 hz').1
     rw [qR,zyQ,hfo,hfl,<- Nat.add_mul] at hlt
     refine ⟨⟨hcells j z' hz',.inr ⟨rfl,hlt⟩⟩,?_⟩
     have hm':=zyu hz'
     rw [qR] at hm'
     rcases List.mem_append.1 hm' with hm' | hm'
     ·exact srcOld.one z' hm'
     ·exact src.one z' hm'
   ·have hown:Own P (fun g=>w.heap.size <= g) ⟨w',fun b o=>pr b o ∨ (b = w.heap.size/\o < (rows.length + rows2.length) * sz),lam⟩ (tcl tk) e (.slice (some ⟨w.heap.size,0,none⟩) (rows.length + rows2.length) nc):=by
     intro g hg
     have hg'':g = w.heap.size:=by
      simp only [zJ] at hg
      split at hg
      ·cases hg; rfl
      ·cases hg
     subst hg''
     refine ⟨zyF _,_,nc,_,sz,rfl,hnew,by simp [i1,i2],?_,fun o ho hp=>?_⟩
     ·simp only [Array.size_append,List.size_toArray,size_zeroCells,hzc,hfo,hfl,<- Nat.add_mul]
      congr 1; omega
     ·rcases hp with hp | ⟨_,hp⟩
      ·have:=h.prlt _ _ hp; omega
      ·omega
    exact zi8.fresh h hext tk hcl hown
end
end Go.Eng
namespace Go.Eng
open Go.RowKit
mutual
def V.noLoc:V->Bool
 | .loc _ _=>false
 | .mref _=>false
 | .agg cs=>V.noLocL cs
 | .tup cs=>V.noLocL cs
 | .elt cs _=>V.noLocL cs
 | .list rows=>V.noLocL rows
 | .fn _ first cap=>V.noLocL first && V.noLocL cap
 | .iface _ v=>v.noLoc
 | _=>true
def V.noLocL:List V->Bool
 | []=>true
 | c :: cs=>c.noLoc && V.noLocL cs
end
mutual
theorem R.noLoc {w:World} {pr:Nat->Nat->Prop} {lam lam':Nat->Option Nat}:∀ (v:V) (x:Value),v.noLoc = true->R ⟨w,pr,lam⟩ v x->R ⟨w,pr,lam'⟩ v x
 | .any,_,_,_=>by simp [R]
 | .un,_,_,q=>by simpa [R] using q
 | .int _ _,_,_,q=>by simpa [R] using q
 | .bool _,_,_,q=>by simpa [R] using q
 | .str _,_,_,q=>by simpa [R] using q
 | .agg cs,_,n,q=>by
  simp only [V.noLoc] at n
  simp only [R] at q ⊢
  obtain ⟨xs,e,q,q1⟩:=q
  exact ⟨xs,e,RL.noLoc cs xs n q,q1⟩
 | .tup cs,_,n,q=>by
  simp only [V.noLoc] at n
  simp only [R] at q ⊢
  obtain ⟨xs,e,q⟩:=q
  exact ⟨xs,e,RL.noLoc cs xs n q⟩
 | .loc i off,_,n,_=>by simp [V.noLoc] at n
 | .elt cs off,_,n,q=>by
  simp only [V.noLoc] at n
  simp only [R] at q ⊢
  obtain ⟨b,o,e,q⟩:=q
  exact ⟨b,o,e,RC.noLoc b o cs n q⟩
 | .nilp,_,_,q=>by simpa [R] using q
 | .list rows,_,n,q=>by
  simp only [V.noLoc] at n
  simp only [R] at q ⊢
  obtain ⟨base,cap,e,hc,hm,q⟩:=q
  refine ⟨base,cap,e,hc,hm,?_⟩
  rcases q with q | ⟨b,o,k,e2,q⟩
  ·exact .inl q
  ·exact .inr ⟨b,o,k,e2,RR.noLoc b k o rows n q⟩
 | .fn f first cap,_,n,q=>by
  simp only [V.noLoc,zyL] at n
  simp only [R] at q ⊢
  obtain ⟨xs,ys,e,q1,q2⟩:=q
  exact ⟨xs,ys,e,RL.noLoc _ _ n.1 q1,RL.noLoc _ _ n.2 q2⟩
 | .nilfn,_,_,q=>by simpa [R] using q
 | .iface t v,_,n,q=>by
  simp only [V.noLoc] at n
  simp only [R] at q ⊢
  obtain ⟨y,e,q⟩:=q
  exact ⟨y,e,R.noLoc v y n q⟩
 | .nilif,_,_,q=>by simpa [R] using q
 | .mref _,_,n,_=>by simp [V.noLoc] at n
 | .nilm,_,_,q=>by simpa [R] using q
 | .ptr _,_,_,q=>by simpa [R] using q
theorem RL.noLoc {w:World} {pr:Nat->Nat->Prop} {lam lam':Nat->Option Nat}:∀ (cs:List V) (xs:List Value),V.noLocL cs = true->RL ⟨w,pr,lam⟩ cs xs->RL ⟨w,pr,lam'⟩ cs xs
 | [],_,_,q=>by simpa [RL] using q
 | c :: cs,_,n,q=>by
  simp only [V.noLocL,zyL] at n
  simp only [RL] at q ⊢
  obtain ⟨y,ys,e,q1,q2⟩:=q
  exact ⟨y,ys,e,R.noLoc c y n.1 q1,RL.noLoc cs ys n.2 q2⟩
theorem RC.noLoc {w:World} {pr:Nat->Nat->Prop} {lam lam':Nat->Option Nat} (b:Nat):∀ (o:Nat) (cs:List V),V.noLocL cs = true->RC ⟨w,pr,lam⟩ b o cs->RC ⟨w,pr,lam'⟩ b o cs
 | _,[],_,_=>by simp [RC]
 | o,c :: cs,n,q=>by
  simp only [V.noLocL,zyL] at n
  simp only [RC] at q ⊢
  obtain ⟨⟨y,q0,q3,q1⟩,q2⟩:=q
  exact ⟨⟨y,q0,q3,R.noLoc c y n.1 q1⟩,RC.noLoc b (o + 1) cs n.2 q2⟩
theorem RR.noLoc {w:World} {pr:Nat->Nat->Prop} {lam lam':Nat->Option Nat} (b k:Nat):∀ (o:Nat) (cs:List V),V.noLocL cs = true->RR ⟨w,pr,lam⟩ b k o cs->RR ⟨w,pr,lam'⟩ b k o cs
 | _,[],_,_=>by simp [RR]
 | o,c :: cs,n,q=>by
  simp only [V.noLocL,zyL] at n
  simp only [RR] at q ⊢
  obtain ⟨⟨y,q0,q1,q3⟩,q2⟩:=q
  exact ⟨⟨y,R.noLoc c y n.1 q0,q1,q3⟩,RR.noLoc b k (o + k) cs n.2 q2⟩
end
theorem RM.noLoc {w:World} {pr:Nat->Nat->Prop} {lam lam':Nat->Option Nat}:∀ (cs:List V) (es:List MapEntry),V.noLocL cs = true->RM ⟨w,pr,lam⟩ cs es->RM ⟨w,pr,lam'⟩ cs es
 | [],_,_,q=>by simpa [RM] using q
 | c :: cs,_,n,q=>by
  simp only [V.noLocL,zyL] at n
  simp only [RM] at q ⊢
  obtain ⟨k,v,e,es',rfl,h2,h3,h4,h5⟩:=q
  simp only [V.noLoc,V.noLocL,zyL] at n
  exact ⟨k,v,e,es',rfl,h2,h3.noLoc _ _ n.1.1,h4.noLoc _ _ n.1.2.1,RM.noLoc cs es' n.2 h5⟩
theorem Yc.noLoc {w:World} {pr:Nat->Nat->Prop} {lam lam':Nat->Option Nat} {b:Nat} {B:Box} (n:V.noLocL B.cells = true) (h:Yc ⟨w,pr,lam⟩ b B):Yc ⟨w,pr,lam'⟩ b B:=by
 refine ⟨fun ht=>?_,fun ht=>?_⟩
 ·obtain ⟨cur,h1,h2,h3⟩:=h.cells ht
  exact ⟨cur,h1,RL.noLoc _ _ n h2,h3⟩
 ·obtain ⟨es,clock,h1,h2⟩:=h.map ht
  exact ⟨es,clock,h1,RM.noLoc _ _ n h2.1,h2.2⟩
def zdo (w:World) (pr:Nat->Nat->Prop) (lam:Nat->Option Nat) (bs:List Box):Prop :=
 ∀ i B,bs[i]? = some B->∃ b,lam i = some b/\Yc ⟨w,pr,lam⟩ b B/\(∀ o,¬ pr b o)
structure Left (w:World) (pr:Nat->Nat->Prop) (lam:Nat->Option Nat) (w':World) (pr':Nat->Nat->Prop):Prop where
 os:w'.os = w.os
 tape:w'.tape = w.tape
 output:w'.output = w.output
 drawn:DLE w w'
 size:w.heap.size <= w'.heap.size
 block:∀ k,k < w.heap.size->(∀ i,lam i ≠ some k)->w'.heap[k]? = w.heap[k]?
 sub:∀ b o,pr b o->pr' b o
 new:∀ b o,pr' b o->pr b o ∨ (w.heap.size <= b/\b < w'.heap.size)
def Fn (P:Program) (f:FuncId) (args:List V) (ins:List Box) (res:V) (outs:List Box):Prop :=
 ∀ (w:World) (pr:Nat->Nat->Prop) (lam:Nat->Option Nat) (cargs:Array Value),
  HL w pr->RL ⟨w,pr,lam⟩ args cargs.toList->zdo w pr lam ins ->
  (∀ i j b,lam i = some b->lam j = some b->i = j)->(∀ i,ins.length <= i->lam i = none) ->
  Calls P f cargs w fun e w'=>∃ v pr',e = .returned v/\R ⟨w',pr',lam⟩ res v/\zdo w' pr' lam outs/\Left w pr lam w' pr'
def zbH (P:Program) (f:FuncId):Bool:=match P.funcs[f]? with
 | some fn => fn.name != "runtime.NumGoroutine" && fn.body.isSome
 | none=>false
section
variable {P:Program} {o:Oper} {ρ:Operand->V} {bx:Nat->Option Box}
theorem run_callFunc {f:FuncId} (h:zbH P f = true) (args:Array Value) (w:World):(callFunc f args).run P w = .ok (.enter f args) w:=by
 unfold zbH at h
 cases hf:P.funcs[f]? with
 | none=>rw [hf] at h; cases h
 | some fn =>
  rw [hf] at h
  simp only [zyL,bne_iff_ne,ne_eq] at h
  obtain ⟨h1,h2⟩:=h
  cases hb:fn.body with
  | none=>rw [hb] at h2; cases h2
  | some c=>simp [callFunc,hf,h1,hb]
theorem ZE {E:Env} {ac:Act}:∀ (l:List Operand),(∀ x ∈ l,R E (ρ x) (ac.eval x))->RL E (l.map ρ) (l.map ac.eval)
 | [],_=>by simp [RL]
 | x :: l,h=>by
  simp only [List.map_cons,RL]
  exact ⟨_,_,rfl,h x (by simp),ZE l fun y hy=>h y (by simp [hy])⟩
theorem zb9 {c:Operand} {args:Array Operand} {tys:Array TypeId} {f:FuncId} {xs ys:List Value} {ac:Act} {w:World} (ho:o.op = .call { callee:=.value c,args:=args,argTypes:=tys })
  (hc:ac.eval c = .func (.func f) xs.toArray ys.toArray) (hg:zbH P f = true) :
  (execOp ac.eval o).run P w = .ok (.enter f (xs.toArray++args.map ac.eval++ys.toArray)) w:=by
 simp only [execOp,ho,resolve,hc,Deferred.ofValue,Sem.run_bind,Sem.run_pure,Result.andThen_ok,invoke,run_callFunc hg]
theorem zkf {c:Operand} {args:Array Operand} {tys:Array TypeId} {f:FuncId} {first cap:List V} {res:V} (ho:o.op = .call { callee:=.value c,args:=args,argTypes:=tys })
  (hc:ρ c = .fn (.func f) first cap) (hg:zbH P f = true) (hn:V.noLocL (first++args.toList.map ρ++cap) = true)
  (hf:Fn P f (first++args.toList.map ρ++cap) [] res []):QV P o ρ bx res none:=by
 intro a w pr lam hlt hop _ next Q hk
 have h1:=hop c (by simp [ho,Op.operands,Call.operands])
 rw [hc] at h1
 simp only [R] at h1
 obtain ⟨xs,ys,e1,q1,q2⟩:=h1
 have q3:=ZE (ρ:=ρ) (E:=⟨w,pr,lam⟩) (ac:=a) args.toList fun x hx=>hop x (by simp [ho,Op.operands,Call.operands]; exact .inr (by simpa using hx))
 unfold Oper.wp
 rw [zb9 ho e1 hg,Oper.upon_enter]
 refine (hf w pr (fun _=>none) _ hlt ?_ ?_ ?_ ?_).mono ?_
 ·have:=RL.noLoc (lam':=fun _=>none) _ _ hn ((q1.append q3).append q2)
  simpa using this
 ·intro i B hi; simp at hi
 ·intro i j b hi; cases hi
 ·intro _ _; rfl
 ·rintro e w' ⟨v,pr',rfl,hr,_,hl⟩
  have hext:Ext w pr w' pr':=⟨⟨hl.os,hl.tape,hl.output,hl.size,fun k hk'=>hl.block k hk' (fun i hi=>by cases hi)⟩,hl.drawn,hl.sub,hl.new⟩
  have hle:Env.Le ⟨w',pr',fun _=>none⟩ ⟨w',pr',lam⟩:=⟨(fun i b hi=>by cases hi),fun _ _ h=>h,fun _ _ _=>rfl⟩
  exact hk v w' pr' hext (hr.mono hle) (fun c e he=>(by cases he))
def FnO (P:Program) (f:FuncId) (args:List V) (res:V) (e:TypeId):Prop :=
 ∀ (w:World) (pr:Nat->Nat->Prop) (cargs:Array Value),HL w pr->RL ⟨w,pr,fun _=>none⟩ args cargs.toList ->
  Calls P f cargs w fun en w'=>∃ v pr',en = .returned v/\R ⟨w',pr',fun _=>none⟩ res v/\Left w pr (fun _=>none) w' pr'/\Own P (fun g=>w.heap.size <= g) ⟨w',pr',fun _=>none⟩ 0 e v
theorem zsg {c:Operand} {args:Array Operand} {tys:Array TypeId} {f:FuncId} {first cap:List V} {res:V} {e:TypeId} (ho:o.op = .call { callee:=.value c,args:=args,argTypes:=tys })
  (hc:ρ c = .fn (.func f) first cap) (hg:zbH P f = true) (hn:V.noLocL (first++args.toList.map ρ++cap) = true)
  (hf:FnO P f (first++args.toList.map ρ++cap) res e):QV P o ρ bx res (some (0,e)):=by
 intro a w pr lam hlt hop _ next Q hk
 have h1:=hop c (by simp [ho,Op.operands,Call.operands])
 rw [hc] at h1
 simp only [R] at h1
 obtain ⟨xs,ys,e1,q1,q2⟩:=h1
 have q3:=ZE (ρ:=ρ) (E:=⟨w,pr,lam⟩) (ac:=a) args.toList fun x hx=>hop x (by simp [ho,Op.operands,Call.operands]; exact .inr (by simpa using hx))
 unfold Oper.wp
 rw [zb9 ho e1 hg,Oper.upon_enter]
 refine (hf w pr _ hlt ?_).mono ?_
 ·have:=RL.noLoc (lam':=fun _=>none) _ _ hn ((q1.append q3).append q2)
  simpa using this
 ·rintro en w' ⟨v,pr',rfl,hr,hl,hown⟩
  have hext:Ext w pr w' pr':=⟨⟨hl.os,hl.tape,hl.output,hl.size,fun k hk'=>hl.block k hk' (fun i hi=>by cases hi)⟩,hl.drawn,hl.sub,hl.new⟩
  have hle:Env.Le ⟨w',pr',fun _=>none⟩ ⟨w',pr',lam⟩:=⟨(fun i b hi=>by cases hi),fun _ _ h=>h,fun _ _ _=>rfl⟩
  exact hk v w' pr' hext (hr.mono hle) (fun c' e' he=>by cases he; exact ⟨by decide,hown⟩)
def zfg (place:Nat->Option (Nat × Nat)) (cells:List V):List (Nat × V)->Option (List V)
 | []=>some cells
 | (i,v) :: rest =>
  match place i,v.csize with
  | some (off,size),some n=>if n ≠ size ∨ off + n > cells.length then none else zfg place (cells.take off++v.cellsL++cells.drop (off + n)) rest
  | _,_=>none
theorem foldl_set (xs:List Value):∀ (j:Nat) (cs:Array Value) (off:Nat),off + j + xs.length <= cs.size ->
  ((xs.zipIdx j).foldl (fun cs (c,j)=>cs.setIfInBounds (off + j) c) cs).toList = cs.toList.take (off + j)++xs++cs.toList.drop (off + j + xs.length):=by
 induction xs with
 | nil=>intro j cs off h; simp
 | cons x xs ih =>
  intro j cs off h
  simp only [List.zipIdx_cons,List.foldl_cons]
  rw [ih (j + 1) _ off (by simp at h ⊢; omega)]
  have e:=list_seg_step cs.toList (off + j) x xs (by simp at h ⊢; omega)
  simpa [Array.toList_setIfInBounds,Nat.add_assoc] using e
theorem zgL {E:Env} {place:Nat->Option (Nat × Nat)}:∀ (parts:List (Nat × V)) (vals:List (Nat × Value)) (cells:List V) (cur:Array Value) (out:List V),
  parts.map (·.1) = vals.map (·.1)->RL E (parts.map (·.2)) (vals.map (·.2))->RL E cells cur.toList->(∀ y ∈ cur.toList,y.oneCell' = true)->zfg place cells parts = some out ->
  ∃ cur':Array Value,Instr.fill place cur vals = some cur'/\RL E out cur'.toList/\(∀ y ∈ cur'.toList,y.oneCell' = true)
 | [],vals,cells,cur,out,h1,_,h3,h4,h5=>by
  simp only [zfg,zyO] at h5; subst h5
  have:vals = []:=by cases vals with | nil=>rfl | cons _ _=>simp at h1
  subst this
  exact ⟨cur,rfl,h3,h4⟩
 | (i,v) :: parts,vals,cells,cur,out,h1,h2,h3,h4,h5=>by
  cases vals with
  | nil=>simp at h1
  | cons x vals =>
   obtain ⟨i',x⟩:=x
   simp only [List.map_cons,List.cons.injEq] at h1
   obtain ⟨rfl,h1⟩:=h1
   simp only [List.map_cons,RL] at h2
   obtain ⟨y,ys,he,hv,h2⟩:=h2
   simp only [List.cons.injEq] at he
   obtain ⟨rfl,rfl⟩:=he
   simp only [zfg] at h5
   split at h5
   ·rename_i off size n hp hn
    split at h5
    ·cases h5
    ·rename_i hc
     obtain ⟨hc1,hc2⟩:=not_or.1 hc
     have hc1:n = size:=Classical.byContradiction fun q=>hc1 q
     subst hc1
     have hsz:=hv.csize hn
     obtain ⟨r1,r2⟩:=hv.cells hn
     have hlen:=h3.length
     simp at hlen
     have hfold:=foldl_set x.cells.toList 0 cur off (by simp [hsz]; omega)
     simp only [Nat.add_zero,Array.length_toList,hsz] at hfold
     generalize hcur':(x.cells.zipIdx.foldl (fun cs (c,j)=>cs.setIfInBounds (off + j) c) cur) = cur'
     have hcur'':cur'.toList = cur.toList.take off++x.cells.toList++cur.toList.drop (off + n):=by
      rw [<- hfold,<- hcur',<- Array.foldl_toList,Array.toList_zipIdx]
     obtain ⟨cf,q1,q2,q3⟩:=zgL parts vals _ cur' out h1 h2 (by
      rw [hcur'']; exact ((h3.take off).append r1).append (h3.drop (off + n))) (by
      intro z hz
      rw [hcur''] at hz
      simp only [List.mem_append] at hz
      rcases hz with (hz | hz) | hz
      ·exact h4 z (List.mem_of_mem_take hz)
      ·exact r2 z hz
      ·exact h4 z (List.mem_of_mem_drop hz)) h5
     refine ⟨cf,?_,q2,q3⟩
     simp only [Instr.fill,hp,hsz]
     rw [if_neg (by simp; omega),hcur']
     exact q1
   ·cases h5
def zgf (P:Program) (t:TypeId):Option (Nat->Option (Nat × Nat)) :=
 match P.underlying t with
 | some (.struct fs)=>((fs.toList.map fun f=>(sizeT P f.type).map fun n=>(f.offset,n)).mapM id).map fun l=>fun i=>l[i]?
 | some (.array _ e)=>(sizeT P e).map fun n=>fun i=>some (i * n,n)
 | _=>none
theorem zbm {g:Field->Sem (Nat × Nat)} (hg:∀ f n w,sizeT P f.type = some n->(g f).run P w = .ok (f.offset,n) w):∀ (fs:List Field) (l:List (Nat × Nat)) (w:World),(fs.map fun f=>(sizeT P f.type).map fun n=>(f.offset,n)).mapM id = some l ->
  (fs.mapM g).run P w = .ok l w
 | [],l,w,h=>by simp at h; subst h; simp
 | f :: fs,l,w,h=>by
  cases hs:sizeT P f.type with
  | none=>simp [hs] at h
  | some n =>
   cases hr:(fs.map fun f=>(sizeT P f.type).map fun n=>(f.offset,n)).mapM id with
   | none=>simp [hs,hr] at h
   | some l' =>
    simp [hs,hr] at h
    subst h
    simp [List.mapM_cons,hg f n w hs,zbm hg fs l' w hr]
theorem zsh {t:TypeId} {parts:Array (Nat × Operand)} {zv:V} {place:Nat->Option (Nat × Nat)} {out:List V} {n:Nat} (ho:o.op = .build t parts) (hz:zeroT P t = some zv) (hzn:zv.csize = some n)
  (hp:zgf P t = some place) (hf:zfg place zv.cellsL (parts.toList.map fun x=>(x.1,ρ x.2)) = some out):QV P o ρ bx (.agg out) none :=
 QV.pure fun ac w pr lam hop _=>by
  obtain ⟨i,z,z1,z2,rfl⟩:=zeroT_spec hz
  obtain ⟨r1,r2⟩:=(QD ⟨w,pr,lam⟩ z).cells hzn
  have hrel:RL ⟨w,pr,lam⟩ ((parts.toList.map fun x=>(x.1,ρ x.2)).map (·.2)) ((parts.toList.map fun x=>(x.1,ac.eval x.2)).map (·.2)):=by
   have:=ZE (ρ:=ρ) (E:=⟨w,pr,lam⟩) (ac:=ac) (parts.toList.map (·.2)) fun x hx=>hop x (by simp [ho,Op.operands]; simpa using hx)
   simpa [List.map_map,Function.comp_def] using this
  obtain ⟨cur,q1,q2,q3⟩:=zgL _ (parts.toList.map fun x=>(x.1,ac.eval x.2)) _ z.cells out (by simp [List.map_map,Function.comp_def]) hrel r1 r2 hf
  have hzero:(zeroValue t).run P w = .ok z w:=by simp [zeroValue,typeInfo,z1,z2]
  refine ⟨.agg cur,?_,by simp only [R]; exact ⟨cur.toList,by simp,q2,q3⟩⟩
  simp only [execOp,ho]
  unfold zgf at hp
  split at hp
  ·rename_i fs hu
   cases hl:(fs.toList.map fun f=>(sizeT P f.type).map fun n=>(f.offset,n)).mapM id with
   | none=>rw [hl] at hp; cases hp
   | some l =>
    rw [hl] at hp
    simp only [Option.map_some,zyO] at hp
    subst hp
    have hm:∀ g:Field->Sem (Nat × Nat),(∀ f n w,sizeT P f.type = some n->(g f).run P w = .ok (f.offset,n) w)->(fs.mapM g).run P w = .ok l.toArray w:=by
     intro g hg
     rw [<- Array.toArray_toList (xs:=fs),List.mapM_toArray]
     simp [zbm hg fs.toList l w hl]
    have hm':=hm (fun f=>Prod.mk f.offset <$> sizeOf f.type) (fun f n w hs=>by simp [run_sizeOf hs])
    simp [Instr.build,hzero,run_underlying hu,hm',q1]
  ·rename_i len e hu
   cases hs:sizeT P e with
   | none=>rw [hs] at hp; cases hp
   | some m =>
    rw [hs] at hp
    simp only [Option.map_some,zyO] at hp
    subst hp
    simp [Instr.build,hzero,run_underlying hu,run_sizeOf hs,q1]
  ·cases hp
end
end Go.Eng
namespace Go.Eng
open Go.RowKit
section
variable {P:Program} {o:Oper} {ρ:Operand->V} {bx:Nat->Option Box}
theorem zgM {e:TypeId} {n:Nat} (h:sizeT P e = some n):∃ i,P.info? e = some i/\i.size = n:=by
 unfold sizeT at h
 cases hi:P.info? e with
 | none=>simp [hi] at h
 | some i=>simp [hi] at h; exact ⟨i,rfl,h⟩
theorem zgN {w w':World} {pr:Nat->Nat->Prop} {lam:Nat->Option Nat} {rows:List V} {ys:List Value} {arr:Array Value} {e:TypeId} {fz:Nat × Nat} {cap sz:Nat}
  (hlt:∀ b o,pr b o->b < w.heap.size) (hbel:Below w.heap.size w w') (hdl:DLE w w') (hlt':w.heap.size < w'.heap.size) (hg:w'.heap[w.heap.size]? = some (.cells arr e fz)) (hr:RL ⟨w,pr,lam⟩ rows ys) (hs:∀ y ∈ ys,y.cells.size = sz) (h1:∀ z ∈ zm ys,z.oneCell' = true)
  (hc:∀ (j:Nat) z,(zm ys)[j]? = some z->arr[j]? = some z) (hcap:rows.length <= cap) (hm:cap <= maxLen) :
  Ext w pr w' (fun b o=>pr b o ∨ (b = w.heap.size/\o < (zm ys).length)) /\
  R ⟨w',fun b o=>pr b o ∨ (b = w.heap.size/\o < (zm ys).length),lam⟩ (.list rows) (.slice (some ⟨w.heap.size,0,none⟩) rows.length cap):=by
 have hext:Ext w pr w' (fun b o=>pr b o ∨ (b = w.heap.size/\o < (zm ys).length)):=Ext.protect w pr w' hbel hdl _ (fun b o hp=>by rw [hp.1]; omega)
 refine ⟨hext,?_⟩
 have hle:=hext.le (lam:=lam) hlt
 simp only [R]
 refine ⟨some ⟨w.heap.size,0,none⟩,cap,rfl,hcap,hm,.inr ⟨w.heap.size,0,sz,rfl,RR.of_vals (hr.mono hle) hs fun j z hz=>?_⟩⟩
 rw [Nat.zero_add]
 have hj:j < (zm ys).length:=(List.getElem?_eq_some_iff.1 hz).1
 refine ⟨⟨?_,.inr ⟨rfl,hj⟩⟩,h1 z (zyu hz)⟩
 simpa [World.cell?,hg] using hc j z hz
theorem zjb {E:Env} {sz:Nat}:∀ {rows:List V} {ys:List Value},RL E rows ys->qL sz rows->(∀ y ∈ ys,y.cells.size = sz)/\(∀ z ∈ zm ys,z.oneCell' = true)
 | [],ys,h,_=>by simp only [RL] at h; subst h; simp [zm]
 | r :: rs,ys,h,hr=>by
  simp only [RL] at h
  obtain ⟨y,ys,rfl,h1,h⟩:=h
  obtain ⟨q1,q2⟩:=zjb h fun r' hr'=>hr r' (by simp [hr'])
  have hc:=hr r (by simp)
  obtain ⟨_,r2⟩:=h1.cells hc
  refine ⟨fun z hz=>?_,fun z hz=>?_⟩
  ·rcases List.mem_cons.1 hz with rfl | hz
   ·exact h1.csize hc
   ·exact q1 z hz
  ·simp only [zm,List.flatMap_cons,List.mem_append] at hz
   rcases hz with hz | hz
   ·exact r2 z hz
   ·exact q2 z hz
theorem Own.full {N:Nat->Prop} {E:Env} {c:Nat} {e:TypeId} {b:Option Addr}:Own P N E c e (.slice b 0 0):=by
 intro g hg
 exfalso
 cases b <;> simp [zJ] at hg
theorem zix {t e:TypeId} {len sz:Nat} {parts:Array (Nat × Operand)} {zv:V} (ho:o.op = .buildSlice t len parts) (ht:P.underlying t = some (.slice e)) (hs:sizeT P e = some sz) (h0:sz ≠ 0)
  (hz:zeroT P e = some zv) (hzn:zv.csize = some sz) (hlen:parts.size = len) (hsmall:len * sz <= 16777216) (hidx:parts.toList.map (·.1) = List.range len)
  (hrows:qL sz (parts.toList.map fun x=>ρ x.2)):QV P o ρ bx (.list (parts.toList.map fun x=>ρ x.2)) (some (0,e)) :=
 QV.of_run fun ac w pr lam hlt hop _=>by
  obtain ⟨i,z,i1,i2,rfl⟩:=zeroT_spec hz
  obtain ⟨i',j1,j2⟩:=zgM hs
  rw [i1] at j1; cases j1
  have hrel:RL ⟨w,pr,lam⟩ (parts.toList.map fun x=>ρ x.2) (parts.toList.map fun x=>ac.eval x.2):=by
   have:=ZE (ρ:=ρ) (E:=⟨w,pr,lam⟩) (ac:=ac) (parts.toList.map (·.2)) fun x hx=>hop x (by simp [ho,Op.operands]; simpa using hx)
   simpa [List.map_map,Function.comp_def] using this
  obtain ⟨q1,q2⟩:=zjb hrel hrows
  generalize hvs:(parts.toList.map fun x=>ac.eval x.2) = vs at *
  have hvl:vs.length = len:=by rw [<- hvs]; simpa using hlen
  have hparts:(parts.map fun x=>(x.1,ac.eval x.2)).toList = (vs.zipIdx 0).map fun x=>(x.2,x.1):=by
   apply List.ext_getElem?
   intro k
   have hk:(parts.toList.map (·.1))[k]? = (List.range len)[k]?:=by rw [hidx]
   simp only [List.getElem?_map,Array.toList_map,List.getElem?_zipIdx,<- hvs,Nat.zero_add] at hk ⊢
   by_cases hkl:k < len
   ·have hkp:k < parts.toList.length:=by simpa [hlen] using hkl
    simp [zys hkp,List.getElem?_range hkl] at hk ⊢
    exact hk
   ·simp [List.getElem?_eq_none (show parts.toList.length <= k by simp [hlen]; omega)]
  have hrl:(parts.toList.map fun x=>ρ x.2).length = len:=by simpa using hlen
  by_cases hl0:len = 0
  ·subst hl0
   have hp0:parts = #[]:=Array.eq_empty_of_size_eq_zero hlen
   subst hp0
   have hv0:vs = []:=zyR hvl
   subst hv0
   have hrun:(Instr.buildSlice t 0 #[]).run P w = .ok (.slice (some ⟨w.heap.size,0,none⟩) 0 0) (w.alloc (.cells #[] e)):=by
    simp [Instr.buildSlice,run_underlying ht,sizeOf,typeInfo,i1,Instr.fill,newRow]
    congr 2
    apply Array.eq_empty_of_size_eq_zero
    simp
   obtain ⟨r1,r2⟩:=zgN (sz:=sz) (cap:=0) (rows:=([]:List V)) (ys:=[]) (arr:=#[]) (e:=e) (fz:=(0,0)) hlt.lt ((Below.refl _ w).alloc (zyF _) (.cells #[] e)) (DLE.of_eq rfl) (by simp) (heap_alloc_new w _) (lam:=lam) (by simp [RL]) (by simp) (by simp [zm]) (by simp [zm]) (by simp) (by simp)
   exact ⟨_,_,_,by simp only [execOp,ho]; simp [hrun],r1,r2,fun _ _ hce=>by cases hce; exact ⟨by omega,Own.full⟩⟩
  ·have hfill:=Go.Great.fill_whole (s:=i.size) (by omega) vs ((Array.range (len * i.size)).map (z.cells[· % z.cells.size]!)) (by rw [j2]; exact q1) (by simp [hvl])
   rw [<- hparts] at hfill
   have hrun:=run_buildSlice (P:=P) w t e len _ _ i z ht i1 i2 (by rw [j2]; omega) (by rw [j2]; exact fun hq=>by rcases Nat.mul_eq_zero.1 hq with h | h <;> omega) hfill
   obtain ⟨r1,r2⟩:=zgN (sz:=sz) (cap:=len) (e:=e) (fz:=(0,0)) (arr:=(vs.flatMap fun v=>v.cells.toList).toArray) hlt.lt ((Below.refl _ w).alloc (zyF _) (.cells (vs.flatMap fun v=>v.cells.toList).toArray e)) (DLE.of_eq rfl) (by simp) (heap_alloc_new w _) hrel q1 q2
    (fun j z hz=>by simpa [zm] using hz) (by omega) (by simp only [maxLen]; have:len * 1 <= len * sz:=Nat.mul_le_mul_left _ (by omega); omega)
   rw [hrl] at r2
   refine ⟨_,_,_,by simp only [execOp,ho]; simp [hrun],r1,r2,fun _ _ hce=>?_⟩
   cases hce
   refine ⟨by omega,fun g hg=>?_⟩
   have hg'':g = w.heap.size:=by
    simp only [zJ] at hg
    split at hg
    ·cases hg; rfl
    ·cases hg
   subst hg''
   have hfl:(zm vs).length = len * sz:=by rw [yB q1,hvl]
   refine ⟨zyF _,len,len,_,sz,rfl,heap_alloc_new w _,by simp [i1,j2],?_,fun o ho' hp=>?_⟩
   ·simpa [zm] using hfl
   ·rcases hp with hp | ⟨_,hp⟩
    ·have:=hlt.lt _ _ hp; omega
    ·rw [hfl] at hp; omega
theorem flatC_bytes (s:List UInt8):zm (s.map fun b=>Value.int .u8 (b.toNat:Int)) = s.map fun b=>Value.int .u8 (b.toNat:Int):=by
 induction s with
 | nil=>rfl
 | cons b s ih=>simp only [zm,List.map_cons,List.flatMap_cons] at ih ⊢; rw [ih]; rfl
theorem RL_bytes (E:Env):∀ s:List UInt8,RL E (bytesV s) (s.map fun b=>Value.int .u8 (b.toNat:Int))
 | []=>by simp [bytesV,RL]
 | b :: s=>by
  simp only [bytesV,List.map_cons,RL]
  exact ⟨_,_,rfl,by simp [R],RL_bytes E s⟩
theorem zdp {s d e:TypeId} {x:Operand} {l:List UInt8} (ho:o.op = .convert s d x) (hx:ρ x = .str l) (hs:P.underlying s = some .string) (hd:P.underlying d = some (.slice e)) (he:P.underlying e = some (.int .u8)) :
  QV P o ρ bx (.list (bytesV l)) none :=
 QV.of_run fun ac w pr lam hlt hop _=>by
  have h1:=hop x (by simp [ho,Op.operands])
  rw [hx] at h1
  simp only [R] at h1
  obtain ⟨h1,hl⟩:=h1
  have hsz:(ByteArray.mk l.toArray).size = l.length:=by simp [ByteArray.size]
  have hrun:=Go.Lib.run_convert_string_bytes (P:=P) w s d e (ByteArray.mk l.toArray) hs hd he
  rw [hsz] at hrun
  have hge:=grownCap_ge w l.length 0 e
  have hcm:=grownCap_le_maxLen w l.length 0 e hl
  obtain ⟨r1,r2⟩:=zgN (sz:=1) (cap:=grownCap w l.length 0 e) (rows:=bytesV l) (ys:=l.map fun b=>Value.int .u8 (b.toNat:Int)) (lam:=lam) hlt.lt
   (w':=Go.Lib.bytesWorld w e (ByteArray.mk l.toArray)) ⟨rfl,rfl,rfl,by rw [Go.Lib.bytesWorld_size]; omega,fun k hk=>Go.Lib.bytesWorld_at_old w e _ k hk⟩ (by first | exact DLE.of_eq rfl | exact (DLE.drewN w 1).trans (DLE.of_eq rfl)) (by rw [Go.Lib.bytesWorld_size]; omega) (Go.Lib.bytesWorld_at_new w e _) (RL_bytes _ l)
   (by simp [Value.cells]) (by rw [flatC_bytes]; simp [Value.oneCell'])
   (fun j z hz=>by
    rw [flatC_bytes] at hz
    have hjl:j < l.length:=by have:=(List.getElem?_eq_some_iff.1 hz).1; simpa using this
    simp only [Go.Lib.bytesCells]
    rw [Array.getElem?_append,if_pos (by simpa using hjl)]
    simpa using hz)
   (by simpa [bytesV] using hge) hcm
  refine ⟨_,_,_,?_,r1,r2,fun c e' he'=>by cases he'⟩
  simp only [execOp,ho,h1]
  simp [hrun,bytesV]
theorem zdq {s d e:TypeId} {x:Operand} {l:List UInt8} (ho:o.op = .convert s d x) (hx:ρ x = .list (bytesV l)) (hs:P.underlying s = some (.slice e)) (he:P.underlying e = some (.int .u8)) (hd:P.underlying d = some .string) :
  QV P o ρ bx (.str l) none :=
 QV.pure fun ac w pr lam hop _=>by
  have h1:=hop x (by simp [ho,Op.operands])
  rw [hx] at h1
  have hlen:=h1.list_len
  obtain ⟨ys,src⟩:=Src.list (P:=P) (sz:=1) h1 (by intro r hr; simp [bytesV] at hr; obtain ⟨b,_,rfl⟩:=hr; rfl)
  simp only [R] at h1
  obtain ⟨base,cap,h1,hc,hm,hb⟩:=h1
  have hbl:(bytesV l).length = l.length:=by simp [bytesV]
  have hys:zm ys = l.map fun b=>Value.int .u8 (b.toNat:Int):=by
   have hrel:=src.rel
   clear src hb h1 hc hm hlen hop hx hbl
   induction l generalizing ys with
   | nil=>simp only [bytesV,List.map_nil,RL] at hrel; subst hrel; rfl
   | cons b l ih =>
    simp only [bytesV,List.map_cons,RL] at hrel
    obtain ⟨y,ys',rfl,hy,hrel⟩:=hrel
    simp only [R] at hy
    subst hy
    have:=ih ys' hrel
    simp only [zm,List.flatMap_cons,List.map_cons] at this ⊢
    rw [this]; rfl
  have hf:=src.first w (fun _ _ _=>rfl)
  rw [h1,hys] at hf
  have hrun:(convert s d (.slice base (bytesV l).length cap)).run P w = .ok (.string ⟨l.toArray⟩) w:=by
   cases base with
   | none =>
    have hl0:l = []:=by
     rcases hb with ⟨hb,_⟩ | ⟨b,o',k,hb,_⟩
     ·simpa [bytesV] using hb
     ·cases hb
    subst hl0
    rw [run_convert_bytes_nil w s e hs he _ _ d hd]
    rfl
   | some a =>
    simp only [Builtin.firstCells,Nat.mul_one] at hf
    rw [run_convert_bytes_string w s d e _ _ _ hs he hd,run_bytesToString w a _ cap (l.map fun b=>(b.toNat:Int)) (by simpa [List.map_map,Function.comp_def] using hf),foldl_push_byteCells]
    simp [ByteArray.empty,ByteArray.emptyWithCapacity]
    rfl
  refine ⟨.string ⟨l.toArray⟩,?_,by simp only [R]; exact ⟨trivial,by rw [hbl] at hlen; exact hlen⟩⟩
  simp only [execOp,ho,h1]
  simp [hrun]
theorem Src.str {w:World} {pr:Nat->Nat->Prop} {lam:Nat->Option Nat} {x:Value} {l:List UInt8} (h:R ⟨w,pr,lam⟩ (.str l) x):∃ ys,Src P w pr lam 1 x (bytesV l) ys:=by
 simp only [R] at h
 obtain ⟨rfl,hl⟩:=h
 have hsz:(ByteArray.mk l.toArray).size = l.length:=by simp [ByteArray.size]
 refine ⟨l.map fun b=>Value.int .u8 (b.toNat:Int),fun w'=>by simp [Builtin.lenOf,bytesV,hsz],fun w' _=>?_,RL_bytes _ l,by simp [Value.cells],by rw [flatC_bytes]; simp [Value.oneCell']⟩
 rw [flatC_bytes]
 simp only [Builtin.firstCells,bytesV,List.length_map]
 have:(ByteArray.mk l.toArray).extract 0 l.length = ByteArray.mk l.toArray:=by
  apply ByteArray.ext
  simp [ByteArray.data_extract]
 rw [this]
 simp
end
end Go.Eng
namespace Go.Eng
open Go.RowKit
inductive CK where
 | int (k:IntKind) | bool | str
 deriving DecidableEq
def zdr:Value->Option CK
 | .int k _=>some (.int k)
 | .bool _=>some .bool
 | .string _=>some .str
 | _=>none
def Qb:V->Option CK
 | .int k _=>some (.int k)
 | .bool _=>some .bool
 | .str _=>some .str
 | _=>none
def YI:Value->Value->Bool
 | .int _ a,.int _ b=>a == b
 | .bool a,.bool b=>a == b
 | .string a,.string b=>a.toList == b.toList
 | _,_=>false
def Y1:V->V->Bool
 | .int _ a,.int _ b=>a == b
 | .bool a,.bool b=>a == b
 | .str a,.str b=>a == b
 | _,_=>false
def eqC:List Value->List Value->Bool
 | x :: xs,y :: ys=>YI x y && eqC xs ys
 | _,_=>true
def eqV:List V->List V->Bool
 | [x],[y]=>Y1 x y
 | x :: xs,y :: ys=>Y1 x y && eqV xs ys
 | _,_=>true
def zgO (P:Program) (lay:TypeId->Option (List CK)):List Field->Nat->Option (List CK)
 | [],_=>some []
 | f :: fs, o => if f.name ≠ "_" /\ f.offset = o then
   match lay f.type with
   | some l=>if sizeT P f.type = some l.length then (zgO P lay fs (o + l.length)).map (l++·) else none
   | none=>none
  else none
def Yl (P:Program):Nat->TypeId->Option (List CK)
 | 0,_=>none
 | d + 1,t=>match P.underlying t with
  | some (.int k)=>some [.int k]
  | some .bool=>some [.bool]
  | some .string=>some [.str]
  | some (.struct fs)=>if P.stoodInHeld t = true then none else zgO P (Yl P d) fs.toList 0
  | some (.array n e)=>match Yl P d e with
   | some l=>if sizeT P e = some l.length then some (List.replicate n l).flatten else none
   | none=>none
  | _=>none
section
variable {P:Program}
def Zy (P:Program) (t:TypeId) (xs:List Value):Value:=if aggT P t = some true then .agg xs.toArray else xs.headD undef
theorem zcK:∀ {xs xs' ys ys':List Value},xs.length = ys.length->eqC (xs++xs') (ys++ys') = (eqC xs ys && eqC xs' ys')
 | [],_,[],_,_=>by simp [eqC]
 | x :: xs,_,y :: ys,_,h=>by
  simp only [List.cons_append,eqC]
  rw [zcK (by simpa using h),Bool.and_assoc]
 | [],_,_ :: _,_,h=>by simp at h
 | _ :: _,_,[],_,h=>by simp at h
theorem Ym {t:TypeId} {xs:List Value} {o n:Nat} (hs:sizeT P t = some n) (ha:(aggT P t).isSome = true) (h1:aggT P t = some false->n = 1) (hl:aggT P t = some false->o < xs.length) (w:World) :
  (part t xs.toArray o).run P w = .ok (Zy P t ((xs.drop o).take n)) w:=by
 cases hq:aggT P t with
 | none=>rw [hq] at ha; cases ha
 | some b =>
  cases b
  ·have:=h1 hq
   subst this
   have hlt:o < xs.length:=hl hq
   rw [run_part_one hq (zys hlt)]
   congr 1
   rw [Zy,hq,List.drop_eq_getElem_cons hlt]
   rfl
  ·rw [run_part_agg hq hs]
   simp [Zy,hq]
theorem zmc {d:Nat} {t:TypeId} {ks:List CK} (h:Yl P d t = some ks):(aggT P t).isSome = true/\(aggT P t = some false->ks.length = 1):=by
 cases d with
 | zero=>simp [Yl] at h
 | succ d =>
  simp only [Yl] at h
  unfold aggT
  split at h
  ·rename_i hu; rw [hu]; simp at h; subst h; simp
  ·rename_i hu; rw [hu]; simp at h; subst h; simp
  ·rename_i hu; rw [hu]; simp at h; subst h; simp
  ·rename_i hu; rw [hu]; simp
  ·rename_i hu; rw [hu]; simp
  ·cases h
def qc (ks:List CK) (xs:List Value):Prop:=xs.map zdr = ks.map some
theorem qc.length {ks:List CK} {xs:List Value} (h:qc ks xs):xs.length = ks.length:=by
 have:=congrArg List.length h; simpa using this
theorem zds {d:Nat} (IH:∀ t ks xs ys w,Yl P d t = some ks->qc ks xs->qc ks ys->(Op.equalIn d t (Zy P t xs) (Zy P t ys)).run P w = .ok (eqC xs ys) w) (xs ys:List Value) :
  ∀ (fs:List Field) (o:Nat) (ks:List CK) (w:World),zgO P (Yl P d) fs o = some ks->qc ks (xs.drop o)->qc ks (ys.drop o) ->
   (Op.eqFields d xs.toArray ys.toArray fs).run P w = .ok (eqC (xs.drop o) (ys.drop o)) w
 | [],o,ks,w,h,hx,hy=>by
  simp only [zgO,zyO] at h
  subst h
  have h1:xs.drop o = []:=zyR hx.length
  rw [h1]
  simp [Op.eqFields,eqC]
 | f :: fs,o,ks,w,h,hx,hy=>by
  simp only [zgO] at h
  split at h
  ·rename_i hc
   obtain ⟨hn,rfl⟩:=hc
   cases hl:Yl P d f.type with
   | none=>rw [hl] at h; cases h
   | some l =>
    rw [hl] at h
    simp only at h
    split at h
    ·rename_i hs
     cases hr:zgO P (Yl P d) fs (f.offset + l.length) with
     | none=>rw [hr] at h; cases h
     | some ks' =>
      rw [hr] at h
      simp only [Option.map_some,zyO] at h
      subst h
      obtain ⟨a1,a2⟩:=zmc hl
      have lx:=hx.length
      have ly:=hy.length
      simp only [List.length_drop,zyQ] at lx ly
      have hsplit:∀ zs:List Value,qc (l++ks') (zs.drop f.offset)->qc l ((zs.drop f.offset).take l.length)/\qc ks' (zs.drop (f.offset + l.length)):=by
       intro zs hz
       unfold qc at hz ⊢
       rw [List.map_append] at hz
       constructor
       ·rw [List.map_take,hz]; simp
       ·rw [<- List.drop_drop,List.map_drop,hz]; simp
      obtain ⟨x1,x2⟩:=hsplit xs hx
      obtain ⟨y1,y2⟩:=hsplit ys hy
      have p1:=Ym (P:=P) (xs:=xs) (o:=f.offset) hs a1 a2 (fun hq=>by have:=a2 hq; omega) w
      have p2:=Ym (P:=P) (xs:=ys) (o:=f.offset) hs a1 a2 (fun hq=>by have:=a2 hq; omega) w
      have p3:=IH f.type l _ _ w hl x1 y1
      have p4:=zds IH xs ys fs (f.offset + l.length) ks' w hr x2 y2
      simp only [Op.eqFields,hn,ne_eq,not_false_eq_true,if_true,Sem.run_bind,p1,p2,p3,Result.andThen_ok]
      have hcat:∀ zs:List Value,zs.drop f.offset = (zs.drop f.offset).take l.length++zs.drop (f.offset + l.length):=by
       intro zs
       rw [<- List.drop_drop,List.take_append_drop]
      have he:eqC (xs.drop f.offset) (ys.drop f.offset) = (eqC ((xs.drop f.offset).take l.length) ((ys.drop f.offset).take l.length) && eqC (xs.drop (f.offset + l.length)) (ys.drop (f.offset + l.length))):=by
       rw [hcat xs,hcat ys,zcK (by simp; omega)]
       rw [<- hcat xs,<- hcat ys]
      rw [he]
      cases eqC ((xs.drop f.offset).take l.length) ((ys.drop f.offset).take l.length)
      ·simp
      ·simp [p4]
    ·cases h
  ·cases h
theorem zfh {d:Nat} {e:TypeId} {l:List CK} (IH:∀ xs ys w,qc l xs->qc l ys->(Op.equalIn d e (Zy P e xs) (Zy P e ys)).run P w = .ok (eqC xs ys) w) (hl:Yl P d e = some l) (hs:sizeT P e = some l.length) (xs ys:List Value) :
  ∀ (n j:Nat) (w:World),qc (List.replicate n l).flatten (xs.drop (j * l.length))->qc (List.replicate n l).flatten (ys.drop (j * l.length)) ->
   (Op.eqItems d e l.length xs.toArray ys.toArray (List.range' j n)).run P w = .ok (eqC (xs.drop (j * l.length)) (ys.drop (j * l.length))) w
 | 0,j,w,hx,hy=>by
  have h1:xs.drop (j * l.length) = []:=zyR (by simpa using hx.length)
  rw [h1]
  simp [Op.eqItems,eqC]
 | n + 1,j,w,hx,hy=>by
  obtain ⟨a1,a2⟩:=zmc hl
  have hj:(j + 1) * l.length = j * l.length + l.length:=by rw [Nat.add_mul,Nat.one_mul]
  have lx:=hx.length
  have ly:=hy.length
  rw [List.replicate_succ,List.flatten_cons] at hx hy lx ly
  simp only [List.length_drop,zyQ] at lx ly
  have hsplit:∀ zs:List Value,qc (l++(List.replicate n l).flatten) (zs.drop (j * l.length))->qc l ((zs.drop (j * l.length)).take l.length)/\qc (List.replicate n l).flatten (zs.drop ((j + 1) * l.length)):=by
   intro zs hz
   unfold qc at hz ⊢
   rw [List.map_append] at hz
   constructor
   ·rw [List.map_take,hz]; simp
   ·rw [hj,<- List.drop_drop,List.map_drop,hz]; simp
  obtain ⟨x1,x2⟩:=hsplit xs hx
  obtain ⟨y1,y2⟩:=hsplit ys hy
  have p1:=Ym (P:=P) (xs:=xs) (o:=j * l.length) hs a1 a2 (fun hq=>by have:=a2 hq; omega) w
  have p2:=Ym (P:=P) (xs:=ys) (o:=j * l.length) hs a1 a2 (fun hq=>by have:=a2 hq; omega) w
  have p3:=IH _ _ w x1 y1
  have p4:=zfh IH hl hs xs ys n (j + 1) w x2 y2
  simp only [List.range'_succ,Op.eqItems,Sem.run_bind,p1,p2,p3,Result.andThen_ok]
  have hcat:∀ zs:List Value,zs.drop (j * l.length) = (zs.drop (j * l.length)).take l.length++zs.drop ((j + 1) * l.length):=by
   intro zs
   rw [hj,<- List.drop_drop,List.take_append_drop]
  have he:eqC (xs.drop (j * l.length)) (ys.drop (j * l.length)) = (eqC ((xs.drop (j * l.length)).take l.length) ((ys.drop (j * l.length)).take l.length) && eqC (xs.drop ((j + 1) * l.length)) (ys.drop ((j + 1) * l.length))):=by
   rw [hcat xs,hcat ys,zcK (by simp; omega)]
   rw [<- hcat xs,<- hcat ys]
  rw [he]
  cases eqC ((xs.drop (j * l.length)).take l.length) ((ys.drop (j * l.length)).take l.length)
  ·simp
  ·simp [p4]
theorem zbn:∀ (d:Nat) (t:TypeId) (ks:List CK) (xs ys:List Value) (w:World),Yl P d t = some ks->qc ks xs->qc ks ys ->
  (Op.equalIn d t (Zy P t xs) (Zy P t ys)).run P w = .ok (eqC xs ys) w
 | 0,_,_,_,_,_,h,_,_=>by simp [Yl] at h
 | d + 1,t,ks,xs,ys,w,h,hx,hy=>by
  have IH:=zbn d
  simp only [Yl] at h
  split at h
  ·rename_i k hu
   simp only [zyO] at h; subst h
   match xs,ys,hx,hy with
   | [x],[y],hx,hy =>
    simp only [qc,List.map_cons,List.map_nil,List.cons.injEq,and_true] at hx hy
    cases x <;> simp [zdr] at hx
    cases y <;> simp [zdr] at hy
    subst hx; subst hy
    simp [Zy,aggT,hu,run_equalIn_int _ _ _ _ _ _ _ hu,eqC,YI]
   | [],_,hx,_=>simp [qc] at hx
   | _ :: _ :: _,_,hx,_=>simp [qc] at hx
   | [_],[],_,hy=>simp [qc] at hy
   | [_],_ :: _ :: _,_,hy=>simp [qc] at hy
  ·rename_i hu
   simp only [zyO] at h; subst h
   match xs,ys,hx,hy with
   | [x],[y],hx,hy =>
    simp only [qc,List.map_cons,List.map_nil,List.cons.injEq,and_true] at hx hy
    cases x <;> simp [zdr] at hx
    cases y <;> simp [zdr] at hy
    simp [Zy,aggT,hu,run_equalIn_bool' _ _ _ _ _ hu,eqC,YI]
   | [],_,hx,_=>simp [qc] at hx
   | _ :: _ :: _,_,hx,_=>simp [qc] at hx
   | [_],[],_,hy=>simp [qc] at hy
   | [_],_ :: _ :: _,_,hy=>simp [qc] at hy
  ·rename_i hu
   simp only [zyO] at h; subst h
   match xs,ys,hx,hy with
   | [x],[y],hx,hy =>
    simp only [qc,List.map_cons,List.map_nil,List.cons.injEq,and_true] at hx hy
    cases x <;> simp [zdr] at hx
    cases y <;> simp [zdr] at hy
    simp [Zy,aggT,hu,run_equalIn_string _ _ _ _ _ hu,eqC,YI]
   | [],_,hx,_=>simp [qc] at hx
   | _ :: _ :: _,_,hx,_=>simp [qc] at hx
   | [_],[],_,hy=>simp [qc] at hy
   | [_],_ :: _ :: _,_,hy=>simp [qc] at hy
  ·rename_i fs hu
   split at h
   ·cases h
   ·rename_i hst
    have hfo:P.fieldsOf t = fs:=by simp [Program.fieldsOf,hu]
    have h1:=run_equalIn_struct (P:=P) w d t xs.toArray ys.toArray (by rw [hfo]; exact hu) (by simpa using hst)
    have h2:=zds IH xs ys fs.toList 0 ks w h (by simpa using hx) (by simpa using hy)
    simp only [List.drop_zero] at h2
    have e1:Zy P t xs = .agg xs.toArray:=by simp [Zy,aggT,hu]
    have e2:Zy P t ys = .agg ys.toArray:=by simp [Zy,aggT,hu]
    rw [e1,e2,h1,hfo,h2]
  ·rename_i n e hu
   cases hl:Yl P d e with
   | none=>rw [hl] at h; cases h
   | some l =>
    rw [hl] at h
    simp only at h
    split at h
    ·rename_i hs
     simp only [zyO] at h; subst h
     obtain ⟨i,hi1,hi2⟩:=zgM hs
     have hco:P.cellsOf e = l.length:=by simp [Program.cellsOf,hi1,hi2]
     have h1:=run_equalIn_array (P:=P) w d xs.toArray ys.toArray hu hi1
     have h2:=zfh (fun xs ys w hx hy=>IH e l xs ys w hl hx hy) hl hs xs ys n 0 w (by simpa using hx) (by simpa using hy)
     simp only [Nat.zero_mul,List.drop_zero] at h2
     have e1:Zy P t xs = .agg xs.toArray:=by simp [Zy,aggT,hu]
     have e2:Zy P t ys = .agg ys.toArray:=by simp [Zy,aggT,hu]
     rw [e1,e2,h1,hco,List.range_eq_range',h2]
    ·cases h
  ·cases h
theorem zdt {E:Env}:∀ {cs:List V} {xs:List Value} {ks:List CK},RL E cs xs->cs.map Qb = ks.map some->qc ks xs
 | [],xs,ks,h,hk=>by
  simp only [RL] at h; subst h
  cases ks with | nil=>rfl | cons _ _=>simp at hk
 | c :: cs,xs,ks,h,hk=>by
  simp only [RL] at h
  obtain ⟨y,ys,rfl,h1,h⟩:=h
  cases ks with
  | nil=>simp at hk
  | cons k ks =>
   simp only [List.map_cons,List.cons.injEq] at hk
   have:=zdt h hk.2
   simp only [qc,List.map_cons,List.cons.injEq] at this ⊢
   refine ⟨?_,this⟩
   have hk1:=hk.1
   cases c <;> simp [Qb] at hk1 <;> simp only [R] at h1
   ·subst h1; subst hk1; rfl
   ·subst h1; subst hk1; rfl
   ·obtain ⟨rfl,_⟩:=h1; subst hk1; rfl
theorem zsi {E:Env}:∀ {cs ds:List V} {xs ys:List Value} {ks:List CK},RL E cs xs->RL E ds ys->cs.map Qb = ks.map some->ds.map Qb = ks.map some->eqC xs ys = eqV cs ds
 | [],ds,xs,ys,ks,h,k,hk,hk'=>by
  simp only [RL] at h; subst h
  cases ks with
  | cons _ _=>simp at hk
  | nil =>
   cases ds with
   | cons _ _=>simp at hk'
   | nil=>simp [eqC,eqV]
 | c :: cs,ds,xs,ys,ks,h,k,hk,hk'=>by
  cases ks with
  | nil=>simp at hk
  | cons kd ks =>
   cases ds with
   | nil=>simp at hk'
   | cons d ds =>
    simp only [RL] at h k
    obtain ⟨x,xs',rfl,h1,h⟩:=h
    obtain ⟨y,ys',rfl,k1,k⟩:=k
    simp only [List.map_cons,List.cons.injEq] at hk hk'
    have ih:=zsi h k hk.2 hk'.2
    have hc:YI x y = Y1 c d:=by
     have q1:=hk.1
     have q2:=hk'.1
     cases c <;> simp [Qb] at q1 <;> subst q1 <;> cases d <;> simp [Qb] at q2 <;> simp only [R] at h1 k1
     ·subst h1; subst k1; rfl
     ·subst h1; subst k1; rfl
     ·obtain ⟨rfl,_⟩:=h1; obtain ⟨rfl,_⟩:=k1; simp [YI,Y1]
    simp only [eqC,ih,hc]
    cases cs with
    | nil =>
     cases ds with
     | nil=>simp [eqV]
     | cons d' ds' =>
      exfalso
      have q1:=hk.2; have q2:=hk'.2
      rw [<- q1] at q2; simp at q2
    | cons c' cs' =>
     cases ds with
     | nil =>
      exfalso
      have q1:=hk.2; have q2:=hk'.2
      rw [<- q1] at q2; simp at q2
     | cons d' ds'=>simp [eqV]
variable {o:Oper} {ρ:Operand->V} {bx:Nat->Option Box}
theorem zgP {op:BinOp} {xT yT:TypeId} {x y:Operand} {cs ds:List V} {ks:List CK} {v:V} (ho:o.op = .binOp op xT x y yT) (hx:ρ x = .agg cs) (hy:ρ y = .agg ds)
  (hm:P.eqGuardType P.depth xT = false) (ha:aggT P xT = some true) (hl:Yl P 20 xT = some ks) (hc:cs.map Qb = ks.map some) (hd:ds.map Qb = ks.map some)
  (hv:(match op with | .eql=>some (V.bool (eqV cs ds)) | .neq=>some (V.bool (!eqV cs ds)) | _=>none) = some v):QV P o ρ bx v none :=
 QV.pure fun ac w pr lam h _=>by
  have h1:=h x (by simp [ho,Op.operands])
  have h2:=h y (by simp [ho,Op.operands])
  rw [hx] at h1; rw [hy] at h2
  simp only [R] at h1 h2
  obtain ⟨xs,e1,r1,_⟩:=h1
  obtain ⟨ys,e2,r2,_⟩:=h2
  have hmono:∀ (d k:Nat) (t:TypeId) (ks:List CK),Yl P d t = some ks->Yl P (d + k) t = some ks:=by
   intro d
   induction d with
   | zero=>intro k t ks h; simp [Yl] at h
   | succ d ih =>
    intro k t ks h
    have hlf:∀ (fs:List Field) (o:Nat) (ks:List CK),zgO P (Yl P d) fs o = some ks->zgO P (Yl P (d + k)) fs o = some ks:=by
     intro fs
     induction fs with
     | nil=>intro o ks h; simpa [zgO] using h
     | cons f fs ihf =>
      intro o ks h
      simp only [zgO] at h ⊢
      split at h
      ·rename_i hc
       rw [if_pos hc]
       cases hq:Yl P d f.type with
       | none=>rw [hq] at h; cases h
       | some l =>
        rw [hq] at h
        rw [ih k _ _ hq]
        simp only at h ⊢
        split at h
        ·rename_i hs
         rw [if_pos hs]
         cases hr:zgO P (Yl P d) fs (o + l.length) with
         | none=>rw [hr] at h; cases h
         | some ks'=>rw [hr] at h; rw [ihf _ _ hr]; exact h
        ·cases h
      ·cases h
    rw [show d + 1 + k = (d + k) + 1 from by omega]
    simp only [Yl] at h ⊢
    split at h
    ·exact h
    ·exact h
    ·exact h
    ·split at h
     ·cases h
     ·rename_i hst; rw [if_neg hst]; exact hlf _ _ _ h
    ·rename_i n e _
     cases hq:Yl P d e with
     | none=>rw [hq] at h; cases h
     | some l=>rw [hq] at h; rw [ih k _ _ hq]; exact h
    ·cases h
  have hl':Yl P 10000 xT = some ks:=hmono 20 9980 xT ks hl
  have hrun:=zbn 10000 xT ks xs ys w hl' (zdt r1 hc) (zdt r2 hd)
  have t1:Zy P xT xs = .agg xs.toArray:=by simp [Zy,ha]
  have t2:Zy P xT ys = .agg ys.toArray:=by simp [Zy,ha]
  rw [t1,t2,zsi r1 r2 hc hd] at hrun
  have hg:∀ op':BinOp,(eqGuard op' xT x y (.agg xs.toArray) (.agg ys.toArray)).run P w = .ok () w:=fun op'=>run_eqGuard_agg w op' xT x y _ _ hm
  cases op <;> simp only [zyO,reduceCtorEq] at hv
  ·subst hv
   refine ⟨.bool (eqV cs ds),?_,by simp [R]⟩
   simp only [execOp,ho,e1,e2,Sem.run_bind,hg,Result.andThen_ok,run_eql_struct,hrun,Sem.run_pure]
  ·subst hv
   refine ⟨.bool (!eqV cs ds),?_,by simp [R]⟩
   simp only [execOp,ho,e1,e2,Sem.run_bind,hg,Result.andThen_ok,run_neq_struct,hrun,Sem.run_pure]
end
end Go.Eng
namespace Go.Eng
open Go.RowKit
def isAgg:V->Bool
 | .agg _=>true
 | _=>false
def keyT (P:Program) (t:TypeId):Option (Bool × List CK) :=
 match aggT P t,Yl P 20 t with
 | some ag,some ks=>some (ag,ks)
 | _,_=>none
def Z0:List CK->List V->Prop
 | [],[]=>True
 | .int k :: ks,.int k' n :: cs=>(k' = k/\k.wrap n = n)/\Z0 ks cs
 | .bool :: ks,.bool _ :: cs=>Z0 ks cs
 | .str :: ks,.str _ :: cs=>Z0 ks cs
 | _,_=>False
def zbo (ag:Bool) (ks:List CK) (v:V):Prop:=isAgg v = ag/\v.csize = some ks.length/\Z0 ks v.cellsL
structure KeyT (P:Program) (kt:TypeId):Prop where
 keyed:Maps.Keyed P kt
 key:∀ ag ks,keyT P kt = some (ag,ks)->∀ (E:Env) (v:V) (x:Value),zbo ag ks v->R E v x->∃ l,keyOf P kt x = some l
def Zs (a b:V):Bool:=eqV a.cellsL b.cellsL
def Z7:List V->V->Option V
 | [],_=>none
 | c :: cs,x=>match c with
  | .tup [k,v]=>if Zs k x then some v else Z7 cs x
  | _=>Z7 cs x
def Y2:List V->V->V->List V
 | [],x,u=>[.tup [x,u]]
 | c :: cs,x,u=>match c with
  | .tup [k,_]=>if Zs k x then .tup [x,u] :: cs else c :: Y2 cs x u
  | _=>c :: Y2 cs x u
def zaL (ag:Bool) (ks:List CK):List V->Prop
 | []=>True
 | c :: cs=>(∃ k v,c = .tup [k,v]/\zbo ag ks k)/\zaL ag ks cs
theorem qY:∀ {ks:List CK} {cs:List V},Z0 ks cs->cs.map Qb = ks.map some
 | [],[],_=>rfl
 | [],c :: _,h=>by cases c <;> simp [Z0] at h
 | k :: _,[],h=>by cases k <;> simp [Z0] at h
 | k :: ks,c :: cs,h=>by
  cases k <;> cases c <;> simp [Z0] at h
  ·obtain ⟨⟨rfl,_⟩,h⟩:=h; simp [Qb,qY h]
  ·simp [Qb,qY h]
  ·simp [Qb,qY h]
theorem zp5:∀ {ks:List CK} {xs ys:List Value},qc ks xs->qc ks ys->(eqC xs ys = true ↔ xs = ys)
 | [],xs,ys,h,k=>by
  have h1:=h.length; have k1:=k.length
  simp at h1 k1
  subst h1; subst k1
  simp [eqC]
 | kd :: ks,xs,ys,h,k=>by
  cases xs with
  | nil=>simp [qc] at h
  | cons x xs =>
   cases ys with
   | nil=>simp [qc] at k
   | cons y ys =>
    simp only [qc,List.map_cons,List.cons.injEq] at h k
    have ih:=zp5 (ks:=ks) h.2 k.2
    simp only [eqC,zyL,ih,List.cons.injEq]
    have q1:=h.1; have q2:=k.1
    have:YI x y = true ↔ x = y:=by
     cases x <;> simp [zdr] at q1 <;> subst q1 <;> cases y <;> simp [zdr] at q2
     ·simp [YI]
     ·subst q2; simp [YI]
     ·simp only [YI,beq_iff_eq,Value.string.injEq]
      constructor
      ·intro h
       rw [ByteArray.toList_eq,ByteArray.toList_eq] at h
       exact ByteArray.ext (Array.ext' h)
      ·rintro rfl; rfl
    rw [this]
theorem R.agg_shape {E:Env} {v:V} {x:Value} {n:Nat} (h:R E v x) (hn:v.csize = some n):(isAgg v = true->x = .agg x.cells)/\(isAgg v = false->x.cells = #[x]):=by
 cases v <;> simp [V.csize] at hn <;> simp only [R] at h
 case agg cs =>
  obtain ⟨xs,rfl,_⟩:=h
  exact ⟨fun _=>rfl,fun q=>by simp [isAgg] at q⟩
 all_goals refine ⟨fun q=>by simp [isAgg] at q,fun _=>?_⟩
 ·subst h; rfl
 ·subst h; rfl
 ·obtain ⟨rfl,_⟩:=h; rfl
 ·obtain ⟨b,_,rfl⟩:=h; rfl
 ·obtain ⟨b,o,rfl,_⟩:=h; rfl
 ·subst h; rfl
 ·obtain ⟨b,c,rfl,_⟩:=h; rfl
 ·obtain ⟨b,c,rfl,_⟩:=h; rfl
 ·subst h; rfl
 ·obtain ⟨b,rfl,_⟩:=h; rfl
 ·subst h; rfl
 ·obtain ⟨b,_,rfl⟩:=h; rfl
 ·subst h; rfl
 ·obtain ⟨b,rfl⟩:=h; rfl
theorem zkg {E:Env} {ag:Bool} {ks:List CK} {k x:V} {kv xv:Value} (hk:R E k kv) (hx:R E x xv) (ok:zbo ag ks k) (ox:zbo ag ks x):(Zs k x = true ↔ kv = xv):=by
 obtain ⟨ok1,ok2,ok3⟩:=ok
 obtain ⟨ox1,ox2,ox3⟩:=ox
 have rk:=(hk.cells ok2).1
 have rx:=(hx.cells ox2).1
 have e:=zsi rk rx (qY ok3) (qY ox3)
 unfold Zs
 rw [<- e,zp5 (zdt rk (qY ok3)) (zdt rx (qY ox3))]
 have sk:=hk.agg_shape ok2
 have sx:=hx.agg_shape ox2
 constructor
 ·intro h
  have h':kv.cells = xv.cells:=Array.ext' h
  cases ag with
  | true=>rw [sk.1 ok1,sx.1 ox1,h']
  | false =>
   have a:=sk.2 ok1
   have b:=sx.2 ox1
   rw [a,b] at h'
   simpa using h'
 ·rintro rfl; rfl
theorem RM.get_none {E:Env} {ag:Bool} {ks:List CK} {x:V} {xv:Value} (hx:R E x xv) (ox:zbo ag ks x):∀ {cs:List V} {es:List MapEntry},RM E cs es->zaL ag ks cs->(∀ e ∈ es,e.key ≠ xv) ->
  Z7 cs x = none/\∀ u,Y2 cs x u = cs++[.tup [x,u]]
 | [],_,_,_,_=>⟨rfl,fun _=>rfl⟩
 | c :: cs,es,h,ok,hne=>by
  simp only [RM] at h
  obtain ⟨k,v,e,es',rfl,rfl,h1,h2,h3⟩:=h
  obtain ⟨⟨k',v',hc,okk⟩,ok'⟩:=ok
  simp only [V.tup.injEq,List.cons.injEq,and_true] at hc
  obtain ⟨rfl,rfl⟩:=hc
  have hk:Zs k x = false:=by
   rw [Bool.eq_false_iff]
   intro q
   exact hne e (by simp) ((zkg h1 hx okk ox).1 q)
  obtain ⟨i1,i2⟩:=RM.get_none hx ox h3 ok' fun e he=>hne e (by simp [he])
  simp [Z7,Y2,hk,i1,i2]
theorem RM.get_some {E:Env} {ag:Bool} {ks:List CK} {x:V} {xv:Value} (hx:R E x xv) (ox:zbo ag ks x):∀ {cs:List V} {es:List MapEntry} {j:Nat} {e:MapEntry},RM E cs es->zaL ag ks cs ->
  (es.map (·.key)).Nodup->es[j]? = some e->e.key = xv ->
  (∃ v,Z7 cs x = some v/\R E v e.val)/\∀ u uv,R E u uv->RM E (Y2 cs x u) (es.set j { e with key:=xv,val:=uv })
 | [],es,j,e,h,_,_,he,_=>by simp only [RM] at h; subst h; simp at he
 | c :: cs,es,j,e,h,ok,hnd,he,hkey=>by
  simp only [RM] at h
  obtain ⟨k,v,e0,es',rfl,rfl,h1,h2,h3⟩:=h
  obtain ⟨⟨k',v',hc,okk⟩,ok'⟩:=ok
  simp only [V.tup.injEq,List.cons.injEq,and_true] at hc
  obtain ⟨rfl,rfl⟩:=hc
  simp only [List.map_cons,List.nodup_cons] at hnd
  cases j with
  | zero =>
   simp at he; subst he
   have hk:Zs k x = true:=(zkg h1 hx okk ox).2 hkey
   refine ⟨⟨v,by simp [Z7,hk],h2⟩,fun u uv hu=>?_⟩
   simp only [Y2,hk,if_true,List.set_cons_zero,RM]
   exact ⟨x,u,_,_,rfl,rfl,hx,hu,h3⟩
  | succ j =>
   simp at he
   have hne:e0.key ≠ xv:=by
    intro q
    apply hnd.1
    rw [q,<- hkey]
    exact List.mem_map.2 ⟨e,zyu he,rfl⟩
   have hk:Zs k x = false:=by
    rw [Bool.eq_false_iff]
    exact fun q=>hne ((zkg h1 hx okk ox).1 q)
   obtain ⟨⟨v1,i1,i2⟩,i3⟩:=RM.get_some hx ox h3 ok' hnd.2 he hkey
   refine ⟨⟨v1,by simp [Z7,hk,i1],i2⟩,fun u uv hu=>?_⟩
   simp only [Y2,hk,Bool.false_eq_true,if_false,List.set_cons_succ,RM]
   exact ⟨k,v,e0,_,rfl,rfl,h1,h2,i3 u uv hu⟩
theorem RM.keys {P:Program} {kt:TypeId} {E:Env} {ag:Bool} {ks:List CK} (K:KeyT P kt) (hk:keyT P kt = some (ag,ks)):∀ {cs:List V} {es:List MapEntry},RM E cs es->zaL ag ks cs->∀ e ∈ es,∃ l,keyOf P kt e.key = some l
 | [],_,h,_,e,he=>by simp only [RM] at h; subst h; simp at he
 | c :: cs,es,h,ok,e,he=>by
  simp only [RM] at h
  obtain ⟨k,v,e0,es',rfl,rfl,h1,h2,h3⟩:=h
  obtain ⟨⟨k',v',hc,okk⟩,ok'⟩:=ok
  simp only [V.tup.injEq,List.cons.injEq,and_true] at hc
  obtain ⟨rfl,rfl⟩:=hc
  rcases List.mem_cons.1 he with rfl | he
  ·exact K.key ag ks hk E k _ okk h1
  ·exact RM.keys K hk h3 ok' e he
theorem RM.append {E:Env} {c:V} {e:MapEntry} (hc:RM E [c] [e]):∀ {cs:List V} {es:List MapEntry},RM E cs es->RM E (cs++[c]) (es++[e])
 | [],es,h=>by simp only [RM] at h; subst h; exact hc
 | d :: cs,es,h=>by
  simp only [RM] at h
  obtain ⟨k,v,e0,es',rfl,rfl,h1,h2,h3⟩:=h
  simp only [List.cons_append,RM]
  exact ⟨k,v,e0,_,rfl,rfl,h1,h2,RM.append hc h3⟩
def mapT (P:Program) (t:TypeId):Option (TypeId × TypeId):=match P.underlying t with
 | some (.map k e)=>some (k,e)
 | _=>none
theorem mapT_spec {P:Program} {t k e:TypeId} (h:mapT P t = some (k,e)):P.underlying t = some (.map k e):=by
 unfold mapT at h
 split at h
 ·rename_i q; cases h; exact q
 ·cases h
section
variable {P:Program} {o:Oper} {ρ:Operand->V} {bx:Nat->Option Box}
theorem zqW {t kt et:TypeId} {m x:Operand} {ok ag:Bool} {ks:List CK} {i:Nat} {B:Box} {zv:V} (ho:o.op = .lookup t m x ok) (hm:ρ m = .mref i) (hb:bx i = some B) (hty:QB <= B.ty) (hT:mapT P t = some (kt,et))
  (hk:keyT P kt = some (ag,ks)) (K:KeyT P kt) (ox:zbo ag ks (ρ x)) (oks:zaL ag ks B.cells) (hz:zeroT P et = some zv) :
  QV P o ρ bx (if ok then .tup [(Z7 B.cells (ρ x)).getD zv,.bool (Z7 B.cells (ρ x)).isSome] else (Z7 B.cells (ρ x)).getD zv) none :=
 QV.pure fun a w pr lam h hB=>by
  have h1:=h m (by simp [ho,Op.operands])
  have h2:=h x (by simp [ho,Op.operands])
  rw [hm] at h1
  simp only [R] at h1
  obtain ⟨b,hl,e⟩:=h1
  obtain ⟨b',hl',hat⟩:=hB i B hb
  obtain rfl:b = b':=by simpa [hl] using hl'
  obtain ⟨es,clock,hg,hr,hst⟩:=hat.map hty
  change w.heap[b]? = _ at hg
  obtain ⟨kl,hkl⟩:=K.key ag ks hk _ _ _ ox h2
  obtain ⟨iz,z,z1,z2,rfl⟩:=zeroT_spec hz
  have hzero:(zeroValue et).run P w = .ok z w:=by simp [zeroValue,typeInfo,z1,z2]
  have hrz:R ⟨w,pr,lam⟩ (Zd z) z:=QD _ z
  have hu:=mapT_spec hT
  have hkeys:=RM.keys K hk hr oks
  rcases K.keyed.find w hkl es.toList hkeys with ⟨f1,f2⟩ | ⟨j,e0,f1,f2,f3⟩
  ·obtain ⟨g1,_⟩:=RM.get_none h2 ox hr oks f2
   refine ⟨if ok then .tuple #[z,.bool false] else z,?_,?_⟩
   ·simp only [execOp,ho,e]
    simp [Instr.lookup,run_underlying hu,MapKept.run_getObj_map hg,K.keyed.check w _ hkl,f1,hzero,Result.andThen]
   ·rw [g1]
    cases ok
    ·exact hrz
    ·simp only [if_true,R,Option.getD_none,Option.isSome_none]
     exact ⟨[z,.bool false],rfl,by simp only [RL]; exact ⟨_,_,rfl,hrz,_,_,rfl,by simp [R],rfl⟩⟩
  ·obtain ⟨⟨v,g1,g2⟩,_⟩:=RM.get_some h2 ox hr oks hst.2.2 f2 f3
   refine ⟨if ok then .tuple #[e0.val,.bool true] else e0.val,?_,?_⟩
   ·simp only [execOp,ho,e]
    simp [Instr.lookup,run_underlying hu,MapKept.run_getObj_map hg,K.keyed.check w _ hkl,f1,Result.andThen]
   ·rw [g1]
    cases ok
    ·exact g2
    ·simp only [if_true,R,Option.getD_some,Option.isSome_some]
     exact ⟨[e0.val,.bool true],rfl,by simp only [RL]; exact ⟨_,_,rfl,g2,_,_,rfl,by simp [R],rfl⟩⟩
variable {n':Nat} {st:St}
theorem zkh {K:St->Prop} {t:TypeId} {i:Nat} (ho:o.op = .makeMap t none) (hi:st.box i = none) (hd:∀ d,o.dst = some d->d < n')
  (hk:K ((st.setBox i ⟨[],QB + t⟩).put o.dst (.mref i) none)):Y0 P n' o st K:=by
 intro F a w pr lam hF h next Q hn
 subst hF
 have hr:(execOp a.eval o).run P w = .ok (.value (.map (some w.heap.size))) (w.alloc (.map #[] 0)):=by
  simp [execOp,ho,run_makeMap]
 unfold Oper.wp
 rw [hr,Oper.upon_value]
 refine hn _ _ _ pr (upd lam i (some w.heap.size)) hk ((h.newObj hi fun E hle hg=>⟨fun ht=>absurd ht (by simp),fun _=>⟨#[],0,hg,by simp [RM],MapKept.stamped_empty 0⟩⟩).put hd ?_ trivial)
 simp only [R]
 exact ⟨w.heap.size,by simp,rfl⟩
theorem zgQ {K:St->Prop} {t kt et:TypeId} {m x y:Operand} {ag:Bool} {ks:List CK} {i:Nat} {B:Box} (ho:o.op = .mapUpdate t m x y) (hm:st.eval m = .mref i) (hb:st.box i = some B) (hty:QB <= B.ty)
  (hT:mapT P t = some (kt,et)) (hkt:keyT P kt = some (ag,ks)) (KT:KeyT P kt) (ox:zbo ag ks (st.eval x)) (oks:zaL ag ks B.cells) (hd:o.dst = none)
  (hk:K (st.setBox i ⟨Y2 B.cells (st.eval x) (st.eval y),B.ty⟩)):Y0 P n' o st K:=by
 intro F a w pr lam hF h next Q hn
 have h1:=h.eval m
 have h2:=h.eval x
 have h3:=h.eval y
 rw [hm] at h1
 simp only [R] at h1
 obtain ⟨b,hl,e⟩:=h1
 obtain ⟨b',hl',hat,hnp,_⟩:=h.box i B hb
 obtain rfl:b = b':=by rw [show lam i = some b from hl] at hl'; cases hl'; rfl
 obtain ⟨es,clock,hg,hr,hst⟩:=hat.map hty
 change w.heap[b]? = _ at hg
 have hu:=mapT_spec hT
 obtain ⟨kl,hkl⟩:=KT.key ag ks hkt _ _ _ ox h2
 have hkeys:=RM.keys KT hkt hr oks
 have hsw:∀ ob,zmb w { w with heap:=w.heap.setIfInBounds b ob } b:=fun ob=>⟨rfl,rfl,rfl,DLE.of_eq rfl,by simp,fun k hk=>by
  show (w.heap.setIfInBounds b ob)[k]? = _
  rw [Array.getElem?_setIfInBounds_ne (Ne.symm hk)]⟩
 have hnew:∀ ob,(w.heap.setIfInBounds b ob)[b]? = some ob:=fun ob=>by
  have hlt:=(Array.getElem?_eq_some_iff.1 hg).1
  simp [hlt]
 have fin:∀ es' clock',(Instr.mapUpdate t (.map (some b)) (a.eval x) (a.eval y)).run P w = .ok () { w with heap:=w.heap.setIfInBounds b (.map es' clock') } ->
   (∀ E:Env,Env.Le ⟨w,pr,lam⟩ E->RM E (Y2 B.cells (st.eval x) (st.eval y)) es'.toList)->MapKept.Stamped es' clock'->o.wp P a w next Q:=by
  intro es' clock' hrun hrm hst'
  have hr:(execOp a.eval o).run P w = .ok .skip { w with heap:=w.heap.setIfInBounds b (.map es' clock') }:=by
   simp only [execOp,ho,e]
   simp [hrun]
  unfold Oper.wp
  rw [hr,Oper.upon_skip,hd]
  exact hn _ _ _ pr lam hk (h.setObj hb hl (hsw _) fun hle=>⟨fun ht=>absurd hty (Nat.not_le.2 ht),fun _=>⟨es',clock',hnew _,hrm _ hle,hst'⟩⟩)
 rcases KT.keyed.find w hkl es.toList hkeys with ⟨f1,f2⟩ | ⟨j,e0,f1,f2,f3⟩
 ·obtain ⟨_,g2⟩:=RM.get_none h2 ox hr oks f2
  refine fin (es.push { key:=a.eval x,val:=a.eval y,born:=clock }) (clock + 1) ?_ ?_ (MapKept.stamped_push hst f2)
  ·simp [Instr.mapUpdate,run_underlying hu,MapKept.run_getObj_map hg,KT.keyed.check w false hkl,f1,MapKept.run_setObj_map _ hg,Result.andThen]
  ·intro E hle
   rw [g2,Array.toList_push]
   refine RM.append ?_ (hr.mono hle)
   simp only [RM]
   exact ⟨_,_,_,_,rfl,rfl,h2.mono hle,h3.mono hle,rfl⟩
 ·obtain ⟨_,g2⟩:=RM.get_some h2 ox hr oks hst.2.2 f2 f3
  have hj:es[j]? = some e0:=by simpa using f2
  have hlist:(es.modify j (fun e'=>{ e' with key:=a.eval x,val:=a.eval y })).toList = es.toList.set j { e0 with key:=a.eval x,val:=a.eval y }:=by
   rw [Array.toList_modify,ChangeMaps.modify_eq_set _ _ _ _ f2]
  refine fin (es.modify j (fun e'=>{ e' with key:=a.eval x,val:=a.eval y })) clock ?_ ?_ (MapKept.stamped_modify hst j _ (fun _ _=>rfl) (fun e' _ he'=>by rw [hj] at he'; cases he'; exact f3.symm))
  ·have hke:((es[j]?).map (·.key)).getD (a.eval x) = a.eval x:=by rw [hj]; simpa using f3
   simp [Instr.mapUpdate,run_underlying hu,MapKept.run_getObj_map hg,KT.keyed.check w false hkl,f1,hke,KT.keyed.stays w hkl,MapKept.run_setObj_map _ hg,Result.andThen]
  ·intro E hle
   rw [hlist]
   obtain ⟨_,g3⟩:=RM.get_some (h2.mono hle) ox (hr.mono hle) oks hst.2.2 f2 f3
   exact g3 _ _ (h3.mono hle)
end
end Go.Eng
namespace Go.Eng
open Go.RowKit
mutual
def V.ren (f:Nat->Nat):V->V
 | .loc i off=>.loc (f i) off
 | .mref i=>.mref (f i)
 | .agg cs=>.agg (V.renL f cs)
 | .tup cs=>.tup (V.renL f cs)
 | .elt cs off=>.elt (V.renL f cs) off
 | .list rows=>.list (V.renL f rows)
 | .fn g first cap=>.fn g (V.renL f first) (V.renL f cap)
 | .iface t v=>.iface t (v.ren f)
 | .any=>.any
 | .un=>.un
 | .int k n=>.int k n
 | .bool b=>.bool b
 | .str s=>.str s
 | .nilp=>.nilp
 | .nilfn=>.nilfn
 | .nilif=>.nilif
 | .nilm=>.nilm
 | .ptr o=>.ptr o
def V.renL (f:Nat->Nat):List V->List V
 | []=>[]
 | c :: cs=>c.ren f :: V.renL f cs
end
mutual
theorem V.ren_noLoc (f:Nat->Nat):∀ v:V,v.noLoc = true->v.ren f = v
 | .loc _ _,h=>by simp [V.noLoc] at h
 | .mref _,h=>by simp [V.noLoc] at h
 | .agg cs,h=>by simp only [V.noLoc] at h; simp only [V.ren,V.renL_noLoc f cs h]
 | .tup cs,h=>by simp only [V.noLoc] at h; simp only [V.ren,V.renL_noLoc f cs h]
 | .elt cs off,h=>by simp only [V.noLoc] at h; simp only [V.ren,V.renL_noLoc f cs h]
 | .list rows,h=>by simp only [V.noLoc] at h; simp only [V.ren,V.renL_noLoc f rows h]
 | .fn g first cap,h=>by
  simp only [V.noLoc,zyL] at h
  simp only [V.ren,V.renL_noLoc f first h.1,V.renL_noLoc f cap h.2]
 | .iface t v,h=>by simp only [V.noLoc] at h; simp only [V.ren,V.ren_noLoc f v h]
 | .any,_=>rfl
 | .un,_=>rfl
 | .int _ _,_=>rfl
 | .bool _,_=>rfl
 | .str _,_=>rfl
 | .nilp,_=>rfl
 | .nilfn,_=>rfl
 | .nilif,_=>rfl
 | .nilm,_=>rfl
 | .ptr _,_=>rfl
theorem V.renL_noLoc (f:Nat->Nat):∀ cs:List V,V.noLocL cs = true->V.renL f cs = cs
 | [],_=>rfl
 | c :: cs,h=>by
  simp only [V.noLocL,zyL] at h
  simp only [V.renL,V.ren_noLoc f c h.1,V.renL_noLoc f cs h.2]
end
section
variable {w:World} {pr:Nat->Nat->Prop} {lam lam':Nat->Option Nat} {f:Nat->Nat}
mutual
theorem R.ren (hf:∀ i b,lam (f i) = some b->lam' i = some b):∀ (v:V) (x:Value),R ⟨w,pr,lam⟩ (v.ren f) x->R ⟨w,pr,lam'⟩ v x
 | .any,_,_=>by simp [R]
 | .un,_,q=>by simpa [R,V.ren] using q
 | .int _ _,_,q=>by simpa [R,V.ren] using q
 | .bool _,_,q=>by simpa [R,V.ren] using q
 | .str _,_,q=>by simpa [R,V.ren] using q
 | .agg cs,_,q=>by
  simp only [R,V.ren] at q ⊢
  obtain ⟨xs,e,q,q1⟩:=q
  exact ⟨xs,e,RL.ren hf cs xs q,q1⟩
 | .tup cs,_,q=>by
  simp only [R,V.ren] at q ⊢
  obtain ⟨xs,e,q⟩:=q
  exact ⟨xs,e,RL.ren hf cs xs q⟩
 | .loc i off,_,q=>by
  simp only [R,V.ren] at q ⊢
  obtain ⟨b,e,q⟩:=q
  exact ⟨b,hf _ _ e,q⟩
 | .elt cs off,_,q=>by
  simp only [R,V.ren] at q ⊢
  obtain ⟨b,o,e,q⟩:=q
  exact ⟨b,o,e,RC.ren hf b o cs q⟩
 | .nilp,_,q=>by simpa [R,V.ren] using q
 | .list rows,_,q=>by
  simp only [R,V.ren] at q ⊢
  obtain ⟨base,cap,e,hc,hm,q⟩:=q
  have hl:(V.renL f rows).length = rows.length:=V.renL_length rows
  refine ⟨base,cap,by rw [<- hl]; exact e,by rw [<- hl]; exact hc,hm,?_⟩
  rcases q with q | ⟨b,o,k,e2,q⟩
  ·refine .inl ⟨?_,q.2⟩
   have:=hl
   rw [q.1] at this
   exact zyR this.symm
  ·exact .inr ⟨b,o,k,e2,RR.ren hf b k o rows q⟩
 | .fn g first cap,_,q=>by
  simp only [R,V.ren] at q ⊢
  obtain ⟨xs,ys,e,q1,q2⟩:=q
  exact ⟨xs,ys,e,RL.ren hf _ _ q1,RL.ren hf _ _ q2⟩
 | .nilfn,_,q=>by simpa [R,V.ren] using q
 | .iface t v,_,q=>by
  simp only [R,V.ren] at q ⊢
  obtain ⟨y,e,q⟩:=q
  exact ⟨y,e,R.ren hf v y q⟩
 | .nilif,_,q=>by simpa [R,V.ren] using q
 | .mref i,_,q=>by
  simp only [R,V.ren] at q ⊢
  obtain ⟨b,e,q⟩:=q
  exact ⟨b,hf _ _ e,q⟩
 | .nilm,_,q=>by simpa [R,V.ren] using q
 | .ptr _,_,q=>by simpa [R,V.ren] using q
theorem RL.ren (hf:∀ i b,lam (f i) = some b->lam' i = some b):∀ (cs:List V) (xs:List Value),RL ⟨w,pr,lam⟩ (V.renL f cs) xs->RL ⟨w,pr,lam'⟩ cs xs
 | [],_,q=>by simpa [RL,V.renL] using q
 | c :: cs,_,q=>by
  simp only [RL,V.renL] at q ⊢
  obtain ⟨y,ys,e,q1,q2⟩:=q
  exact ⟨y,ys,e,R.ren hf c y q1,RL.ren hf cs ys q2⟩
theorem RC.ren (hf:∀ i b,lam (f i) = some b->lam' i = some b) (b:Nat):∀ (o:Nat) (cs:List V),RC ⟨w,pr,lam⟩ b o (V.renL f cs)->RC ⟨w,pr,lam'⟩ b o cs
 | _,[],_=>by simp [RC]
 | o,c :: cs,q=>by
  simp only [RC,V.renL] at q ⊢
  obtain ⟨⟨y,q0,q3,q1⟩,q2⟩:=q
  exact ⟨⟨y,q0,q3,R.ren hf c y q1⟩,RC.ren hf b (o + 1) cs q2⟩
theorem RR.ren (hf:∀ i b,lam (f i) = some b->lam' i = some b) (b k:Nat):∀ (o:Nat) (cs:List V),RR ⟨w,pr,lam⟩ b k o (V.renL f cs)->RR ⟨w,pr,lam'⟩ b k o cs
 | _,[],_=>by simp [RR]
 | o,c :: cs,q=>by
  simp only [RR,V.renL] at q ⊢
  obtain ⟨⟨y,q0,q1,q3⟩,q2⟩:=q
  exact ⟨⟨y,R.ren hf c y q0,q1,q3⟩,RR.ren hf b k (o + k) cs q2⟩
theorem V.renL_length:∀ (cs:List V),(V.renL f cs).length = cs.length
 | []=>rfl
 | c :: cs=>by simp [V.renL,V.renL_length cs]
end
end
def St.setBoxes (st:St):List Nat->List Box->St
 | i :: π,B :: bs=>(st.setBox i B).setBoxes π bs
 | _,_=>st
theorem Yd (st:St):∀ (π:List Nat) (bs:List Box),(st.setBoxes π bs).sl = st.sl
 | [],_=>by simp [St.setBoxes]
 | _ :: _,[]=>by simp [St.setBoxes]
 | i :: π,B :: bs=>by simp only [St.setBoxes]; rw [Yd (st.setBox i B) π bs]; rfl
theorem ZR {j:Nat}:∀ (π:List Nat) (bs:List Box) (st:St),j ∉ π->(st.setBoxes π bs).box j = st.box j
 | [],_,st,_=>by simp [St.setBoxes]
 | _ :: _,[],st,_=>by simp [St.setBoxes]
 | i :: π,B :: bs,st,h=>by
  simp only [List.mem_cons,not_or] at h
  simp only [St.setBoxes]
  rw [ZR π bs _ h.2]
  show upd st.box i _ j = _
  rw [Zx _ _ _ _ h.1]
theorem YO:∀ (π:List Nat) (bs:List Box) (st:St) (i j:Nat),π.Nodup->π.length = bs.length->π[i]? = some j->(st.setBoxes π bs).box j = bs[i]?
 | [],_,st,i,j,_,_,h=>by simp at h
 | _ :: _,[],st,i,j,_,hl,_=>by simp at hl
 | p :: π,B :: bs,st,i,j,hn,hl,h=>by
  simp only [List.nodup_cons] at hn
  simp only [St.setBoxes]
  cases i with
  | zero =>
   simp at h; subst h
   rw [ZR π bs _ hn.1]
   show upd st.box p _ p = _
   simp
  | succ i =>
   simp at h hl
   rw [YO π bs _ i j hn.2 hl h]
   simp
section
variable {P:Program} {n':Nat} {o:Oper} {st:St} {K:St->Prop}
def YJ (st:St):List Nat->List Box->Prop
 | [],[]=>True
 | i :: π,B :: bs=>(st.box i = some B/\V.noLocL B.cells = true)/\YJ st π bs
 | _,_=>False
theorem Zm {st:St}:∀ {π:List Nat} {bs:List Box},YJ st π bs->π.length = bs.length/\∀ (i:Nat) (B:Box),bs[i]? = some B->∃ j,π[i]? = some j/\st.box j = some B/\V.noLocL B.cells = true
 | [],[],_=>⟨rfl,fun i B h=>by simp at h⟩
 | [],_ :: _,h=>h.elim
 | _ :: _,[],h=>h.elim
 | p :: π,B :: bs,h=>by
  obtain ⟨⟨h1,h2⟩,h3⟩:=h
  obtain ⟨i1,i2⟩:=Zm h3
  refine ⟨by simp [i1],fun i C hC=>?_⟩
  cases i with
  | zero=>simp at hC; subst hC; exact ⟨p,rfl,h1,h2⟩
  | succ i=>simp at hC; obtain ⟨j,q⟩:=i2 i C hC; exact ⟨j,by simpa using q.1,q.2⟩
def zki (P:Program) (f:FuncId) (args:List V) (st:St) (dst:Option Nat) (K:St->Prop):Prop :=
 zbH P f = true/\∃ (π:List Nat) (args':List V) (ins outs:List Box) (res:V),π.Nodup/\st.box st.nb = none/\args = V.renL (fun i=>π.getD i st.nb) args'/\YJ st π ins /\
  outs.length = ins.length/\(∀ B ∈ outs,V.noLocL B.cells = true)/\res.noLoc = true/\Fn P f args' ins res outs/\K ((st.setBoxes π outs).put dst res none)
theorem zC.called {F:Fr} {a:Act} {w w':World} {pr pr':Nat->Nat->Prop} {lam lam':Nat->Option Nat} (h:zC P F st a w pr lam) {π:List Nat} {ins outs:List Box} (hπ:π.Nodup) (hb:YJ st π ins)
  (hlen:outs.length = ins.length) (hno:∀ B ∈ outs,V.noLocL B.cells = true) (hlam:∀ i,lam' i = (π[i]?).bind lam) (hout:zdo w' pr' lam' outs) (hleft:Left w pr lam' w' pr') :
  zC P F (st.setBoxes π outs) a w' pr' lam:=by
 obtain ⟨hl1,hl2⟩:=Zm hb
 have hblk:∀ i b,lam' i = some b->∃ j B,π[i]? = some j/\st.box j = some B/\lam j = some b:=by
  intro i b hi
  rw [hlam] at hi
  cases hp:π[i]? with
  | none=>rw [hp] at hi; cases hi
  | some j =>
   rw [hp] at hi
   have hlt:i < ins.length:=by
    have:=(List.getElem?_eq_some_iff.1 hp).1
    omega
   obtain ⟨j',q1,q2,_⟩:=hl2 i _ (zys hlt)
   rw [hp] at q1; cases q1
   exact ⟨j,_,rfl,q2,hi⟩
 have hbox:∀ j,(st.setBoxes π outs).box j = none ↔ st.box j = none:=by
  intro j
  by_cases hj:j ∈ π
  ·obtain ⟨i,hi⟩:=List.getElem?_of_mem hj
   rw [YO π outs st i j hπ (by omega) hi]
   have hlt:i < π.length:=(List.getElem?_eq_some_iff.1 hi).1
   obtain ⟨j',q1,q2,_⟩:=hl2 i _ (zys (by omega:i < ins.length))
   rw [hi] at q1; cases q1
   rw [q2]
   simp; omega
  ·rw [ZR π outs st hj]
 have hsome:∀ j B,(st.setBoxes π outs).box j = some B->∃ B',st.box j = some B':=by
  intro j B hB
  cases hq:st.box j with
  | none=>rw [(hbox j).2 hq] at hB; cases hB
  | some B'=>exact ⟨B',rfl⟩
 have hle:Env.Le ⟨w,pr,lam⟩ ⟨w',pr',lam⟩:=by
  refine ⟨fun _ _ h=>h,hleft.sub,fun b o hp=>?_⟩
  have hblock:=hleft.block b (h.prlt b o hp) (fun i hi=>by
   obtain ⟨j,B,_,q2,q3⟩:=hblk i b hi
   obtain ⟨b',r1,_,r3,_⟩:=h.box j B q2
   rw [q3] at r1; cases r1
   exact r3 o hp)
  show w'.cell? _ = w.cell? _
  unfold World.cell?
  rw [hblock]
 have henv:∀ s,(st.setBoxes π outs).env s = st.env s:=fun s=>by unfold St.env; rw [Yd]
 have htok:∀ s,(st.setBoxes π outs).tok s = st.tok s:=fun s=>by unfold St.tok; rw [Yd]
 refine ⟨h.size,h.defers,fun s=>by rw [henv]; exact (h.env s).mono hle,?_,?_,?_,?_,?_,?_,?_,?_,fun b o hp=>hleft.sub b o (h.prsub b o hp),?_,h.lamsub,fun s s' t e e' hs hs'=>h.coh2 s s' t e e' (htok s ▸ hs) (htok s' ▸ hs'),fun s t e hs hc=>?_,fun s s' t e e' b o g hs hs'=>h.ptr s s' t e e' b o g (htok s ▸ hs) (htok s' ▸ hs')⟩
 rotate_right
 ·rw [henv]
  exact (h.old s t e (htok s ▸ hs) hc).old (fun _ _ h=>h) (fun b o hp=>hle.cell b o (h.prsub b o hp))
 ·intro s t e hs g hg
  rw [htok] at hs
  obtain ⟨r1,n,cap,cu,sz,r2,r3,r4,r5,r6⟩:=h.own s t e hs g hg
  have hlt:g < w.heap.size:=(Array.getElem?_eq_some_iff.1 r3).1
  refine ⟨r1,n,cap,cu,sz,r2,?_,r4,r5,fun o ho hp=>?_⟩
  ·show w'.heap[g]? = _
   rw [hleft.block g hlt (fun i hi=>?_)]
   ·exact r3
   ·obtain ⟨j,B,_,q2,q3⟩:=hblk i g hi
    exact h.apart j B g s t e q2 q3 hs hg
  ·rcases hleft.new g o hp with hp | ⟨hp,_⟩
   ·exact r6 o ho hp
   ·omega
 ·intro s s' t t' e e' g hs hs'
  rw [htok] at hs hs'
  exact h.coh s s' t t' e e' g hs hs'
 ·intro j B hB
  by_cases hj:j ∈ π
  ·obtain ⟨i,hi⟩:=List.getElem?_of_mem hj
   rw [YO π outs st i j hπ (by omega) hi] at hB
   obtain ⟨b,q1,q2,q3⟩:=hout i B hB
   obtain ⟨j',B',p1,p2,p3⟩:=hblk i b q1
   rw [hi] at p1; cases p1
   obtain ⟨b',r1,_,_,r4⟩:=h.box j B' p2
   rw [p3] at r1; cases r1
   exact ⟨b,p3,q2.noLoc (hno B (zyu hB)),q3,r4⟩
  ·rw [ZR π outs st hj] at hB
   obtain ⟨b,r1,r2,r3,r4⟩:=h.box j B hB
   refine ⟨b,r1,r2.mono hle (hleft.block b r2.lt fun i hi=>?_),fun o hp=>?_,r4⟩
   ·obtain ⟨j',B',p1,p2,p3⟩:=hblk i b hi
    have:=h.inj j j' B B' b hB p2 r1 p3
    subst this
    exact hj (zyu p1)
   ·have:=r2.lt
    rcases hleft.new b o hp with hp | ⟨hp,_⟩
    ·exact r3 o hp
    ·have h2:b < w.heap.size:=this
     omega
 ·intro i j B B' b hB hB' q1 q2
  obtain ⟨C,hC⟩:=hsome i B hB
  obtain ⟨C',hC'⟩:=hsome j B' hB'
  exact h.inj i j C C' b hC hC' q1 q2
 ·intro i B b s t e hB q1 hs
  rw [htok] at hs
  obtain ⟨C,hC⟩:=hsome i B hB
  exact h.apart i C b s t e hC q1 hs
 ·intro i hi
  exact h.nolam i ((hbox i).1 hi)
 ·intro b o hp
  rcases hleft.new b o hp with hp | ⟨_,hp⟩
  ·exact Nat.lt_of_lt_of_le (h.prlt b o hp) hleft.size
  ·exact hp
 ·refine ⟨hleft.os.trans h.keep.os,hleft.tape.trans h.keep.tape,hleft.output.trans h.keep.output,h.keep.drawn.trans hleft.drawn,Nat.le_trans h.keep.size hleft.size,fun k hk hn hh=>?_⟩
  rw [hleft.block k (Nat.lt_of_lt_of_le hk h.keep.size) (fun i hi=>?_)]
  ·exact h.keep.block k hk hn hh
  ·obtain ⟨j,B,_,q2,q3⟩:=hblk i k hi
   obtain ⟨b,r1,_,_,r4⟩:=h.box j B q2
   rw [q3] at r1; cases r1
   rcases r4 with r4 | r4
   ·exact Nat.lt_irrefl _ (Nat.lt_of_lt_of_le hk r4)
   ·exact hn r4
 ·intro b o hp
  rcases hleft.new b o hp with hp | ⟨hp,_⟩
  ·exact h.prnew b o hp
  ·exact .inr (.inl (Nat.le_trans h.keep.size hp))
theorem zoa {c:Operand} {args:Array Operand} {tys:Array TypeId} {f:FuncId} {first cap:List V} (ho:o.op = .call { callee:=.value c,args:=args,argTypes:=tys })
  (hc:st.eval c = .fn (.func f) first cap) (hd:∀ d,o.dst = some d->d < n') (hv:zki P f (first++args.toList.map st.eval++cap) st o.dst K):Y0 P n' o st K:=by
 intro F a w pr lam hF h next Q hn
 subst hF
 obtain ⟨hg,π,args',ins,outs,res,hπ,hnb,hargs,hb,hlen,hno,hres,hf,hk⟩:=hv
 have h1:=h.eval c
 rw [hc] at h1
 simp only [R] at h1
 obtain ⟨xs,ys,e1,q1,q2⟩:=h1
 have q3:=ZE (ρ:=st.eval) (E:=⟨w,pr,lam⟩) (ac:=a) args.toList fun x _=>h.eval x
 have hall:RL ⟨w,pr,lam⟩ (V.renL (fun i=>π.getD i st.nb) args') (xs.toArray++args.map a.eval++ys.toArray).toList:=by
  rw [<- hargs]
  have:=(q1.append q3).append q2
  simpa using this
 obtain ⟨hl1,hl2⟩:=Zm hb
 unfold Oper.wp
 rw [zb9 ho e1 hg,Oper.upon_enter]
 refine (hf w pr (fun i=>(π[i]?).bind lam) _ h.hl (RL.ren ?_ _ _ hall) ?_ ?_ ?_).mono ?_
 ·intro i b hi
  cases hp:π[i]? with
  | none =>
   have:π.getD i st.nb = st.nb:=by simp [List.getD,hp]
   rw [this,h.nolam _ hnb] at hi
   cases hi
  | some j =>
   have:π.getD i st.nb = j:=by simp [List.getD,hp]
   rw [this] at hi
   simpa using hi
 ·intro i B hB
  obtain ⟨j,p1,p2,p3⟩:=hl2 i B hB
  obtain ⟨b,r1,r2,r3,_⟩:=h.box j B p2
  exact ⟨b,by simp [p1,r1],r2.noLoc p3,r3⟩
 ·intro i j b hi hj
  cases hp:π[i]? with
  | none=>simp [hp] at hi
  | some p =>
   cases hq:π[j]? with
   | none=>simp [hq] at hj
   | some q =>
    simp only [hp,Option.bind_some] at hi
    simp only [hq,Option.bind_some] at hj
    have hi1:i < ins.length:=by have:=(List.getElem?_eq_some_iff.1 hp).1; omega
    have hj1:j < ins.length:=by have:=(List.getElem?_eq_some_iff.1 hq).1; omega
    obtain ⟨p',a1,a2,_⟩:=hl2 i _ (zys hi1)
    obtain ⟨q',b1,b2,_⟩:=hl2 j _ (zys hj1)
    rw [hp] at a1; cases a1
    rw [hq] at b1; cases b1
    have:=h.inj p q _ _ b a2 b2 hi hj
    subst this
    exact (List.getElem?_inj (by omega) hπ).1 (hp.trans hq.symm)
 ·intro i hi
  have:π[i]? = none:=by simp; omega
  simp [this]
 ·rintro e w' ⟨v,pr',rfl,hr,hout,hleft⟩
  have hs:=h.called hπ hb hlen hno (fun i=>rfl) hout hleft
  exact hn _ _ w' pr' lam hk (hs.put hd (hr.noLoc _ _ hres) trivial)
end
end Go.Eng
