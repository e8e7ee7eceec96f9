import Derived.Test.YtjcbpfhlgebgdaaGreatDoorX9
import Derived.ChangeMaps5
import Derived.Deep.Slices
import Derived.OpenShut
set_option linter.unusedSimpArgs false
set_option linter.unusedVariables false
namespace Go.X
open Go.Eng Go.RowKit Go.ChangeShapes Go.WideShapes
mutual
def fit:V->Prop
 | .int k n=>(Lit.int k n).wf = true
 | .str s=>s.length <= maxLen
 | .agg cs=>zjA cs
 | .list rs=>rs.length <= maxLen/\zjA rs
 | _=>True
def zjA:List V->Prop
 | []=>True
 | v :: vs=>fit v/\zjA vs
end
theorem zeX:∀ (a b:List V),zjA a->zjA b->zjA (a++b)
 | [],_,_,h=>h
 | x :: a,b,h,k=>⟨h.1,zeX a b h.2 k⟩
theorem zk7:∀ {l:List V},zjA l->∀ v ∈ l,fit v
 | [],_,v,hv=>by cases hv
 | x :: l,h,v,hv=>by
  rcases List.mem_cons.1 hv with rfl | hv
  ·exact h.1
  ·exact zk7 h.2 v hv
inductive Lf where
 | int (k:IntKind)
 | bool
 | str
def Lf.Is:Lf->V->Prop
 | .int k,v=>∃ n,v = .int k n
 | .bool,v=>∃ b,v = .bool b
 | .str,v=>∃ s,v = .str s
def LfL:List Lf->List V->Prop
 | [],vs=>vs = []
 | l :: ls,vs=>∃ v vs',vs = v :: vs'/\l.Is v/\LfL ls vs'
theorem LfL.append:∀ {a b:List Lf} {x y:List V},LfL a x->LfL b y->LfL (a++b) (x++y)
 | [],_,_,_,h,k=>by cases h; exact k
 | l :: a,b,x,y,h,k=>by
  obtain ⟨v,vs,rfl,h1,h2⟩:=h
  exact ⟨v,vs++y,rfl,h1,h2.append k⟩
mutual
def leaves (P:Program):Nat->TypeId->Option (List Lf)
 | 0,_=>none
 | n + 1,t=>match P.underlying t with
  | some (.int k)=>some [.int k]
  | some .bool=>some [.bool]
  | some .string=>some [.str]
  | some (.struct fs)=>(Qy P n fs.toList 0).bind fun ls=>if P.cellsOf t = ls.length then some ls else none
  | some (.array m e)=>(leaves P n e).bind fun l=>if P.cellsOf t = m * l.length/\P.cellsOf e = l.length then some (List.replicate m l).flatten else none
  | _=>none
def Qy (P:Program):Nat->List Field->Nat->Option (List Lf)
 | _,[],_=>some []
 | 0,_ :: _,_=>none
 | n + 1,f :: fs,o=>(leaves P n f.type).bind fun l=>if f.offset = o/\P.cellsOf f.type = l.length then (Qy P n fs (o + l.length)).map (l++·) else none
end
theorem RL.append {E:Env}:∀ {a b:List V} {x y:List Value},RL E a x->RL E b y->RL E (a++b) (x++y)
 | [],_,x,_,h,k=>by simp only [RL] at h; subst h; exact k
 | v :: a,b,x,y,h,k=>by
  simp only [RL] at h
  obtain ⟨z,zs,rfl,h1,h2⟩:=h
  simp only [List.cons_append,RL]
  exact ⟨z,zs++y,rfl,h1,RL.append h2 k⟩
def Cs (E:Env) (ls:List Lf) (cs:List Value):Prop:=cs.length = ls.length/\∃ vs,LfL ls vs/\RL E vs cs/\zjA vs/\∀ y ∈ cs,y.oneCell' = true
theorem Cs.append {E:Env} {a b:List Lf} {x y:List Value} (h:Cs E a x) (k:Cs E b y):Cs E (a++b) (x++y):=by
 obtain ⟨h0,vs,h1,h2,h3,h4⟩:=h
 obtain ⟨k0,us,k1,k2,k3,k4⟩:=k
 refine ⟨by simp [h0,k0],vs++us,h1.append k1,RL.append h2 k2,zeX _ _ h3 k3,fun z hz=>?_⟩
 rcases List.mem_append.1 hz with hz | hz
 ·exact h4 z hz
 ·exact k4 z hz
theorem Cs.nil {E:Env}:Cs E [] []:=⟨rfl,[],rfl,by simp [RL],trivial,fun y hy=>by cases hy⟩
section
variable {H:Type} {enc:TypeId × Value->H} {P:Program} {w:World} {base:Nat} {spare:Nat->Bool} {held:Bool}
mutual
theorem za2 (E:Env):∀ (n:Nat) (t:TypeId) (ls:List Lf),leaves P n t = some ls->∀ (fuel:Nat) (cs:List Value) (x:DataW H × List MemPlace),DataW.trod enc P w base spare held fuel t cs = some x->Cs E ls cs
 | 0,_,_,h,_,_,_,_=>by simp [leaves] at h
 | n + 1,t,ls,h,fuel,cs,x,hx=>by
  unfold leaves at h
  split at h
  ·rename_i k hk
   cases h
   obtain ⟨m,rfl,_,hw⟩:=DataW.trod_int hk hx
   exact ⟨rfl,[.int k m],⟨_,_,rfl,⟨m,rfl⟩,rfl⟩,by simp [RL,R],⟨hw,trivial⟩,by simp [Value.oneCell']⟩
  ·rename_i hk
   cases h
   obtain ⟨b,rfl,_⟩:=DataW.trod_bool hk hx
   exact ⟨rfl,[.bool b],⟨_,_,rfl,⟨b,rfl⟩,rfl⟩,by simp [RL,R],⟨trivial,trivial⟩,by simp [Value.oneCell']⟩
  ·rename_i hk
   cases h
   obtain ⟨s,rfl,_,hs⟩:=DataW.trod_string hk hx
   exact ⟨rfl,[.str s.data.toList],⟨_,_,rfl,⟨_,rfl⟩,rfl⟩,by simp [RL,R]; exact hs,⟨by simpa [fit] using hs,trivial⟩,by simp [Value.oneCell']⟩
  ·rename_i fs hk
   obtain ⟨xs,m,_,_,hl,hfs,hf⟩:=DataW.trod_struct hk hx
   cases hq:Qy P n fs.toList 0 with
   | none=>rw [hq] at h; cases h
   | some ls' =>
    rw [hq] at h
    simp only [Option.bind_some] at h
    split at h
    ·rename_i hc
     cases h
     have:=zdH E n fs.toList 0 ls hq cs (by omega) (fun i f hi=>by
      have hi':fs[i]? = some f:=by simpa using hi
      have:=hf i f hi'
      have hlt:i < xs.length:=by rw [hfs]; exact (Array.getElem?_eq_some_iff.1 hi').1
      exact ⟨m,xs[i],by rw [this]; simp [hlt]⟩)
     simpa using this
    ·cases h
  ·rename_i m e hk
   obtain ⟨xs,m',_,_,hl,hxs,hf⟩:=DataW.trod_array hk hx
   cases hq:leaves P n e with
   | none=>rw [hq] at h; cases h
   | some l =>
    rw [hq] at h
    simp only [Option.bind_some] at h
    split at h
    ·rename_i hc
     cases h
     have key:∀ (j:Nat) (cs:List Value),cs.length = j * l.length->(∀ i,i < j->Cs E l ((cs.drop (i * l.length)).take l.length))->Cs E (List.replicate j l).flatten cs:=by
      intro j
      induction j with
      | zero=>intro cs h0 _; have:cs = []:=List.eq_nil_of_length_eq_zero (by omega); subst this; simpa using Cs.nil
      | succ j ih =>
       intro cs h0 h1
       rw [List.replicate_succ,List.flatten_cons,<- List.take_append_drop l.length cs]
       refine Cs.append (by simpa using h1 0 (by omega)) (ih _ (by rw [List.length_drop,h0,Nat.succ_mul]; omega) fun i hi=>?_)
       have:=h1 (i + 1) (by omega)
       rw [List.drop_drop]
       rwa [Nat.succ_mul,Nat.add_comm] at this
     refine key m cs (by omega) fun i hi=>?_
     have:=hf i hi
     rw [hc.2] at this
     have hlt:i < xs.length:=by omega
     exact za2 E n e l hq m' _ xs[i] (by rw [this]; simp [hlt])
    ·cases h
  ·cases h
theorem zdH (E:Env):∀ (n:Nat) (fs:List Field) (o:Nat) (ls:List Lf),Qy P n fs o = some ls->∀ (cs:List Value),cs.length = o + ls.length ->
  (∀ (i:Nat) (f:Field),fs[i]? = some f->∃ (m:Nat) (x:DataW H × List MemPlace),DataW.trod enc P w base spare held m f.type ((cs.drop f.offset).take (P.cellsOf f.type)) = some x)->Cs E ls (cs.drop o)
 | n,[],o,ls,h,cs,hl,_=>by
  have:Qy P n [] o = some []:=by cases n <;> simp [Qy]
  rw [this] at h
  cases h
  rw [List.drop_of_length_le (by simpa using Nat.le_of_eq hl)]
  exact Cs.nil
 | 0,_ :: _,o,ls,h,_,_,_=>by simp [Qy] at h
 | n + 1,f :: fs,o,ls,h,cs,hl,hf=>by
  unfold Qy at h
  cases hq:leaves P n f.type with
  | none=>rw [hq] at h; cases h
  | some l =>
   rw [hq] at h
   simp only [Option.bind_some] at h
   split at h
   ·rename_i hc
    cases hr:Qy P n fs (o + l.length) with
    | none=>rw [hr] at h; cases h
    | some ls' =>
     rw [hr] at h
     cases h
     have hl':cs.length = o + l.length + ls'.length:=by rw [hl,List.length_append]; omega
     obtain ⟨m,x,hx⟩:=hf 0 f rfl
     rw [hc.1,hc.2] at hx
     have h1:=za2 E n f.type l hq _ _ _ hx
     have h2:=zdH E n fs (o + l.length) ls' hr cs hl' (fun i g hi=>hf (i + 1) g (by simpa using hi))
     rw [<- List.drop_drop] at h2
     have:=h1.append h2
     rwa [List.take_append_drop] at this
   ·cases h
end
end
def mk (ag:Bool) (vs:List V):V:=if ag then .agg vs else vs.headD .any
def zs4 (P:Program) (t:TypeId):Option Bool:=match P.underlying t with
 | some (.int _) | some .bool | some .string=>some false
 | some (.struct _) | some (.array ..)=>some true
 | _=>none
def zif (P:Program) (t:TypeId):Option (Bool × List Lf):=match zs4 P t,leaves P 24 t with
 | some ag,some ls=>if P.cellsOf t = ls.length/\0 < ls.length/\(ag = false->ls.length = 1) then some (ag,ls) else none
 | _,_=>none
theorem zk8 {P:Program} {t:TypeId} {ag:Bool} {ls:List Lf} (h:zif P t = some (ag,ls)):zs4 P t = some ag/\leaves P 24 t = some ls/\P.cellsOf t = ls.length/\0 < ls.length/\(ag = false->ls.length = 1):=by
 unfold zif at h
 split at h
 ·rename_i a l h1 h2
  split at h
  ·rename_i hc
   cases h
   exact ⟨h1,h2,hc⟩
  ·cases h
 ·cases h
theorem Cs.value {E:Env} {ag:Bool} {ls:List Lf} {cs:List Value} (h:Cs E ls cs) (hag:ag = false->ls.length = 1) :
  ∃ vs y,LfL ls vs/\R E (mk ag vs) y/\fit (mk ag vs)/\y.cells = cs.toArray/\(ag = false->cs = [y])/\(ag = true->y = .agg cs.toArray):=by
 obtain ⟨h0,vs,h1,h2,h3,h4⟩:=h
 cases ag with
 | true=>exact ⟨vs,.agg cs.toArray,h1,by simp only [mk,if_true,R]; exact ⟨cs,rfl,h2,h4⟩,by simpa [mk,fit] using h3,by simp [Value.cells],by simp,fun _=>rfl⟩
 | false =>
  have hl:=hag rfl
  match ls,hl,h0,h1 with
  | [l],_,h0,h1 =>
   match cs,h0 with
   | [c],_ =>
    obtain ⟨v,vs',rfl,hv,rfl⟩:=h1
    simp only [RL] at h2
    obtain ⟨y,ys,e,hy,rfl⟩:=h2
    cases e
    have hc:c.oneCell' = true:=h4 c (by simp)
    refine ⟨[v],c,⟨v,[],rfl,hv,rfl⟩,by simpa [mk] using hy,by simpa [mk] using h3.1,?_,fun _=>rfl,by simp⟩
    cases c <;> simp_all [Value.oneCell',Value.cells]
section
variable {H:Type} {enc:TypeId × Value->H} {P:Program} {w:World} {held:Bool}
theorem zoC (E:Env) {r:Reach} {b0 base:Nat} {spare:Nat->Bool} {t:TypeId} {ag:Bool} {ls:List Lf} {v:Value} {d:DataW H} {ps:List MemPlace} (ht:zif P t = some (ag,ls)) (hval:Value.okWide P w r b0 t v)
  (hd:DataW.Trod enc P w base spare held t v d ps):∃ vs,LfL ls vs/\R E (mk ag vs) v/\fit (mk ag vs):=by
 obtain ⟨h1,h2,h3,h4,h5⟩:=zk8 ht
 obtain ⟨fuel,hf⟩:=hd
 obtain ⟨vs,y,k1,k2,k3,k4,k5,k6⟩:=(za2 E 24 t ls h2 _ _ _ hf).value h5
 refine ⟨vs,k1,?_,k3⟩
 suffices y = v by rw [<- this]; exact k2
 unfold zs4 at h1
 split at h1
 ·rename_i k hk
  cases h1
  obtain ⟨n,rfl⟩:=okWide_int hk hval
  have:=k5 rfl
  simp [Value.cells] at this
  exact this.symm
 ·rename_i hk
  cases h1
  obtain ⟨n,rfl⟩:=okWide_bool hk hval
  have:=k5 rfl
  simp [Value.cells] at this
  exact this.symm
 ·rename_i hk
  cases h1
  obtain ⟨n,rfl⟩:=okWide_string hk hval
  have:=k5 rfl
  simp [Value.cells] at this
  exact this.symm
 ·rename_i fs hk
  cases h1
  obtain ⟨cs,rfl,_⟩:=okWide_struct hk hval
  have:=k6 rfl
  simpa [Value.cells] using this
 ·rename_i n e hk
  cases h1
  have:∃ cs,v = .agg cs:=by
   unfold Value.okWide at hval
   rw [hk] at hval
   obtain ⟨cs,h,_⟩:=hval
   exact ⟨cs,h⟩
  obtain ⟨cs,rfl⟩:=this
  have:=k6 rfl
  simpa [Value.cells] using this
 ·cases h1
def E0 (w:World):Env:=⟨w,fun b _=>b < w.heap.size,fun _=>none⟩
theorem zr8 (ag:Bool) (ls:List Lf) (hag:ag = false->ls.length = 1) (b:Nat) (hb:b < w.heap.size):∀ (n o:Nat),(∀ i,i < n->∃ cs,(∀ j,j < ls.length->w.cell? ⟨b,o + i * ls.length + j,none⟩ = cs[j]?)/\Cs (E0 w) ls cs) ->
  ∃ rows:List V,rows.length = n/\RR (E0 w) b ls.length o rows/\zjA rows/\∀ r ∈ rows,∃ vs,r = mk ag vs/\LfL ls vs
 | 0,o,_=>⟨[],rfl,by simp [RR],trivial,fun r hr=>by cases hr⟩
 | n + 1,o,h=>by
  obtain ⟨cs,h1,h2⟩:=h 0 (by omega)
  obtain ⟨rows,r1,r2,r3,r4⟩:=zr8 ag ls hag b hb n (o + ls.length) fun i hi=>by
   obtain ⟨cs,h1,h2⟩:=h (i + 1) (by omega)
   refine ⟨cs,fun j hj=>?_,h2⟩
   rw [<- h1 j hj]
   congr 2
   rw [Nat.succ_mul]
   omega
  have hlen:=h2.1
  obtain ⟨vs,y,k1,k2,k3,k4,_,_⟩:=h2.value hag
  obtain ⟨_,_,_,_,_,hone⟩:=h2
  refine ⟨mk ag vs :: rows,by simp [r1],?_,⟨k3,r3⟩,fun r hr=>?_⟩
  ·simp only [RR]
   refine ⟨⟨y,k2,by rw [k4]; simpa using hlen,fun j z hz=>?_⟩,r2⟩
   rw [k4] at hz
   have hz':cs[j]? = some z:=by simpa using hz
   have hj:j < ls.length:=by rw [<- hlen]; exact (List.getElem?_eq_some_iff.1 hz').1
   have:=h1 j hj
   rw [Nat.zero_mul,Nat.add_zero,hz'] at this
   exact ⟨⟨this,hb⟩,hone z (List.mem_of_getElem? hz')⟩
  ·rcases List.mem_cons.1 hr with rfl | hr
   ·exact ⟨vs,rfl,k1⟩
   ·exact r4 r hr
theorem zoD {r:Reach} {b0:Nat} {t e:TypeId} {ag:Bool} {ls:List Lf} {v:Value} {d:DataW H} {ps:List MemPlace} (ht:P.underlying t = some (.slice e)) (he:zif P e = some (ag,ls))
  (hval:Value.okWide P w r b0 t v) (hd:DataW.Trod enc P w 0 (fun _=>true) held t v d ps):∃ rows,R (E0 w) (.list rows) v/\fit (.list rows)/\∀ r ∈ rows,∃ vs,r = mk ag vs/\LfL ls vs:=by
 obtain ⟨h1,h2,h3,h4,h5⟩:=zk8 he
 obtain ⟨a0,len,cap,rfl⟩:=okWide_slice ht hval
 obtain ⟨fuel,hf⟩:=hd
 rcases Go.Deep.open_slice ht hf with ⟨hcs,_⟩ | ⟨a,len',cap',m,n,D,Pl,hcs,_,hl,hm,hmm,_,hel⟩
 ·simp [Value.cells] at hcs
  obtain ⟨rfl,rfl,rfl⟩:=hcs
  exact ⟨[],by simp only [R]; exact ⟨none,0,rfl,Nat.le_refl _,by simp [maxLen],.inl ⟨trivial,rfl⟩⟩,⟨by simp,trivial⟩,fun r hr=>by cases hr⟩
 ·simp [Value.cells] at hcs
  obtain ⟨rfl,rfl,rfl⟩:=hcs
  simp only [if_true] at hmm
  subst hmm
  by_cases hc0:m = 0
  ·have:len = 0:=by omega
   subst this
   exact ⟨[],by simp only [R]; exact ⟨some a,m,rfl,Nat.zero_le _,hm,.inl ⟨trivial,hc0⟩⟩,⟨by simp,trivial⟩,fun r hr=>by cases hr⟩
  ·obtain ⟨b,off,spot⟩:=a
   have hspot:spot = none:=by
    obtain ⟨cs,g1,_⟩:=hel 0 (by omega)
    obtain ⟨_,gl,gc⟩:=World.cells?_some g1
    have g:=gc 0 (by omega)
    have hlt:0 < cs.length:=by omega
    rw [List.getElem?_eq_getElem hlt] at g
    simp only [Nat.zero_mul] at g
    simpa [Addr.add] using World.cell?_spot g
   subst hspot
   have each:∀ i,i < len->∃ cs,(∀ j,j < ls.length->w.cell? ⟨b,off + i * ls.length + j,none⟩ = cs[j]?)/\Cs (E0 w) ls cs:=fun i hi=>by
    obtain ⟨cs,g1,g2⟩:=hel i (by omega)
    obtain ⟨_,gl,gc⟩:=World.cells?_some g1
    refine ⟨cs,fun j hj=>?_,za2 (E0 w) 24 e ls h2 _ _ _ g2⟩
    have:=gc j (by omega)
    rw [h3,add_plain,add_plain] at this
    exact this
   have hb:b < w.heap.size:=by
    obtain ⟨cs,g1,g2⟩:=hel 0 (by omega)
    obtain ⟨_,gl,gc⟩:=World.cells?_some g1
    have:=gc 0 (by omega)
    rw [add_plain,add_plain,List.getElem?_eq_getElem (by omega)] at this
    simp only [World.cell?] at this
    split at this
    ·rename_i h1; exact (Array.getElem?_eq_some_iff.1 h1).1
    ·cases this
   obtain ⟨rows,r1,r2,r3,r4⟩:=zr8 ag ls h5 b hb len off each
   exact ⟨rows,by simp only [R]; exact ⟨some ⟨b,off,none⟩,m,by rw [r1],by rw [r1]; exact hl,hm,.inr ⟨b,off,ls.length,rfl,r2⟩⟩,⟨by rw [r1]; omega,r3⟩,r4⟩
end
theorem zqB {α:Type} {f:α->V} {p:V->Prop} (h:∀ r,p r->∃ x,r = f x):∀ rows:List V,(∀ r ∈ rows,p r)->∃ xs:List α,rows = xs.map f
 | [],_=>⟨[],rfl⟩
 | r :: rows,k=>by
  obtain ⟨x,rfl⟩:=h r (k r (by simp))
  obtain ⟨xs,rfl⟩:=zqB h rows fun r hr=>k r (by simp [hr])
  exact ⟨x :: xs,rfl⟩
end Go.X
