import Derived.Test.YtgpccllhdcggdaaGreatDoorX9
import Derived.Deep.Slices
open List renaming getElem?_eq_getElem -> zys
set_option linter.unusedSimpArgs false
set_option linter.unusedVariables false
namespace Go.X
open Go.Eng
def W {α:Type} (o:Option α) (Q:α->Prop):Prop:=∃ a,o = some a/\Q a
section
variable {α β σ ρ:Type}
theorem W.mono {o:Option α} {Q R:α->Prop} (h:W o Q) (hq:∀ a,Q a->R a):W o R:=let ⟨a,e,q⟩:=h; ⟨a,e,hq a q⟩
theorem zc {a:α} {Q:α->Prop} (h:Q a):W (some a) Q:=⟨a,rfl,h⟩
theorem W.eq {o:Option α} {a:α} (h:W o fun x=>x = a):o = some a:=by
 obtain ⟨b,e,rfl⟩:=h
 exact e
theorem zuP {o:Option α} {f:α->Option β} {Q:β->Prop} (h:W o fun a=>W (f a) Q):W (o.bind f) Q:=by
 obtain ⟨a,e,b,e',q⟩:=h
 exact ⟨b,by rw [e]; exact e',q⟩
theorem zl {o:Option α} {f:α->Option β} {R:α->Prop} {Q:β->Prop} (h:W o R) (k:∀ a,R a->W (f a) Q):W (o.bind f) Q:=zuP (h.mono k)
theorem zu {o:Option α} {a:α} {f:α->Option β} {Q:β->Prop} (h:o = some a) (k:W (f a) Q):W (o.bind f) Q:=by rw [h]; exact k
theorem zxk {a:α} {f:α->Option β} {Q:β->Prop} (k:W (f a) Q):W ((some a).bind f) Q:=k
theorem yX {b:Bool} {x y:Option α} {Q:α->Prop} (h1:b = true->W x Q) (h2:b = false->W y Q):W (br b x y) Q:=by
 cases b
 ·exact h2 rfl
 ·exact h1 rfl
theorem Qj {b:Bool} {x y:Option α} {Q:α->Prop} (h:W (br b y x) Q):W (br (!b) x y) Q:=by cases b <;> exact h
theorem znM {x y:Option α} {Q:α->Prop} (h:W x Q):W (br true x y) Q:=h
theorem znN {x y:Option α} {Q:α->Prop} (h:W y Q):W (br false x y) Q:=h
theorem zim {i:Int} {n:Nat} {x y:Option α} {Q:α->Prop} (h0:0 <= i) (h1:i < n) (h:W x Q):W (br (inB i n) x y) Q:=by
 have:inB i n = true:=by unfold inB; simp; omega
 rw [this]; exact h
theorem zx1 {a b:Int} (h0:0 <= a) (h1:a <= 9223372036854775807) (hb:0 < b):zbz .i64 a b = some (a / b):=by
 have h2:=Int.ediv_nonneg h0 (Int.le_of_lt hb)
 have h3:=Int.ediv_le_self b h0
 unfold zbz
 rw [Int.tdiv_eq_ediv_of_nonneg h0,if_pos ⟨by omega,zde _ ⟨by omega,by omega⟩⟩]
theorem zvO {a b:Int} (h0:0 <= a) (hb:0 < b):zf6 a b = some (a % b):=by
 unfold zf6; rw [if_pos (by omega),Int.tmod_eq_emod_of_nonneg h0]
theorem zuQ {a b:Int} {f:Int->Option β} {Q:β->Prop} (h0:0 <= a) (hb:0 < b) (k:∀ c,c = a % b->W (f c) Q):W ((zf6 a b).bind f) Q :=
 zu (zvO h0 hb) (k _ rfl)
theorem znO {l:List α} {i:Int} (h0:0 <= i) (h1:i < l.length):∃ x,idx l i = some x/\l[i.toNat]? = some x:=by
 have h:i.toNat < l.length:=by omega
 exact ⟨l[i.toNat],by unfold idx; rw [if_pos h0]; exact zys h,zys h⟩
theorem yS {l:List α} {i:Int} {f:α->Option β} {Q:β->Prop} (h0:0 <= i) (h1:i < l.length) (k:∀ x,l[i.toNat]? = some x->W (f x) Q):W ((idx l i).bind f) Q:=by
 obtain ⟨x,e,e'⟩:=znO h0 h1
 exact zu e (k x e')
theorem zin {l m:List α} {n:Nat} {f:List α->Option β} {Q:β->Prop} (h:(l.length + m.length) * n <= 140737488355328) (k:W (f (l++m)) Q):W ((app n l m).bind f) Q:=by
 unfold app; rw [if_pos h]; exact k
class OpW (o:Option α) (pre:outParam Prop) (post:outParam (α->Prop)):Prop where
 w:pre->W o post
instance {a b:Int}:OpW (yj .i64 a b) (-9223372036854775808 <= a + b/\a + b <= 9223372036854775807) (fun c=>c = a + b):=⟨fun h=>⟨a + b,by unfold yj; rw [if_pos (zde _ h)],rfl⟩⟩
instance {a b:Int}:OpW (zf5 .i64 a b) (-9223372036854775808 <= a - b/\a - b <= 9223372036854775807) (fun c=>c = a - b):=⟨fun h=>⟨a - b,by unfold zf5; rw [if_pos (zde _ h)],rfl⟩⟩
theorem qA {o:Option α} {f:α->Option β} {Q:β->Prop} {pre:Prop} {post:α->Prop} [i:OpW o pre post] (k:∀ a,post a->W (f a) Q) (h:pre:=by omega):W (o.bind f) Q:=zl (i.w h) k
class BP (b:Bool) (p:outParam Prop):Prop where
 t:b = true->p
 f:b = false->¬p
instance {p:Prop} [Decidable p]:BP (decide p) p:=⟨of_decide_eq_true,of_decide_eq_false⟩
instance {a b:Int}:BP (a == b) (a = b):=⟨fun h=>by simpa using h,fun h=>by simpa using h⟩
instance {a b:Int}:BP (a != b) (¬a = b):=⟨fun h=>by simpa using h,fun h=>by simpa using h⟩
instance {b:Bool} {p:Prop} [i:BP b p]:BP (!b) (¬p):=⟨fun h=>i.f (by simpa using h),fun h hp=>hp (i.t (by simpa using h))⟩
theorem zj {b:Bool} {x y:Option α} {Q:α->Prop} {p:Prop} [i:BP b p] (h1:p->W x Q) (h2:¬p->W y Q):W (br b x y) Q:=yX (fun h=>h1 (i.t h)) (fun h=>h2 (i.f h))
theorem zbh {F:σ->Option (zcy σ ρ)} {Q:ρ->Prop} (I:σ->Prop) (m:σ->Nat)
  (h:∀ s,I s->W (F s) fun | .next s'=>I s'/\m s' < m s | .done r=>Q r) {s:σ} (hs:I s):W (qQ F s) Q:=by
 have key:∀ n s,m s <= n->I s->W (qQ F s) Q:=by
  intro n
  induction n with
  | zero =>
   intro s hm hi
   obtain ⟨st,e,q⟩:=h s hi
   rw [zgt,e]
   cases st with
   | next s'=>exact absurd q.2 (by omega)
   | done r=>exact ⟨r,rfl,q⟩
  | succ n ih =>
   intro s hm hi
   obtain ⟨st,e,q⟩:=h s hi
   rw [zgt,e]
   cases st with
   | next s'=>exact ih s' (by have:=q.2; omega) q.1
   | done r=>exact ⟨r,rfl,q⟩
 exact key _ s (Nat.le_refl _) hs
theorem qx {F:σ->Option (zcy σ ρ)} {f:ρ->Option β} {Q:β->Prop} (I:σ->Prop) (m:σ->Nat) {s:σ}
  (h:∀ s,I s->W (F s) fun | .next s'=>I s'/\m s' < m s | .done r=>W (f r) Q) (hs:I s):W ((qQ F s).bind f) Q :=
 zuP (zbh I m h hs)
theorem yb {s':σ} {Q:zcy σ ρ->Prop} (h:Q (.next s')):W (some (.next s')) Q:=⟨_,rfl,h⟩
theorem zr {r:ρ} {Q:zcy σ ρ->Prop} (h:Q (.done r)):W (some (zcy.done (σ:=σ) r)) Q:=⟨_,rfl,h⟩
end
end Go.X
namespace Go.X
open Go.Eng Go.RowKit Go.ChangeShapes Go.WideShapes
mutual
def fit:V->Prop
 | .int k n=>(Lit.int k n).wf = true
 | .str s=>s.length <= maxLen
 | .agg cs=>zlN cs
 | .list rs=>rs.length <= maxLen/\zlN rs
 | _=>True
def zlN:List V->Prop
 | []=>True
 | v :: vs=>fit v/\zlN vs
end
theorem zfP:∀ (a b:List V),zlN a->zlN b->zlN (a++b)
 | [],_,_,h=>h
 | x :: a,b,h,k=>⟨h.1,zfP a b h.2 k⟩
theorem zio:∀ {l:List V},zlN l->∀ v ∈ l,fit v
 | [],_,v,hv=>by cases hv
 | x :: l,h,v,hv=>by
  rcases List.mem_cons.1 hv with rfl | hv
  ·exact h.1
  ·exact zio h.2 v hv
inductive Lf where
 | int (k:IntKind)
 | bool
 | str
def Lf.Is:Lf->V->Prop
 | .int k,v=>∃ n,v = .int k n
 | .bool,v=>∃ b,v = .bool b
 | .str,v=>∃ s,v = .str s
def LfL:List Lf->List V->Prop
 | [],vs=>vs = []
 | l :: ls,vs=>∃ v vs',vs = v :: vs'/\l.Is v/\LfL ls vs'
theorem LfL.append:∀ {a b:List Lf} {x y:List V},LfL a x->LfL b y->LfL (a++b) (x++y)
 | [],_,_,_,h,k=>by cases h; exact k
 | l :: a,b,x,y,h,k=>by
  obtain ⟨v,vs,rfl,h1,h2⟩:=h
  exact ⟨v,vs++y,rfl,h1,h2.append k⟩
mutual
def leaves (P:Program):Nat->TypeId->Option (List Lf)
 | 0,_=>none
 | n + 1,t=>match P.underlying t with
  | some (.int k)=>some [.int k]
  | some .bool=>some [.bool]
  | some .string=>some [.str]
  | some (.struct fs)=>(Qk P n fs.toList 0).bind fun ls=>if P.cellsOf t = ls.length then some ls else none
  | some (.array m e)=>(leaves P n e).bind fun l=>if P.cellsOf t = m * l.length/\P.cellsOf e = l.length then some (List.replicate m l).flatten else none
  | _=>none
def Qk (P:Program):Nat->List Field->Nat->Option (List Lf)
 | _,[],_=>some []
 | 0,_ :: _,_=>none
 | n + 1,f :: fs,o=>(leaves P n f.type).bind fun l=>if f.offset = o/\P.cellsOf f.type = l.length then (Qk P n fs (o + l.length)).map (l++·) else none
end
theorem RL.append {E:Env}:∀ {a b:List V} {x y:List Value},RL E a x->RL E b y->RL E (a++b) (x++y)
 | [],_,x,_,h,k=>by simp only [RL] at h; subst h; exact k
 | v :: a,b,x,y,h,k=>by
  simp only [RL] at h
  obtain ⟨z,zs,rfl,h1,h2⟩:=h
  simp only [List.cons_append,RL]
  exact ⟨z,zs++y,rfl,h1,RL.append h2 k⟩
def Cs (E:Env) (ls:List Lf) (cs:List Value):Prop:=cs.length = ls.length/\∃ vs,LfL ls vs/\RL E vs cs/\zlN vs/\∀ y ∈ cs,y.oneCell' = true
theorem Cs.append {E:Env} {a b:List Lf} {x y:List Value} (h:Cs E a x) (k:Cs E b y):Cs E (a++b) (x++y):=by
 obtain ⟨h0,vs,h1,h2,h3,h4⟩:=h
 obtain ⟨k0,us,k1,k2,k3,k4⟩:=k
 refine ⟨by simp [h0,k0],vs++us,h1.append k1,RL.append h2 k2,zfP _ _ h3 k3,fun z hz=>?_⟩
 rcases List.mem_append.1 hz with hz | hz
 ·exact h4 z hz
 ·exact k4 z hz
theorem Cs.nil {E:Env}:Cs E [] []:=⟨rfl,[],rfl,by simp [RL],trivial,fun y hy=>by cases hy⟩
section
variable {H:Type} {enc:TypeId × Value->H} {P:Program} {w:World} {base:Nat} {spare:Nat->Bool} {held:Bool}
mutual
theorem zbi (E:Env):∀ (n:Nat) (t:TypeId) (ls:List Lf),leaves P n t = some ls->∀ (fuel:Nat) (cs:List Value) (x:DataW H × List MemPlace),DataW.trod enc P w base spare held fuel t cs = some x->Cs E ls cs
 | 0,_,_,h,_,_,_,_=>by simp [leaves] at h
 | n + 1,t,ls,h,fuel,cs,x,hx=>by
  unfold leaves at h
  split at h
  ·rename_i k hk
   cases h
   obtain ⟨m,rfl,_,hw⟩:=DataW.trod_int hk hx
   exact ⟨rfl,[.int k m],⟨_,_,rfl,⟨m,rfl⟩,rfl⟩,by simp [RL,R],⟨hw,trivial⟩,by simp [Value.oneCell']⟩
  ·rename_i hk
   cases h
   obtain ⟨b,rfl,_⟩:=DataW.trod_bool hk hx
   exact ⟨rfl,[.bool b],⟨_,_,rfl,⟨b,rfl⟩,rfl⟩,by simp [RL,R],⟨trivial,trivial⟩,by simp [Value.oneCell']⟩
  ·rename_i hk
   cases h
   obtain ⟨s,rfl,_,hs⟩:=DataW.trod_string hk hx
   exact ⟨rfl,[.str s.data.toList],⟨_,_,rfl,⟨_,rfl⟩,rfl⟩,by simp [RL,R]; exact hs,⟨by simpa [fit] using hs,trivial⟩,by simp [Value.oneCell']⟩
  ·rename_i fs hk
   obtain ⟨xs,m,_,_,hl,hfs,hf⟩:=DataW.trod_struct hk hx
   cases hq:Qk P n fs.toList 0 with
   | none=>rw [hq] at h; cases h
   | some ls' =>
    rw [hq] at h
    simp only [Option.bind_some] at h
    split at h
    ·rename_i hc
     cases h
     have:=zef E n fs.toList 0 ls hq cs (by omega) (fun i f hi=>by
      have hi':fs[i]? = some f:=by simpa using hi
      have:=hf i f hi'
      have hlt:i < xs.length:=by rw [hfs]; exact (Array.getElem?_eq_some_iff.1 hi').1
      exact ⟨m,xs[i],by rw [this]; simp [hlt]⟩)
     simpa using this
    ·cases h
  ·rename_i m e hk
   obtain ⟨xs,m',_,_,hl,hxs,hf⟩:=DataW.trod_array hk hx
   cases hq:leaves P n e with
   | none=>rw [hq] at h; cases h
   | some l =>
    rw [hq] at h
    simp only [Option.bind_some] at h
    split at h
    ·rename_i hc
     cases h
     have key:∀ (j:Nat) (cs:List Value),cs.length = j * l.length->(∀ i,i < j->Cs E l ((cs.drop (i * l.length)).take l.length))->Cs E (List.replicate j l).flatten cs:=by
      intro j
      induction j with
      | zero=>intro cs h0 _; have:cs = []:=List.eq_nil_of_length_eq_zero (by omega); subst this; simpa using Cs.nil
      | succ j ih =>
       intro cs h0 h1
       rw [List.replicate_succ,List.flatten_cons,<- List.take_append_drop l.length cs]
       refine Cs.append (by simpa using h1 0 (by omega)) (ih _ (by rw [List.length_drop,h0,Nat.succ_mul]; omega) fun i hi=>?_)
       have:=h1 (i + 1) (by omega)
       rw [List.drop_drop]
       rwa [Nat.succ_mul,Nat.add_comm] at this
     refine key m cs (by omega) fun i hi=>?_
     have:=hf i hi
     rw [hc.2] at this
     have hlt:i < xs.length:=by omega
     exact zbi E n e l hq m' _ xs[i] (by rw [this]; simp [hlt])
    ·cases h
  ·cases h
theorem zef (E:Env):∀ (n:Nat) (fs:List Field) (o:Nat) (ls:List Lf),Qk P n fs o = some ls->∀ (cs:List Value),cs.length = o + ls.length ->
  (∀ (i:Nat) (f:Field),fs[i]? = some f->∃ (m:Nat) (x:DataW H × List MemPlace),DataW.trod enc P w base spare held m f.type ((cs.drop f.offset).take (P.cellsOf f.type)) = some x)->Cs E ls (cs.drop o)
 | n,[],o,ls,h,cs,hl,_=>by
  have:Qk P n [] o = some []:=by cases n <;> simp [Qk]
  rw [this] at h
  cases h
  rw [List.drop_of_length_le (by simpa using Nat.le_of_eq hl)]
  exact Cs.nil
 | 0,_ :: _,o,ls,h,_,_,_=>by simp [Qk] at h
 | n + 1,f :: fs,o,ls,h,cs,hl,hf=>by
  unfold Qk at h
  cases hq:leaves P n f.type with
  | none=>rw [hq] at h; cases h
  | some l =>
   rw [hq] at h
   simp only [Option.bind_some] at h
   split at h
   ·rename_i hc
    cases hr:Qk P n fs (o + l.length) with
    | none=>rw [hr] at h; cases h
    | some ls' =>
     rw [hr] at h
     cases h
     have hl':cs.length = o + l.length + ls'.length:=by rw [hl,List.length_append]; omega
     obtain ⟨m,x,hx⟩:=hf 0 f rfl
     rw [hc.1,hc.2] at hx
     have h1:=zbi E n f.type l hq _ _ _ hx
     have h2:=zef E n fs (o + l.length) ls' hr cs hl' (fun i g hi=>hf (i + 1) g (by simpa using hi))
     rw [<- List.drop_drop] at h2
     have:=h1.append h2
     rwa [List.take_append_drop] at this
   ·cases h
end
end
def mk (ag:Bool) (vs:List V):V:=if ag then .agg vs else vs.headD .any
def zxl (P:Program) (t:TypeId):Option Bool:=match P.underlying t with
 | some (.int _) | some .bool | some .string=>some false
 | some (.struct _) | some (.array ..)=>some true
 | _=>none
def zbw (P:Program) (t:TypeId):Option (Bool × List Lf):=match zxl P t,leaves P 24 t with
 | some ag,some ls=>if P.cellsOf t = ls.length/\0 < ls.length/\(ag = false->ls.length = 1) then some (ag,ls) else none
 | _,_=>none
theorem znP {P:Program} {t:TypeId} {ag:Bool} {ls:List Lf} (h:zbw P t = some (ag,ls)):zxl P t = some ag/\leaves P 24 t = some ls/\P.cellsOf t = ls.length/\0 < ls.length/\(ag = false->ls.length = 1):=by
 unfold zbw at h
 split at h
 ·rename_i a l h1 h2
  split at h
  ·rename_i hc
   cases h
   exact ⟨h1,h2,hc⟩
  ·cases h
 ·cases h
theorem Cs.value {E:Env} {ag:Bool} {ls:List Lf} {cs:List Value} (h:Cs E ls cs) (hag:ag = false->ls.length = 1) :
  ∃ vs y,LfL ls vs/\R E (mk ag vs) y/\fit (mk ag vs)/\y.cells = cs.toArray/\(ag = false->cs = [y])/\(ag = true->y = .agg cs.toArray):=by
 obtain ⟨h0,vs,h1,h2,h3,h4⟩:=h
 cases ag with
 | true=>exact ⟨vs,.agg cs.toArray,h1,by simp only [mk,if_true,R]; exact ⟨cs,rfl,h2,h4⟩,by simpa [mk,fit] using h3,by simp [Value.cells],by simp,fun _=>rfl⟩
 | false =>
  have hl:=hag rfl
  match ls,hl,h0,h1 with
  | [l],_,h0,h1 =>
   match cs,h0 with
   | [c],_ =>
    obtain ⟨v,vs',rfl,hv,rfl⟩:=h1
    simp only [RL] at h2
    obtain ⟨y,ys,e,hy,rfl⟩:=h2
    cases e
    have hc:c.oneCell' = true:=h4 c (by simp)
    refine ⟨[v],c,⟨v,[],rfl,hv,rfl⟩,by simpa [mk] using hy,by simpa [mk] using h3.1,?_,fun _=>rfl,by simp⟩
    cases c <;> simp_all [Value.oneCell',Value.cells]
section
variable {H:Type} {enc:TypeId × Value->H} {P:Program} {w:World} {held:Bool}
theorem zjW (E:Env) {r:Reach} {b0 base:Nat} {spare:Nat->Bool} {t:TypeId} {ag:Bool} {ls:List Lf} {v:Value} {d:DataW H} {ps:List MemPlace} (ht:zbw P t = some (ag,ls)) (hval:Value.okWide P w r b0 t v)
  (hd:DataW.Trod enc P w base spare held t v d ps):∃ vs,LfL ls vs/\R E (mk ag vs) v/\fit (mk ag vs):=by
 obtain ⟨h1,h2,h3,h4,h5⟩:=znP ht
 obtain ⟨fuel,hf⟩:=hd
 obtain ⟨vs,y,k1,k2,k3,k4,k5,k6⟩:=(zbi E 24 t ls h2 _ _ _ hf).value h5
 refine ⟨vs,k1,?_,k3⟩
 suffices y = v by rw [<- this]; exact k2
 unfold zxl at h1
 split at h1
 ·rename_i k hk
  cases h1
  obtain ⟨n,rfl⟩:=okWide_int hk hval
  have:=k5 rfl
  simp [Value.cells] at this
  exact this.symm
 ·rename_i hk
  cases h1
  obtain ⟨n,rfl⟩:=okWide_bool hk hval
  have:=k5 rfl
  simp [Value.cells] at this
  exact this.symm
 ·rename_i hk
  cases h1
  obtain ⟨n,rfl⟩:=okWide_string hk hval
  have:=k5 rfl
  simp [Value.cells] at this
  exact this.symm
 ·rename_i fs hk
  cases h1
  obtain ⟨cs,rfl,_⟩:=okWide_struct hk hval
  have:=k6 rfl
  simpa [Value.cells] using this
 ·rename_i n e hk
  cases h1
  have:∃ cs,v = .agg cs:=by
   unfold Value.okWide at hval
   rw [hk] at hval
   obtain ⟨cs,h,_⟩:=hval
   exact ⟨cs,h⟩
  obtain ⟨cs,rfl⟩:=this
  have:=k6 rfl
  simpa [Value.cells] using this
 ·cases h1
def E0 (w:World):Env:=⟨w,fun b _=>b < w.heap.size,fun _=>none⟩
theorem zv9 (ag:Bool) (ls:List Lf) (hag:ag = false->ls.length = 1) (b:Nat) (hb:b < w.heap.size):∀ (n o:Nat),(∀ i,i < n->∃ cs,(∀ j,j < ls.length->w.cell? ⟨b,o + i * ls.length + j,none⟩ = cs[j]?)/\Cs (E0 w) ls cs) ->
  ∃ rows:List V,rows.length = n/\RR (E0 w) b ls.length o rows/\zlN rows/\∀ r ∈ rows,∃ vs,r = mk ag vs/\LfL ls vs
 | 0,o,_=>⟨[],rfl,by simp [RR],trivial,fun r hr=>by cases hr⟩
 | n + 1,o,h=>by
  obtain ⟨cs,h1,h2⟩:=h 0 (by omega)
  obtain ⟨rows,r1,r2,r3,r4⟩:=zv9 ag ls hag b hb n (o + ls.length) fun i hi=>by
   obtain ⟨cs,h1,h2⟩:=h (i + 1) (by omega)
   refine ⟨cs,fun j hj=>?_,h2⟩
   rw [<- h1 j hj]
   congr 2
   rw [Nat.succ_mul]
   omega
  have hlen:=h2.1
  obtain ⟨vs,y,k1,k2,k3,k4,_,_⟩:=h2.value hag
  obtain ⟨_,_,_,_,_,hone⟩:=h2
  refine ⟨mk ag vs :: rows,by simp [r1],?_,⟨k3,r3⟩,fun r hr=>?_⟩
  ·simp only [RR]
   refine ⟨⟨y,k2,by rw [k4]; simpa using hlen,fun j z hz=>?_⟩,r2⟩
   rw [k4] at hz
   have hz':cs[j]? = some z:=by simpa using hz
   have hj:j < ls.length:=by rw [<- hlen]; exact (List.getElem?_eq_some_iff.1 hz').1
   have:=h1 j hj
   rw [Nat.zero_mul,Nat.add_zero,hz'] at this
   exact ⟨⟨this,hb⟩,hone z (List.mem_of_getElem? hz')⟩
  ·rcases List.mem_cons.1 hr with rfl | hr
   ·exact ⟨vs,rfl,k1⟩
   ·exact r4 r hr
end
theorem zlO {α:Type} {f:α->V} {p:V->Prop} (h:∀ r,p r->∃ x,r = f x):∀ rows:List V,(∀ r ∈ rows,p r)->∃ xs:List α,rows = xs.map f
 | [],_=>⟨[],rfl⟩
 | r :: rows,k=>by
  obtain ⟨x,rfl⟩:=h r (k r (by simp))
  obtain ⟨xs,rfl⟩:=zlO h rows fun r hr=>k r (by simp [hr])
  exact ⟨x :: xs,rfl⟩
end Go.X
namespace Go.X
open Go.Eng Go.RowKit Go.ChangeShapes Go.WideShapes
section
variable {H:Type} {enc:TypeId × Value->H} {P:Program} {w:World} {held:Bool}
theorem zbj {t e:TypeId} {ag:Bool} {ls:List Lf} {fuel:Nat} {cs:List Value} {x:DataW H × List MemPlace} (ht:P.underlying t = some (.slice e)) (he:zbw P e = some (ag,ls))
  (hf:DataW.trod enc P w 0 (fun _=>true) held fuel t cs = some x):∃ y rows,cs = [y]/\y.oneCell' = true/\R (E0 w) (.list rows) y/\fit (.list rows)/\∀ r ∈ rows,∃ vs,r = mk ag vs/\LfL ls vs:=by
 obtain ⟨h1,h2,h3,h4,h5⟩:=znP he
 rcases Go.Deep.open_slice ht hf with ⟨rfl,_⟩ | ⟨a,len,cap,m,n,D,Pl,rfl,_,hl,hm,hmm,_,hel⟩
 ·exact ⟨_,[],rfl,by simp [Value.oneCell'],by simp only [R]; exact ⟨none,0,rfl,Nat.le_refl _,by simp [maxLen],.inl ⟨trivial,rfl⟩⟩,⟨by simp,trivial⟩,fun r hr=>by cases hr⟩
 ·simp only [if_true] at hmm
  subst hmm
  by_cases hc0:m = 0
  ·have:len = 0:=by omega
   subst this
   exact ⟨_,[],rfl,by simp [Value.oneCell'],by simp only [R]; exact ⟨some a,m,rfl,Nat.zero_le _,hm,.inl ⟨trivial,hc0⟩⟩,⟨by simp,trivial⟩,fun r hr=>by cases hr⟩
  ·obtain ⟨b,off,spot⟩:=a
   have hspot:spot = none:=by
    obtain ⟨cs,g1,_⟩:=hel 0 (by omega)
    obtain ⟨_,gl,gc⟩:=World.cells?_some g1
    have g:=gc 0 (by omega)
    have hlt:0 < cs.length:=by omega
    rw [zys hlt] at g
    simp only [Nat.zero_mul] at g
    simpa [Addr.add] using World.cell?_spot g
   subst hspot
   have each:∀ i,i < len->∃ cs,(∀ j,j < ls.length->w.cell? ⟨b,off + i * ls.length + j,none⟩ = cs[j]?)/\Cs (E0 w) ls cs:=fun i hi=>by
    obtain ⟨cs,g1,g2⟩:=hel i (by omega)
    obtain ⟨_,gl,gc⟩:=World.cells?_some g1
    refine ⟨cs,fun j hj=>?_,zbi (E0 w) 24 e ls h2 _ _ _ g2⟩
    have:=gc j (by omega)
    rw [h3,add_plain,add_plain] at this
    exact this
   have hb:b < w.heap.size:=by
    obtain ⟨cs,g1,g2⟩:=hel 0 (by omega)
    obtain ⟨_,gl,gc⟩:=World.cells?_some g1
    have:=gc 0 (by omega)
    rw [add_plain,add_plain,zys (by omega)] at this
    simp only [World.cell?] at this
    split at this
    ·rename_i h1; exact (Array.getElem?_eq_some_iff.1 h1).1
    ·cases this
   obtain ⟨rows,r1,r2,r3,r4⟩:=zv9 ag ls h5 b hb len off each
   exact ⟨_,rows,rfl,by simp [Value.oneCell'],by simp only [R]; exact ⟨some ⟨b,off,none⟩,m,by rw [r1],by rw [r1]; exact hl,hm,.inr ⟨b,off,ls.length,rfl,r2⟩⟩,⟨by rw [r1]; omega,r3⟩,r4⟩
theorem zlP {r:Reach} {b0:Nat} {t t0 t1 t2 e0 e1 e2:TypeId} {f0 f1 f2:Field} {a0 a1 a2:Bool} {l0 l1 l2:List Lf} {v:Value} {d:DataW H} {ps:List MemPlace} (ht:P.underlying t = some (.struct #[f0,f1,f2]))
  (ho:f0.type = t0/\f1.type = t1/\f2.type = t2/\f0.offset = 0/\f1.offset = 1/\f2.offset = 2/\P.cellsOf t = 3/\P.cellsOf t0 = 1/\P.cellsOf t1 = 1/\P.cellsOf t2 = 1)
  (u0:P.underlying t0 = some (.slice e0)) (u1:P.underlying t1 = some (.slice e1)) (u2:P.underlying t2 = some (.slice e2))
  (h0:zbw P e0 = some (a0,l0)) (h1:zbw P e1 = some (a1,l1)) (h2:zbw P e2 = some (a2,l2))
  (hval:Value.okWide P w r b0 t v) (hd:DataW.Trod enc P w 0 (fun _=>true) held t v d ps) :
  ∃ r0 r1 r2,R (E0 w) (.agg [.list r0,.list r1,.list r2]) v/\fit (.agg [.list r0,.list r1,.list r2])/\(∀ r ∈ r0,∃ vs,r = mk a0 vs/\LfL l0 vs)/\(∀ r ∈ r1,∃ vs,r = mk a1 vs/\LfL l1 vs)/\∀ r ∈ r2,∃ vs,r = mk a2 vs/\LfL l2 vs:=by
 obtain ⟨rfl,rfl,rfl,o0,o1,o2,c,c0,c1,c2⟩:=ho
 obtain ⟨cs,rfl,_⟩:=okWide_struct ht hval
 obtain ⟨fuel,hf⟩:=hd
 obtain ⟨xs,n,_,_,hl,hlen,hg⟩:=DataW.trod_struct ht hf
 match xs,hlen with
 | [x0,x1,x2],_ =>
  have g0:=hg 0 f0 rfl
  have g1:=hg 1 f1 rfl
  have g2:=hg 2 f2 rfl
  rw [o0,c0] at g0
  rw [o1,c1] at g1
  rw [o2,c2] at g2
  simp only [List.getElem?_cons_zero,List.getElem?_cons_succ] at g0 g1 g2
  obtain ⟨y0,r0,s0,k0,m0,q0,w0⟩:=zbj u0 h0 g0
  obtain ⟨y1,r1,s1,k1,m1,q1,w1⟩:=zbj u1 h1 g1
  obtain ⟨y2,r2,s2,k2,m2,q2,w2⟩:=zbj u2 h2 g2
  simp only [Value.cells] at hl s0 s1 s2
  rw [c] at hl
  have hc:cs.toList = [y0,y1,y2]:=by
   obtain ⟨l⟩:=cs
   simp only at hl s0 s1 s2 ⊢
   match l,hl with
   | [z0,z1,z2],_=>simp at s0 s1 s2; rw [s0,s1,s2]
  refine ⟨r0,r1,r2,?_,⟨q0,q1,q2,trivial⟩,w0,w1,w2⟩
  simp only [R]
  refine ⟨cs.toList,by simp,?_,?_⟩
  ·rw [hc]; simp only [RL]; exact ⟨y0,_,rfl,m0,y1,_,rfl,m1,y2,_,rfl,m2,rfl⟩
  ·rw [hc]
   intro y hy
   simp only [List.mem_cons,List.not_mem_nil,or_false] at hy
   rcases hy with rfl | rfl | rfl
   ·exact k0
   ·exact k1
   ·exact k2
end
end Go.X
namespace Go.Proofs.YtgpccllhdcggdaaGreatDoor
open Go Go.X Go.Eng
theorem Tryz.mixed:Tryz.prog.follows .mixedOrders = true:=by kernel_rfl
abbrev Bs:=List UInt8
noncomputable def b6_ {γ:Type} (a:Option γ):Option γ:=zhY (zhY (zhY a a) a) (zhY (zhY a a) a)
theorem zo {f:FuncId} {fn:Func} {c:Code} {ak:List AK} {rs:List C} {g:qW (Zq ak)->Option (qW rs)} (X:ze1 Tryz.prog) (a:Ann) (hf:Tryz.prog.funcs[f]? = some fn) (hb:fn.body = some c) (hok:okX fn.ntmps c a = true:=by kernel_rfl) (hsz:Nat.ble ak.length fn.ntmps = true:=by rfl)
  (h:∀ x,zqH X fn.results.toList c a (buildA ak (ZW _ x)) [] (fun res _=>zbe rs res) = g x:=by intro x; kernel_rfl):FnT Tryz.prog f ak rs g:=FnT.of Tryz.mixed a hf hb hok (Nat.le_of_ble_eq_true hsz) h
noncomputable def zg {f:FuncId} {ak:List AK} {rs:List C} {g:qW (Zq ak)->Option (qW rs)} (h:FnT Tryz.prog f ak rs g) (e:zbH Tryz.prog f = true:=by kernel_rfl):XSpec Tryz.prog:=XSpec.t f ak rs g e h
end Go.Proofs.YtgpccllhdcggdaaGreatDoor
