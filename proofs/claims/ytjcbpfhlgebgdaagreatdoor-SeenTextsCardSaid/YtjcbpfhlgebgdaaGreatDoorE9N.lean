import Derived.Test.YtjcbpfhlgebgdaaGreatDoorE5
import Derived.Great.FillDense
import Derived.Great.BuildSlice
import Derived.Lib.ConvBytes
import Derived.ChangeKeysEq
import Derived.Maps.Own
open Bool renaming and_eq_true -> zuc
open Option.some renaming injEq -> zuf
open List renaming length_append -> zuh
open List renaming eq_nil_of_length_eq_zero -> zui
set_option linter.unusedSimpArgs false
set_option linter.unusedVariables false
namespace Go.Eng
open Go.RowKit
def zc (ys:List Value):List Value:=ys.flatMap fun y=>y.cells.toList
theorem yg {k:Nat}:∀ {ys:List Value},(∀ y ∈ ys,y.cells.size = k)->(zc ys).length = ys.length * k
 | [],_=>by simp [zc]
 | y :: ys,h=>by
  have h1:=h y (by simp)
  have h2:=yg (ys:=ys) fun z hz=>h z (by simp [hz])
  simp only [zc,List.flatMap_cons,zuh,Array.length_toList,List.length_cons,h1] at h2 ⊢
  rw [h2,Nat.add_mul]; omega
theorem RR.vals {E:Env} {b k:Nat}:∀ {rows:List V} {o:Nat},RR E b k o rows ->
  ∃ ys:List Value,RL E rows ys/\(∀ y ∈ ys,y.cells.size = k)/\∀ j z,(zc ys)[j]? = some z->E.at b (o + j) z/\z.oneCell' = true
 | [],_,_=>⟨[],by simp [RL],by simp,by simp [zc]⟩
 | r :: rs,o,h=>by
  simp only [RR] at h
  obtain ⟨⟨y,h1,h2,h3⟩,h⟩:=h
  obtain ⟨ys,q1,q2,q3⟩:=RR.vals h
  refine ⟨y :: ys,by simp only [RL]; exact ⟨y,ys,rfl,h1,q1⟩,?_,fun j z hz=>?_⟩
  ·intro z hz; rcases List.mem_cons.1 hz with rfl | hz
   ·exact h2
   ·exact q2 z hz
  ·simp only [zc,List.flatMap_cons,List.getElem?_append,Array.length_toList,h2] at hz
   split at hz
   ·exact h3 j z (by simpa using hz)
   ·rename_i hj
    have:=q3 (j - k) z hz
    rwa [show o + k + (j - k) = o + j from by omega] at this
theorem RR.of_vals {E:Env} {b k:Nat}:∀ {rows:List V} {ys:List Value} {o:Nat},RL E rows ys->(∀ y ∈ ys,y.cells.size = k) ->
  (∀ j z,(zc ys)[j]? = some z->E.at b (o + j) z/\z.oneCell' = true)->RR E b k o rows
 | [],_,_,_,_,_=>by simp [RR]
 | r :: rs,ys,o,h,hs,hc=>by
  simp only [RL] at h
  obtain ⟨y,ys,rfl,h1,h⟩:=h
  have h2:=hs y (by simp)
  simp only [RR]
  refine ⟨⟨y,h1,h2,fun j z hz=>hc j z ?_⟩,RR.of_vals h (fun z hz=>hs z (by simp [hz])) fun j z hz=>?_⟩
  ·have hj:j < y.cells.toList.length:=by
    have:=(Array.getElem?_eq_some_iff.1 hz).1; simpa using this
   simp only [zc,List.flatMap_cons,List.getElem?_append,hj,if_true]
   simpa using hz
  ·have:=hc (k + j) z (by
    simp only [zc,List.flatMap_cons,List.getElem?_append,Array.length_toList,h2]
    rw [if_neg (by omega)]
    simpa [zc] using hz)
   rwa [show o + (k + j) = o + k + j from by omega] at this
theorem yM (xs ys:List Value):zc (xs++ys) = zc xs++zc ys:=by simp [zc]
def zam (P:Program) (t:TypeId):Option Nat:=(P.info? t).map (·.bytes)
def zda (P:Program) (t:TypeId):Bool:=match P.underlying t with
 | some (.slice _)=>true
 | some .string=>true
 | _=>false
section
variable {P:Program}
theorem zdS {u:TypeId} (h:zda P u = true):P.underlying u = some .string ∨ ∃ e',P.underlying u = some (.slice e'):=by
 unfold zda at h
 split at h
 ·rename_i e' hu; exact .inr ⟨e',hu⟩
 ·rename_i hu; exact .inl hu
 ·cases h
theorem zan {t u ty e:TypeId} {i:TypeInfo} (ht:P.underlying t = some (.slice e)) (hu:zda P u = true) (hi:P.info? e = some i)
  {g sLen sCap m:Nat} {xv:Value} {news:List Value} {cur:Array Value} {e':TypeId} {w:World} (hg:w.heap[g]? = some (.cells cur e' (0,0)))
  (hxl:(Builtin.lenOf xv).run P w = .ok m w) (hxf:(Builtin.firstCells i.size m xv).run P w = .ok news.toArray w) (h1:∀ y ∈ news,y.oneCell' = true)
  (hroom:sLen + m <= sCap) (hfit:sLen * i.size + news.length <= cur.size) :
  (Builtin.append_ #[t,u] ty #[.slice (some ⟨g,0,none⟩) sLen sCap,xv]).run P w =
   .ok (.slice (some ⟨g,0,none⟩) (sLen + m) sCap) (w.setRow g (cur.toList.take (sLen * i.size)++news++cur.toList.drop (sLen * i.size + news.length)).toArray):=by
 have hst:=run_storeCells_at P g (sLen * i.size) e' news 0 cur w hg (by simpa using hfit) h1
 simp only [Nat.add_zero] at hst
 rcases zdS hu with hd | ⟨e2,hd⟩ <;> simp [Builtin.append_,run_underlying ht,run_underlying hd,sizeOf,typeInfo,hi,hxl,hroom,hxf,Addr.add_lit,hst]
theorem ze7 {t u ty e:TypeId} {i:TypeInfo} (ht:P.underlying t = some (.slice e)) (hu:zda P u = true) (hi:P.info? e = some i)
  {base:Option Addr} {sLen sCap:Nat} {xv:Value} {w:World}
  (hxl:(Builtin.lenOf xv).run P w = .ok 0 w) (hxf:(Builtin.firstCells i.size 0 xv).run P w = .ok #[] w) (hroom:sLen <= sCap) :
  (Builtin.append_ #[t,u] ty #[.slice base sLen sCap,xv]).run P w = .ok (.slice base sLen sCap) w:=by
 rcases zdS hu with hd | ⟨e2,hd⟩ <;> cases base <;> simp [Builtin.append_,run_underlying ht,run_underlying hd,sizeOf,typeInfo,hi,hxl,hroom,hxf,storeCells]
theorem YF {t u ty e:TypeId} {i:TypeInfo} {z:Value} (ht:P.underlying t = some (.slice e)) (hu:zda P u = true) (hi:P.info? e = some i) (hz:i.zero = some z)
  {base:Option Addr} {sLen sCap m:Nat} {xv:Value} {olds news:List Value} {w:World}
  (hxl:(Builtin.lenOf xv).run P w = .ok m w) (hxf:(Builtin.firstCells i.size m xv).run P w.drew = .ok news.toArray w.drew)
  (hof:(Builtin.firstCells i.size sLen (.slice base sLen sCap)).run P w.drew = .ok olds.toArray w.drew)
  (hg:sCap < sLen + m) (h63:((sLen + m:Nat):Int) <= 9223372036854775807) (hfit:Builtin.nextslicecap (sLen + m) sCap * i.bytes <= 281474976710656) :
  (Builtin.append_ #[t,u] ty #[.slice base sLen sCap,xv]).run P w =
   .ok (.slice (some ⟨w.heap.size,0,none⟩) (sLen + m) (grownCap w (sLen + m) sCap e))
    (w.drew.alloc (.cells (olds.toArray++news.toArray++Builtin.zeroCells z.cells (grownCap w (sLen + m) sCap e - (sLen + m))) e)):=by
 have hn:¬ (sLen + m <= sCap):=by omega
 have h63':¬ (9223372036854775807 < ((sLen:Int) + (m:Int))):=by omega
 have h48':¬ (281474976710656 < Builtin.nextslicecap (sLen + m) sCap * i.bytes):=by omega
 rcases zdS hu with hd | ⟨e2,hd⟩ <;> simp [Builtin.append_,run_underlying ht,run_underlying hd,sizeOf,typeInfo,zeroValue,hi,hz,hxl,hn,h63',h48',Question.forced,hxf,hof,newRow,grownCap]
 all_goals
  congr 2
  apply Array.ext'
  simp [List.append_assoc]
end
section
variable {P:Program} {n':Nat} {F:Fr} {st:St} {a:Act} {w:World} {pr:Nat->Nat->Prop} {lam:Nat->Option Nat}
theorem zq.grow (h:zq P F st a w pr lam) {ss tk:Nat} {e:TypeId} {g n cap sz m:Nat} {cur cur':Array Value} (hcl:tcl tk < 2) (htk:st.tok ss = some (tk,e)) (hx:a.tmps.getD ss undef = .slice (some ⟨g,0,none⟩) n cap) (hlt:n < cap)
  (hg:w.heap[g]? = some (.cells cur e (0,0))) (hN:F.mine g) (hsame:∀ j,j < n * sz->cur'[j]? = cur[j]?) (hspare:∀ o,n * sz <= o->¬ pr g o) :
  zq P F (st.clear tk) a (w.setRow g cur') (fun b o=>pr b o ∨ (b = g/\n * sz <= o/\o < (n + m) * sz)) lam:=by
 have hgb:zp (tcl tk) (a.tmps.getD ss undef) = some g:=by
  rw [hx]
  have:tcl tk = 0/\0 < cap ∨ tcl tk = 1/\n < cap:=by omega
  simp only [zp,if_pos this]
 have hcell:∀ b o,pr b o->(w.setRow g cur').cell? ⟨b,o,none⟩ = w.cell? ⟨b,o,none⟩:=by
  intro b o hp
  by_cases hb:b = g
  ·subst hb
   have ho:o < n * sz:=by
    rcases Nat.lt_or_ge o (n * sz) with q | q
    ·exact q
    ·exact absurd hp (hspare o q)
   rw [cell_setRow_same w b o cur cur' e (0,0) hg,hsame o ho]
   simp [World.cell?,hg]
  ·exact cell?_setRow_ne hb
 have hle:Env.Le ⟨w,pr,lam⟩ ⟨w.setRow g cur',fun b o=>pr b o ∨ (b = g/\n * sz <= o/\o < (n + m) * sz),lam⟩:=⟨fun _ _ h=>h,fun _ _ h=>.inl h,hcell⟩
 have hother:∀ s t' e' g',(st.clear tk).tok s = some (t',e')->zp (tcl t') (a.tmps.getD s undef) = some g'->g' ≠ g:=by
  intro s t' e' g' hs hg' heq
  obtain ⟨q1,q2,_⟩:=z6 hs
  rw [heq] at hg'
  exact q2 (h.coh s ss t' tk e' e g q1 htk hg' hgb)
 have hboxne:∀ i B b,st.box i = some B->lam i = some b->b ≠ g:=by
  intro i B b hB hl hb
  exact h.apart i B b ss tk e hB hl htk (by rw [hb]; exact hgb)
 have hc:=h.clear tk
 refine ⟨hc.size,hc.defers,fun s=>(hc.env s).mono hle,?_,hc.coh,?_,hc.inj,hc.apart,hc.nolam,?_,?_,fun b o hp=>.inl (hc.prsub b o hp),?_,hc.lamsub,hc.coh2,fun s t e hs hcc=>(hc.old s t e hs hcc).old (fun _ _ h=>h) (fun b o hp=>hcell b o (hc.prsub b o hp)),hc.ptr⟩
 ·intro s t' e' hs g' hg'
  have hne:=hother s t' e' g' hs hg'
  obtain ⟨r1,n',cap',cu,sz',r2,r3,r4,r5,r6⟩:=hc.own s t' e' hs g' hg'
  refine ⟨r1,n',cap',cu,sz',r2,?_,r4,r5,fun o ho hp=>?_⟩
  ·show (w.setRow g cur').heap[g']? = _
   rw [setRow_other w g g' cur' hne]; exact r3
  ·rcases hp with hp | ⟨hp,_⟩
   ·exact r6 o ho hp
   ·exact hne hp
 ·intro i B hB
  obtain ⟨b,r1,r2,r5,r6⟩:=h.box i B hB
  have hne:=hboxne i B b hB r1
  refine ⟨b,r1,r2.mono hle (setRow_other w g b cur' hne),fun o hp=>?_,r6⟩
  rcases hp with hp | ⟨hp,_⟩
  ·exact r5 o hp
  ·exact hne hp
 ·intro b o hp
  have hgl:g < w.heap.size:=(Array.getElem?_eq_some_iff.1 hg).1
  rcases hp with hp | ⟨hp,_⟩
  ·simpa using h.prlt b o hp
  ·subst hp; simpa using hgl
 ·refine ⟨h.keep.os,h.keep.tape,h.keep.output,h.keep.drawn.trans (DLE.of_eq rfl),by simpa using h.keep.size,fun k hk hn hh=>?_⟩
  have hne:k ≠ g:=F.mine_keep hN hk hh
  rw [setRow_other w g k cur' hne]
  exact h.keep.block k hk hn hh
 ·intro b o hp
  rcases hp with hp | ⟨hp,_⟩
  ·exact h.prnew b o hp
  ·subst hp; exact .inr hN
structure Src (P:Program) (w:World) (pr:Nat->Nat->Prop) (lam:Nat->Option Nat) (sz:Nat) (xv:Value) (rows2:List V) (ys:List Value):Prop where
 len:∀ w',(Builtin.lenOf xv).run P w' = .ok rows2.length w'
 first:∀ w',(∀ b o,pr b o->w'.cell? ⟨b,o,none⟩ = w.cell? ⟨b,o,none⟩)->(Builtin.firstCells sz rows2.length xv).run P w' = .ok (zc ys).toArray w'
 rel:RL ⟨w,pr,lam⟩ rows2 ys
 size:∀ y ∈ ys,y.cells.size = sz
 one:∀ z ∈ zc ys,z.oneCell' = true
theorem Src.list {sz:Nat} {x:Value} {rows:List V} (h:R ⟨w,pr,lam⟩ (.list rows) x) (hr:yO sz rows):∃ ys,Src P w pr lam sz x rows ys:=by
 simp only [R] at h
 obtain ⟨base,cap,rfl,hc,hm,hb⟩:=h
 rcases hb with ⟨rfl,rfl⟩ | ⟨b,o,k,rfl,hb⟩
 ·exact ⟨[],fun w'=>by simp [Builtin.lenOf],fun w' _=>by cases base <;> simp [Builtin.firstCells,zc,loadCells,loadCellsFrom],by simp [RL],by simp,by simp [zc]⟩
 ·obtain ⟨ys,q1,q2,q3⟩:=hb.vals
  have hk:rows ≠ []->k = sz:=fun hne=>by
   obtain ⟨r,hr'⟩:=List.exists_mem_of_ne_nil rows hne
   exact hb.size hr hr'
  have hlen:(zc ys).length = rows.length * sz:=by
   rw [yg q2,<- q1.length]
   by_cases hne:rows = []
   ·simp [hne]
   ·rw [hk hne]
  refine ⟨ys,fun w'=>by simp [Builtin.lenOf],fun w' hw=>?_,q1,fun y hy=>?_,fun z hz=>?_⟩
  ·have:=run_loadCells_list (P:=P) w' ⟨b,o,none⟩ (zc ys) (fun j v hv=>by
    rw [Addr.add_none]
    obtain ⟨⟨r1,r2⟩,_⟩:=q3 j v hv
    rw [hw b (o + j) r2]; exact r1)
   rw [hlen] at this
   simpa [Builtin.firstCells] using this
  ·rw [q2 y hy]
   apply hk
   rintro rfl
   have:=q1.length
   have:ys = []:=zui (by simpa using this.symm)
   subst this; cases hy
  ·obtain ⟨j,hj⟩:=List.mem_iff_getElem?.1 hz
   exact (q3 j z hj).2
theorem R.list_len {E:Env} {rows:List V} {x:Value} (h:R E (.list rows) x):rows.length <= maxLen:=by
 simp only [R] at h
 obtain ⟨base,cap,_,h1,h2,_⟩:=h
 exact Nat.le_trans h1 h2
theorem zo9 {P:Program} {e:TypeId} {sz by':Nat} {zv:V} (hsz:zj P e = some sz) (hby:zam P e = some by') (hz:ZM P e = some zv) :
  ∃ i z,P.info? e = some i/\i.size = sz/\i.bytes = by'/\i.zero = some z/\qU z = zv:=by
 obtain ⟨i,z,h1,h2,h3⟩:=Yn hz
 simp [zj,h1] at hsz
 simp [zam,h1] at hby
 exact ⟨i,z,h1,hsz,hby,h2,h3⟩
theorem za6 {o:Oper} {K:St->Prop} {x:Operand} {ss tk:Nat} {t u e:TypeId} {rows rows2:List V} {sz by':Nat} {zv:V}
  (ho:o.op = .call { callee:=.builtin .append,args:=#[.tmp ss,x],argTypes:=#[t,u] }) (hs:st.env ss = .list rows) (htk:st.tok ss = some (tk,e))
  (hcl:tcl tk < 2) (ht:P.underlying t = some (.slice e)) (hu:zda P u = true) (hsz:zj P e = some sz) (hby:zam P e = some by') (hz:ZM P e = some zv) (hzs:zv.csize = some sz)
  (hr1:yO sz rows)
  (hx:∀ (w:World) (pr:Nat->Nat->Prop) (lam:Nat->Option Nat) (xv:Value),R ⟨w,pr,lam⟩ (st.eval x) xv->∃ ys,Src P w pr lam sz xv rows2 ys)
  (hb:(rows.length + rows2.length) * by' <= 140737488355328) (hl:rows.length + rows2.length <= maxLen)
  (hd:∀ d,o.dst = some d->d < n') (hk:K ((st.clear tk).put o.dst (.list (rows++rows2)) (some (tk,e)))):Z2 P n' o st K:=by
 intro F a w pr lam hF h next Q hn
 subst hF
 obtain ⟨i,z,i1,i2,i3,i4,i5⟩:=zo9 hsz hby hz
 have hzc:z.cells.size = sz:=(Yh ⟨w,pr,lam⟩ z).csize (by rw [i5]; exact hzs)
 have hss:=h.env ss
 rw [hs] at hss
 obtain ⟨ysOld,srcOld⟩:=Src.list (P:=P) hss hr1
 obtain ⟨ys,src⟩:=hx w pr lam _ (h.eval x)
 have hss':=hss
 simp only [R] at hss
 obtain ⟨base,cap,hv,hc,hm,hbase⟩:=hss
 have hmaxl:rows.length + rows2.length <= 9223372036854775807:=by simp only [maxLen] at hl; omega
 have hexec:∀ {v' w'},(Builtin.append_ #[t,u] o.type #[.slice base rows.length cap,a.eval x]).run P w = .ok v' w'->(execOp a.eval o).run P w = .ok (.value v') w':=by
  intro v' w' hr
  have hv':a.eval (.tmp ss) = .slice base rows.length cap:=hv
  simp only [execOp,ho,resolve,invoke,builtin,Sem.run_bind,Sem.run_pure,Result.andThen_ok,List.map_toArray,List.map_cons,List.map_nil,hv',hr]
 by_cases h0:rows2.length = 0
 ·-- nothing is appended
  have hnil:rows2 = []:=zui h0
  subst hnil
  have hys:ys = []:=zui (by have:=src.rel.length; simpa using this.symm)
  subst hys
  have hrun:=ze7 (ty:=o.type) (base:=base) ht hu i1 (src.len w) (by rw [i2]; simpa [zc] using src.first w (fun _ _ _=>rfl)) hc
  unfold Oper.wp
  rw [hexec hrun,Oper.upon_value]
  rw [List.append_nil] at hk
  refine hn _ _ w pr lam hk ((h.clear tk).put hd (by rw [<- hv]; exact hss') ?_)
  rw [<- hv]
  exact ⟨h.own ss tk e htk,fun s t' e' g hs' h1 h2=>(h.coh ss s tk t' e e' g htk (z6 hs').1 h2 h1),fun i B b hB hl'=>h.apart i B b ss tk e hB hl' htk,
   fun s e' hs=>absurd rfl (z6 hs).2.1,fun hc'=>by omega,fun s e' b o g hs=>absurd rfl (z6 hs).2.2,fun s u e' b o g hu'=>by exfalso; unfold tcl at hcl; omega⟩
 ·by_cases hroom:rows.length + rows2.length <= cap
  ·-- in place
   have hgb:∃ b o',base = some ⟨b,o',none⟩:=by
    rcases hbase with ⟨_,_,rfl⟩ | ⟨b,o',k,rfl,_⟩
    ·omega
    ·exact ⟨b,o',rfl⟩
   obtain ⟨g,og,rfl⟩:=hgb
   have hgbl:zp (tcl tk) (a.tmps.getD ss undef) = some g:=by
    rw [hv]
    have:tcl tk = 0/\0 < cap ∨ tcl tk = 1/\rows.length < cap:=by omega
    simp only [zp,if_pos this]
   obtain ⟨hN,n',cap',cur,sz',q1,q2,q3,q4,q5⟩:=h.own ss tk e htk g hgbl
   rw [hv] at q1
   simp only [Value.slice.injEq,zuf,Addr.mk.injEq] at q1
   obtain ⟨⟨_,rfl,_⟩,rfl,rfl⟩:=q1
   obtain rfl:sz = sz':=by simp [i1] at q3; omega
   have hfl:(zc ys).length = rows2.length * sz:=by rw [yg src.size,<- src.rel.length]
   have hfo:(zc ysOld).length = rows.length * sz:=by rw [yg srcOld.size,<- srcOld.rel.length]
   have hfit:rows.length * i.size + (zc ys).length <= cur.size:=by
    rw [i2,hfl,q4,<- Nat.add_mul]; exact Nat.mul_le_mul_right _ hroom
   have hrun:=zan (ty:=o.type) ht hu i1 (w:=w) (g:=g) (sLen:=rows.length) (sCap:=cap) q2 (src.len w) (by rw [i2]; exact src.first w (fun _ _ _=>rfl)) src.one hroom hfit
   unfold Oper.wp
   rw [hexec hrun,Oper.upon_value]
   rw [i2] at hfit ⊢
   generalize hcur':(cur.toList.take (rows.length * sz)++zc ys++cur.toList.drop (rows.length * sz + (zc ys).length)).toArray = cur'
   have hget:∀ j:Nat,cur'[j]? = if j < rows.length * sz then cur[j]? else if j < rows.length * sz + (zc ys).length then (zc ys)[j - rows.length * sz]? else cur[j]?:=by
    intro j
    rw [<- hcur']
    have hmin:min (rows.length * sz) cur.size = rows.length * sz:=by omega
    simp only [List.getElem?_toArray,List.getElem?_append,zuh,List.length_take,Array.length_toList,hmin,List.getElem?_take,List.getElem?_drop,Array.getElem?_toList]
    by_cases c1:j < rows.length * sz
    ·simp [c1]; omega
    ·by_cases c2:j < rows.length * sz + (zc ys).length
     ·simp [c1,c2]
     ·simp only [c1,c2,if_false]
      congr 1; omega
   have hsize':cur'.size = cur.size:=by
    rw [<- hcur']
    simp; omega
   have hrel:=h.grow (m:=rows2.length) hcl htk hv (by omega) q2 hN (cur':=cur') (fun j hj=>by rw [hget]; simp [hj]) q5
   have hle:Env.Le ⟨w,pr,lam⟩ ⟨w.setRow g cur',fun b o=>pr b o ∨ (b = g/\rows.length * sz <= o/\o < (rows.length + rows2.length) * sz),lam⟩:=by
    refine ⟨fun _ _ h=>h,fun _ _ h=>.inl h,fun b o hp=>?_⟩
    show (w.setRow g cur').cell? _ = _
    by_cases hb:b = g
    ·subst hb
     have ho:o < rows.length * sz:=by
      rcases Nat.lt_or_ge o (rows.length * sz) with q | q
      ·exact q
      ·exact absurd hp (q5 o q)
     rw [cell_setRow_same w b o cur cur' e (0,0) q2,hget]
     simp [ho,World.cell?,q2]
    ·exact cell?_setRow_ne hb
   refine hn _ _ _ _ lam hk (hrel.put hd ?_ ?_)
   ·simp only [R]
    refine ⟨some ⟨g,0,none⟩,cap,by rw [zuh],by rw [zuh]; exact hroom,hm,.inr ⟨g,0,sz,rfl,?_⟩⟩
    refine RR.of_vals (ys:=ysOld++ys) ((srcOld.rel.mono hle).append (src.rel.mono hle)) (fun y hy=>?_) fun j z hz=>?_
    ·rcases List.mem_append.1 hy with hy | hy
     ·exact srcOld.size y hy
     ·exact src.size y hy
    ·rw [yM,List.getElem?_append,hfo] at hz
     rw [Nat.zero_add]
     split at hz
     ·rename_i hj
      rcases hbase with ⟨hbn,_⟩ | ⟨b',o2,k',hbe,hrr⟩
      ·simp [hbn] at hj
      ·simp only [zuf,Addr.mk.injEq] at hbe
       obtain ⟨rfl,rfl,_⟩:=hbe
       have hk':k' = sz:=by
        rcases rows with _ | ⟨r,rs⟩
        ·simp at hj
        ·exact hrr.size hr1 (r:=r) (by simp)
       subst hk'
       obtain ⟨ys0,p1,p2,p3⟩:=hrr.vals
       have hf0:=srcOld.first w (fun _ _ _=>rfl)
       have hl0:(zc ys0).length = rows.length * k':=by rw [yg p2,<- p1.length]
       have hf1:(Builtin.firstCells k' rows.length (.slice (some ⟨g,0,none⟩) rows.length cap)).run P w = .ok (zc ys0).toArray w:=by
        have:=run_loadCells_list (P:=P) w ⟨g,0,none⟩ (zc ys0) (fun j v hv'=>by rw [Addr.add_none]; exact (p3 j v hv').1.1)
        rw [hl0] at this
        simpa [Builtin.firstCells] using this
       rw [hv] at hf0
       rw [hf0] at hf1
       simp only [Result.ok.injEq,and_true] at hf1
       have hfe:zc ysOld = zc ys0:=by simpa using congrArg Array.toList hf1
       rw [hfe] at hz
       obtain ⟨r1,r2⟩:=p3 j z hz
       rw [Nat.zero_add] at r1
       exact ⟨hle.at r1,r2⟩
     ·rename_i hj
      have hjlt:j - rows.length * sz < (zc ys).length:=(List.getElem?_eq_some_iff.1 hz).1
      refine ⟨⟨?_,.inr ⟨rfl,by omega,?_⟩⟩,src.one z (List.mem_of_getElem? hz)⟩
      ·show (w.setRow g cur').cell? _ = _
       rw [cell_setRow_same w g j cur cur' e (0,0) q2,hget,if_neg hj,if_pos (by omega)]
       exact hz
      ·rw [Nat.add_mul]; omega
   ·refine ⟨fun g' hg'=>?_,fun s t' e' g' hs' h1 h2=>?_,fun i' B b hB hl' hg'=>?_,fun s e' hs=>absurd rfl (z6 hs).2.1,fun hc'=>by omega,fun s e' b o g hs=>absurd rfl (z6 hs).2.2,fun s u e' b o g hu'=>by exfalso; unfold tcl at hcl; omega⟩
    ·have hg'':g' = g:=by
      simp only [zp] at hg'
      split at hg'
      ·cases hg'; rfl
      ·cases hg'
     subst hg''
     refine ⟨hN,rows.length + rows2.length,cap,cur',sz,rfl,setRow_heap w g' cur cur' e (0,0) q2,by simp [i1,i2],by rw [hsize',q4],fun o ho hp=>?_⟩
     rcases hp with hp | ⟨_,_,hp⟩
     ·refine q5 o ?_ hp
      rw [Nat.add_mul] at ho; omega
     ·omega
    ·exfalso
     have hg'':g' = g:=by
      simp only [zp] at h2
      split at h2
      ·cases h2; rfl
      ·cases h2
     rw [hg''] at h1
     obtain ⟨r1,r2,_⟩:=z6 hs'
     exact r2 (h.coh s ss t' tk e' e g r1 htk h1 hgbl)
    ·have hg'':b = g:=by
      simp only [zp] at hg'
      split at hg'
      ·cases hg'; rfl
      ·cases hg'
     rw [hg''] at hl'
     exact h.apart i' B g ss tk e hB hl' htk hgbl
  ·-- a new array
   have hge:=grownCap_ge w (rows.length + rows2.length) cap e
   have hcm:grownCap w (rows.length + rows2.length) cap e <= maxLen:=grownCap_le_maxLen w _ cap e hl
   have hof:=srcOld.first w.drew (fun _ _ _=>rfl)
   rw [hv] at hof
   have hxf:=src.first w.drew (fun _ _ _=>rfl)
   have hrun:=YF (ty:=o.type) (base:=base) ht hu i1 i4 (w:=w) (src.len w) (by rw [i2]; exact hxf) (by rw [i2]; exact hof) (by omega) (by omega) (growslice_fits (by omega) (by rw [i3]; exact hb))
   unfold Oper.wp
   rw [hexec hrun,Oper.upon_value]
   generalize grownCap w (rows.length + rows2.length) cap e = nc at hge hcm ⊢
   have hfl:(zc ys).length = rows2.length * sz:=by rw [yg src.size,<- src.rel.length]
   have hfo:(zc ysOld).length = rows.length * sz:=by rw [yg srcOld.size,<- srcOld.rel.length]
   generalize hw':w.drew.alloc (.cells ((zc ysOld).toArray++(zc ys).toArray++Builtin.zeroCells z.cells (nc - (rows.length + rows2.length))) e) = w'
   have hnew:w'.heap[w.heap.size]? = some (.cells ((zc ysOld).toArray++(zc ys).toArray++Builtin.zeroCells z.cells (nc - (rows.length + rows2.length))) e):=by
    rw [<- hw']; exact heap_alloc_new w.drew _
   have hwsz:w'.heap.size = w.heap.size + 1:=by rw [<- hw']; simp
   have hbel:Below w.heap.size w w':=by
    rw [<- hw']
    exact ((Below.refl _ _).drew).alloc (Nat.le_refl _) _
   have hext:Ext w pr w' (fun b o=>pr b o ∨ (b = w.heap.size/\o < (rows.length + rows2.length) * sz)) :=
    Ext.protect w pr w' hbel (by rw [<- hw']; exact (DLE.drewN w 1).trans (DLE.of_eq rfl)) _ (fun b o hp=>by rw [hp.1]; omega)
   have hle:=hext.le (lam:=lam) h.prlt
   have hcells:∀ j z',(zc (ysOld++ys))[j]? = some z'->w'.cell? ⟨w.heap.size,j,none⟩ = some z':=by
    intro j z' hz'
    rw [yM] at hz'
    have hlt:j < (zc ysOld++zc ys).length:=(List.getElem?_eq_some_iff.1 hz').1
    simp only [World.cell?,hnew]
    simp only [Option.isSome_none,Bool.false_eq_true,if_false]
    rw [Array.getElem?_append,if_pos (by simpa using hlt)]
    simpa using hz'
   refine hn _ _ w' _ lam hk (((h.ext hext).clear tk).put hd ?_ ?_)
   ·simp only [R]
    refine ⟨some ⟨w.heap.size,0,none⟩,nc,by rw [zuh],by rw [zuh]; exact hge,hcm,.inr ⟨w.heap.size,0,sz,rfl,?_⟩⟩
    refine RR.of_vals (ys:=ysOld++ys) ((srcOld.rel.mono hle).append (src.rel.mono hle)) (fun y hy=>?_) fun j z' hz'=>?_
    ·rcases List.mem_append.1 hy with hy | hy
     ·exact srcOld.size y hy
     ·exact src.size y hy
    ·rw [Nat.zero_add]
     have hlt:j < (zc (ysOld++ys)).length:=(List.getElem?_eq_some_iff.1 hz').1
     rw [yM,zuh,hfo,hfl,<- Nat.add_mul] at hlt
     refine ⟨⟨hcells j z' hz',.inr ⟨rfl,hlt⟩⟩,?_⟩
     have hm':=List.mem_of_getElem? hz'
     rw [yM] at hm'
     rcases List.mem_append.1 hm' with hm' | hm'
     ·exact srcOld.one z' hm'
     ·exact src.one z' hm'
   ·have hown:Own P (fun g=>w.heap.size <= g) ⟨w',fun b o=>pr b o ∨ (b = w.heap.size/\o < (rows.length + rows2.length) * sz),lam⟩ (tcl tk) e (.slice (some ⟨w.heap.size,0,none⟩) (rows.length + rows2.length) nc):=by
     intro g hg
     have hg'':g = w.heap.size:=by
      simp only [zp] at hg
      split at hg
      ·cases hg; rfl
      ·cases hg
     subst hg''
     refine ⟨Nat.le_refl _,_,nc,_,sz,rfl,hnew,by simp [i1,i2],?_,fun o ho hp=>?_⟩
     ·simp only [Array.size_append,List.size_toArray,size_zeroCells,hzc,hfo,hfl,<- Nat.add_mul]
      congr 1; omega
     ·rcases hp with hp | ⟨_,hp⟩
      ·have:=h.prlt _ _ hp; omega
      ·omega
    exact zfQ.fresh h hext tk hcl hown
end
end Go.Eng
namespace Go.Eng
open Go.RowKit
mutual
def V.noLoc:V->Bool
 | .loc _ _=>false
 | .mref _=>false
 | .agg cs=>V.noLocL cs
 | .tup cs=>V.noLocL cs
 | .elt cs _=>V.noLocL cs
 | .list rows=>V.noLocL rows
 | .fn _ first cap=>V.noLocL first && V.noLocL cap
 | .iface _ v=>v.noLoc
 | _=>true
def V.noLocL:List V->Bool
 | []=>true
 | c :: cs=>c.noLoc && V.noLocL cs
end
mutual
theorem R.noLoc {w:World} {pr:Nat->Nat->Prop} {lam lam':Nat->Option Nat}:∀ (v:V) (x:Value),v.noLoc = true->R ⟨w,pr,lam⟩ v x->R ⟨w,pr,lam'⟩ v x
 | .any,_,_,_=>by simp [R]
 | .un,_,_,q=>by simpa [R] using q
 | .int _ _,_,_,q=>by simpa [R] using q
 | .bool _,_,_,q=>by simpa [R] using q
 | .str _,_,_,q=>by simpa [R] using q
 | .agg cs,_,n,q=>by
  simp only [V.noLoc] at n
  simp only [R] at q ⊢
  obtain ⟨xs,e,q,q1⟩:=q
  exact ⟨xs,e,RL.noLoc cs xs n q,q1⟩
 | .tup cs,_,n,q=>by
  simp only [V.noLoc] at n
  simp only [R] at q ⊢
  obtain ⟨xs,e,q⟩:=q
  exact ⟨xs,e,RL.noLoc cs xs n q⟩
 | .loc i off,_,n,_=>by simp [V.noLoc] at n
 | .elt cs off,_,n,q=>by
  simp only [V.noLoc] at n
  simp only [R] at q ⊢
  obtain ⟨b,o,e,q⟩:=q
  exact ⟨b,o,e,RC.noLoc b o cs n q⟩
 | .nilp,_,_,q=>by simpa [R] using q
 | .list rows,_,n,q=>by
  simp only [V.noLoc] at n
  simp only [R] at q ⊢
  obtain ⟨base,cap,e,hc,hm,q⟩:=q
  refine ⟨base,cap,e,hc,hm,?_⟩
  rcases q with q | ⟨b,o,k,e2,q⟩
  ·exact .inl q
  ·exact .inr ⟨b,o,k,e2,RR.noLoc b k o rows n q⟩
 | .fn f first cap,_,n,q=>by
  simp only [V.noLoc,zuc] at n
  simp only [R] at q ⊢
  obtain ⟨xs,ys,e,q1,q2⟩:=q
  exact ⟨xs,ys,e,RL.noLoc _ _ n.1 q1,RL.noLoc _ _ n.2 q2⟩
 | .nilfn,_,_,q=>by simpa [R] using q
 | .iface t v,_,n,q=>by
  simp only [V.noLoc] at n
  simp only [R] at q ⊢
  obtain ⟨y,e,q⟩:=q
  exact ⟨y,e,R.noLoc v y n q⟩
 | .nilif,_,_,q=>by simpa [R] using q
 | .mref _,_,n,_=>by simp [V.noLoc] at n
 | .nilm,_,_,q=>by simpa [R] using q
 | .ptr _,_,_,q=>by simpa [R] using q
theorem RL.noLoc {w:World} {pr:Nat->Nat->Prop} {lam lam':Nat->Option Nat}:∀ (cs:List V) (xs:List Value),V.noLocL cs = true->RL ⟨w,pr,lam⟩ cs xs->RL ⟨w,pr,lam'⟩ cs xs
 | [],_,_,q=>by simpa [RL] using q
 | c :: cs,_,n,q=>by
  simp only [V.noLocL,zuc] at n
  simp only [RL] at q ⊢
  obtain ⟨y,ys,e,q1,q2⟩:=q
  exact ⟨y,ys,e,R.noLoc c y n.1 q1,RL.noLoc cs ys n.2 q2⟩
theorem RC.noLoc {w:World} {pr:Nat->Nat->Prop} {lam lam':Nat->Option Nat} (b:Nat):∀ (o:Nat) (cs:List V),V.noLocL cs = true->RC ⟨w,pr,lam⟩ b o cs->RC ⟨w,pr,lam'⟩ b o cs
 | _,[],_,_=>by simp [RC]
 | o,c :: cs,n,q=>by
  simp only [V.noLocL,zuc] at n
  simp only [RC] at q ⊢
  obtain ⟨⟨y,q0,q3,q1⟩,q2⟩:=q
  exact ⟨⟨y,q0,q3,R.noLoc c y n.1 q1⟩,RC.noLoc b (o + 1) cs n.2 q2⟩
theorem RR.noLoc {w:World} {pr:Nat->Nat->Prop} {lam lam':Nat->Option Nat} (b k:Nat):∀ (o:Nat) (cs:List V),V.noLocL cs = true->RR ⟨w,pr,lam⟩ b k o cs->RR ⟨w,pr,lam'⟩ b k o cs
 | _,[],_,_=>by simp [RR]
 | o,c :: cs,n,q=>by
  simp only [V.noLocL,zuc] at n
  simp only [RR] at q ⊢
  obtain ⟨⟨y,q0,q1,q3⟩,q2⟩:=q
  exact ⟨⟨y,R.noLoc c y n.1 q0,q1,q3⟩,RR.noLoc b k (o + k) cs n.2 q2⟩
end
theorem RM.noLoc {w:World} {pr:Nat->Nat->Prop} {lam lam':Nat->Option Nat}:∀ (cs:List V) (es:List MapEntry),V.noLocL cs = true->RM ⟨w,pr,lam⟩ cs es->RM ⟨w,pr,lam'⟩ cs es
 | [],_,_,q=>by simpa [RM] using q
 | c :: cs,_,n,q=>by
  simp only [V.noLocL,zuc] at n
  simp only [RM] at q ⊢
  obtain ⟨k,v,e,es',rfl,h2,h3,h4,h5⟩:=q
  simp only [V.noLoc,V.noLocL,zuc] at n
  exact ⟨k,v,e,es',rfl,h2,h3.noLoc _ _ n.1.1,h4.noLoc _ _ n.1.2.1,RM.noLoc cs es' n.2 h5⟩
theorem Yg.noLoc {w:World} {pr:Nat->Nat->Prop} {lam lam':Nat->Option Nat} {b:Nat} {B:Box} (n:V.noLocL B.cells = true) (h:Yg ⟨w,pr,lam⟩ b B):Yg ⟨w,pr,lam'⟩ b B:=by
 refine ⟨fun ht=>?_,fun ht=>?_⟩
 ·obtain ⟨cur,h1,h2,h3⟩:=h.cells ht
  exact ⟨cur,h1,RL.noLoc _ _ n h2,h3⟩
 ·obtain ⟨es,clock,h1,h2⟩:=h.map ht
  exact ⟨es,clock,h1,RM.noLoc _ _ n h2.1,h2.2⟩
def zdb (w:World) (pr:Nat->Nat->Prop) (lam:Nat->Option Nat) (bs:List Box):Prop :=
 ∀ i B,bs[i]? = some B->∃ b,lam i = some b/\Yg ⟨w,pr,lam⟩ b B/\(∀ o,¬ pr b o)
structure Left (w:World) (pr:Nat->Nat->Prop) (lam:Nat->Option Nat) (w':World) (pr':Nat->Nat->Prop):Prop where
 os:w'.os = w.os
 tape:w'.tape = w.tape
 output:w'.output = w.output
 drawn:DLE w w'
 size:w.heap.size <= w'.heap.size
 block:∀ k,k < w.heap.size->(∀ i,lam i ≠ some k)->w'.heap[k]? = w.heap[k]?
 sub:∀ b o,pr b o->pr' b o
 new:∀ b o,pr' b o->pr b o ∨ (w.heap.size <= b/\b < w'.heap.size)
def Fn (P:Program) (f:FuncId) (args:List V) (ins:List Box) (res:V) (outs:List Box):Prop :=
 ∀ (w:World) (pr:Nat->Nat->Prop) (lam:Nat->Option Nat) (cargs:Array Value),
  HL w pr->RL ⟨w,pr,lam⟩ args cargs.toList->zdb w pr lam ins ->
  (∀ i j b,lam i = some b->lam j = some b->i = j)->(∀ i,ins.length <= i->lam i = none) ->
  Calls P f cargs w fun e w'=>∃ v pr',e = .returned v/\R ⟨w',pr',lam⟩ res v/\zdb w' pr' lam outs/\Left w pr lam w' pr'
def zaR (P:Program) (f:FuncId):Bool:=match P.funcs[f]? with
 | some fn => fn.name != "runtime.NumGoroutine" && fn.body.isSome
 | none=>false
section
variable {P:Program} {o:Oper} {ρ:Operand->V} {bx:Nat->Option Box}
theorem ziA {f:FuncId} (h:zaR P f = true) (args:Array Value) (w:World):(callFunc f args).run P w = .ok (.enter f args) w:=by
 unfold zaR at h
 cases hf:P.funcs[f]? with
 | none=>rw [hf] at h; cases h
 | some fn =>
  rw [hf] at h
  simp only [zuc,bne_iff_ne,ne_eq] at h
  obtain ⟨h1,h2⟩:=h
  cases hb:fn.body with
  | none=>rw [hb] at h2; cases h2
  | some c=>simp [callFunc,hf,h1,hb]
theorem ZN {E:Env} {ac:Act}:∀ (l:List Operand),(∀ x ∈ l,R E (ρ x) (ac.eval x))->RL E (l.map ρ) (l.map ac.eval)
 | [],_=>by simp [RL]
 | x :: l,h=>by
  simp only [List.map_cons,RL]
  exact ⟨_,_,rfl,h x (by simp),ZN l fun y hy=>h y (by simp [hy])⟩
theorem zaw {c:Operand} {args:Array Operand} {tys:Array TypeId} {f:FuncId} {xs ys:List Value} {ac:Act} {w:World} (ho:o.op = .call { callee:=.value c,args:=args,argTypes:=tys })
  (hc:ac.eval c = .func (.func f) xs.toArray ys.toArray) (hg:zaR P f = true) :
  (execOp ac.eval o).run P w = .ok (.enter f (xs.toArray++args.map ac.eval++ys.toArray)) w:=by
 simp only [execOp,ho,resolve,hc,Deferred.ofValue,Sem.run_bind,Sem.run_pure,Result.andThen_ok,invoke,ziA hg]
theorem ziB {c:Operand} {args:Array Operand} {tys:Array TypeId} {f:FuncId} {first cap:List V} {res:V} (ho:o.op = .call { callee:=.value c,args:=args,argTypes:=tys })
  (hc:ρ c = .fn (.func f) first cap) (hg:zaR P f = true) (hn:V.noLocL (first++args.toList.map ρ++cap) = true)
  (hf:Fn P f (first++args.toList.map ρ++cap) [] res []):QV P o ρ bx res none:=by
 intro a w pr lam hlt hop _ next Q hk
 have h1:=hop c (by simp [ho,Op.operands,Call.operands])
 rw [hc] at h1
 simp only [R] at h1
 obtain ⟨xs,ys,e1,q1,q2⟩:=h1
 have q3:=ZN (ρ:=ρ) (E:=⟨w,pr,lam⟩) (ac:=a) args.toList fun x hx=>hop x (by simp [ho,Op.operands,Call.operands]; exact .inr (by simpa using hx))
 unfold Oper.wp
 rw [zaw ho e1 hg,Oper.upon_enter]
 refine (hf w pr (fun _=>none) _ hlt ?_ ?_ ?_ ?_).mono ?_
 ·have:=RL.noLoc (lam':=fun _=>none) _ _ hn ((q1.append q3).append q2)
  simpa using this
 ·intro i B hi; simp at hi
 ·intro i j b hi; cases hi
 ·intro _ _; rfl
 ·rintro e w' ⟨v,pr',rfl,hr,_,hl⟩
  have hext:Ext w pr w' pr':=⟨⟨hl.os,hl.tape,hl.output,hl.size,fun k hk'=>hl.block k hk' (fun i hi=>by cases hi)⟩,hl.drawn,hl.sub,hl.new⟩
  have hle:Env.Le ⟨w',pr',fun _=>none⟩ ⟨w',pr',lam⟩:=⟨(fun i b hi=>by cases hi),fun _ _ h=>h,fun _ _ _=>rfl⟩
  exact hk v w' pr' hext (hr.mono hle) (fun c e he=>(by cases he))
def FnO (P:Program) (f:FuncId) (args:List V) (res:V) (e:TypeId):Prop :=
 ∀ (w:World) (pr:Nat->Nat->Prop) (cargs:Array Value),HL w pr->RL ⟨w,pr,fun _=>none⟩ args cargs.toList ->
  Calls P f cargs w fun en w'=>∃ v pr',en = .returned v/\R ⟨w',pr',fun _=>none⟩ res v/\Left w pr (fun _=>none) w' pr'/\Own P (fun g=>w.heap.size <= g) ⟨w',pr',fun _=>none⟩ 0 e v
theorem zpa {c:Operand} {args:Array Operand} {tys:Array TypeId} {f:FuncId} {first cap:List V} {res:V} {e:TypeId} (ho:o.op = .call { callee:=.value c,args:=args,argTypes:=tys })
  (hc:ρ c = .fn (.func f) first cap) (hg:zaR P f = true) (hn:V.noLocL (first++args.toList.map ρ++cap) = true)
  (hf:FnO P f (first++args.toList.map ρ++cap) res e):QV P o ρ bx res (some (0,e)):=by
 intro a w pr lam hlt hop _ next Q hk
 have h1:=hop c (by simp [ho,Op.operands,Call.operands])
 rw [hc] at h1
 simp only [R] at h1
 obtain ⟨xs,ys,e1,q1,q2⟩:=h1
 have q3:=ZN (ρ:=ρ) (E:=⟨w,pr,lam⟩) (ac:=a) args.toList fun x hx=>hop x (by simp [ho,Op.operands,Call.operands]; exact .inr (by simpa using hx))
 unfold Oper.wp
 rw [zaw ho e1 hg,Oper.upon_enter]
 refine (hf w pr _ hlt ?_).mono ?_
 ·have:=RL.noLoc (lam':=fun _=>none) _ _ hn ((q1.append q3).append q2)
  simpa using this
 ·rintro en w' ⟨v,pr',rfl,hr,hl,hown⟩
  have hext:Ext w pr w' pr':=⟨⟨hl.os,hl.tape,hl.output,hl.size,fun k hk'=>hl.block k hk' (fun i hi=>by cases hi)⟩,hl.drawn,hl.sub,hl.new⟩
  have hle:Env.Le ⟨w',pr',fun _=>none⟩ ⟨w',pr',lam⟩:=⟨(fun i b hi=>by cases hi),fun _ _ h=>h,fun _ _ _=>rfl⟩
  exact hk v w' pr' hext (hr.mono hle) (fun c' e' he=>by cases he; exact ⟨by decide,hown⟩)
def zex (place:Nat->Option (Nat × Nat)) (cells:List V):List (Nat × V)->Option (List V)
 | []=>some cells
 | (i,v) :: rest =>
  match place i,v.csize with
  | some (off,size),some n=>if n ≠ size ∨ off + n > cells.length then none else zex place (cells.take off++v.cellsL++cells.drop (off + n)) rest
  | _,_=>none
theorem znS (xs:List Value):∀ (j:Nat) (cs:Array Value) (off:Nat),off + j + xs.length <= cs.size ->
  ((xs.zipIdx j).foldl (fun cs (c,j)=>cs.setIfInBounds (off + j) c) cs).toList = cs.toList.take (off + j)++xs++cs.toList.drop (off + j + xs.length):=by
 induction xs with
 | nil=>intro j cs off h; simp
 | cons x xs ih =>
  intro j cs off h
  simp only [List.zipIdx_cons,List.foldl_cons]
  rw [ih (j + 1) _ off (by simp at h ⊢; omega)]
  have e:=list_seg_step cs.toList (off + j) x xs (by simp at h ⊢; omega)
  simpa [Array.toList_setIfInBounds,Nat.add_assoc] using e
theorem zfX {E:Env} {place:Nat->Option (Nat × Nat)}:∀ (parts:List (Nat × V)) (vals:List (Nat × Value)) (cells:List V) (cur:Array Value) (out:List V),
  parts.map (·.1) = vals.map (·.1)->RL E (parts.map (·.2)) (vals.map (·.2))->RL E cells cur.toList->(∀ y ∈ cur.toList,y.oneCell' = true)->zex place cells parts = some out ->
  ∃ cur':Array Value,Instr.fill place cur vals = some cur'/\RL E out cur'.toList/\(∀ y ∈ cur'.toList,y.oneCell' = true)
 | [],vals,cells,cur,out,h1,_,h3,h4,h5=>by
  simp only [zex,zuf] at h5; subst h5
  have:vals = []:=by cases vals with | nil=>rfl | cons _ _=>simp at h1
  subst this
  exact ⟨cur,rfl,h3,h4⟩
 | (i,v) :: parts,vals,cells,cur,out,h1,h2,h3,h4,h5=>by
  cases vals with
  | nil=>simp at h1
  | cons x vals =>
   obtain ⟨i',x⟩:=x
   simp only [List.map_cons,List.cons.injEq] at h1
   obtain ⟨rfl,h1⟩:=h1
   simp only [List.map_cons,RL] at h2
   obtain ⟨y,ys,he,hv,h2⟩:=h2
   simp only [List.cons.injEq] at he
   obtain ⟨rfl,rfl⟩:=he
   simp only [zex] at h5
   split at h5
   ·rename_i off size n hp hn
    split at h5
    ·cases h5
    ·rename_i hc
     obtain ⟨hc1,hc2⟩:=not_or.1 hc
     have hc1:n = size:=Classical.byContradiction fun q=>hc1 q
     subst hc1
     have hsz:=hv.csize hn
     obtain ⟨r1,r2⟩:=hv.cells hn
     have hlen:=h3.length
     simp at hlen
     have hfold:=znS x.cells.toList 0 cur off (by simp [hsz]; omega)
     simp only [Nat.add_zero,Array.length_toList,hsz] at hfold
     generalize hcur':(x.cells.zipIdx.foldl (fun cs (c,j)=>cs.setIfInBounds (off + j) c) cur) = cur'
     have hcur'':cur'.toList = cur.toList.take off++x.cells.toList++cur.toList.drop (off + n):=by
      rw [<- hfold,<- hcur',<- Array.foldl_toList,Array.toList_zipIdx]
     obtain ⟨cf,q1,q2,q3⟩:=zfX parts vals _ cur' out h1 h2 (by
      rw [hcur'']; exact ((h3.take off).append r1).append (h3.drop (off + n))) (by
      intro z hz
      rw [hcur''] at hz
      simp only [List.mem_append] at hz
      rcases hz with (hz | hz) | hz
      ·exact h4 z (List.mem_of_mem_take hz)
      ·exact r2 z hz
      ·exact h4 z (List.mem_of_mem_drop hz)) h5
     refine ⟨cf,?_,q2,q3⟩
     simp only [Instr.fill,hp,hsz]
     rw [if_neg (by simp; omega),hcur']
     exact q1
   ·cases h5
def zfl (P:Program) (t:TypeId):Option (Nat->Option (Nat × Nat)) :=
 match P.underlying t with
 | some (.struct fs)=>((fs.toList.map fun f=>(zj P f.type).map fun n=>(f.offset,n)).mapM id).map fun l=>fun i=>l[i]?
 | some (.array _ e)=>(zj P e).map fun n=>fun i=>some (i * n,n)
 | _=>none
theorem za7 {g:Field->Sem (Nat × Nat)} (hg:∀ f n w,zj P f.type = some n->(g f).run P w = .ok (f.offset,n) w):∀ (fs:List Field) (l:List (Nat × Nat)) (w:World),(fs.map fun f=>(zj P f.type).map fun n=>(f.offset,n)).mapM id = some l ->
  (fs.mapM g).run P w = .ok l w
 | [],l,w,h=>by simp at h; subst h; simp
 | f :: fs,l,w,h=>by
  cases hs:zj P f.type with
  | none=>simp [hs] at h
  | some n =>
   cases hr:(fs.map fun f=>(zj P f.type).map fun n=>(f.offset,n)).mapM id with
   | none=>simp [hs,hr] at h
   | some l' =>
    simp [hs,hr] at h
    subst h
    simp [List.mapM_cons,hg f n w hs,za7 hg fs l' w hr]
theorem zpb {t:TypeId} {parts:Array (Nat × Operand)} {zv:V} {place:Nat->Option (Nat × Nat)} {out:List V} {n:Nat} (ho:o.op = .build t parts) (hz:ZM P t = some zv) (hzn:zv.csize = some n)
  (hp:zfl P t = some place) (hf:zex place zv.cellsL (parts.toList.map fun x=>(x.1,ρ x.2)) = some out):QV P o ρ bx (.agg out) none :=
 QV.pure fun ac w pr lam hop _=>by
  obtain ⟨i,z,z1,z2,rfl⟩:=Yn hz
  obtain ⟨r1,r2⟩:=(Yh ⟨w,pr,lam⟩ z).cells hzn
  have hrel:RL ⟨w,pr,lam⟩ ((parts.toList.map fun x=>(x.1,ρ x.2)).map (·.2)) ((parts.toList.map fun x=>(x.1,ac.eval x.2)).map (·.2)):=by
   have:=ZN (ρ:=ρ) (E:=⟨w,pr,lam⟩) (ac:=ac) (parts.toList.map (·.2)) fun x hx=>hop x (by simp [ho,Op.operands]; simpa using hx)
   simpa [List.map_map,Function.comp_def] using this
  obtain ⟨cur,q1,q2,q3⟩:=zfX _ (parts.toList.map fun x=>(x.1,ac.eval x.2)) _ z.cells out (by simp [List.map_map,Function.comp_def]) hrel r1 r2 hf
  have hzero:(zeroValue t).run P w = .ok z w:=by simp [zeroValue,typeInfo,z1,z2]
  refine ⟨.agg cur,?_,by simp only [R]; exact ⟨cur.toList,by simp,q2,q3⟩⟩
  simp only [execOp,ho]
  unfold zfl at hp
  split at hp
  ·rename_i fs hu
   cases hl:(fs.toList.map fun f=>(zj P f.type).map fun n=>(f.offset,n)).mapM id with
   | none=>rw [hl] at hp; cases hp
   | some l =>
    rw [hl] at hp
    simp only [Option.map_some,zuf] at hp
    subst hp
    have hm:∀ g:Field->Sem (Nat × Nat),(∀ f n w,zj P f.type = some n->(g f).run P w = .ok (f.offset,n) w)->(fs.mapM g).run P w = .ok l.toArray w:=by
     intro g hg
     rw [<- Array.toArray_toList (xs:=fs),List.mapM_toArray]
     simp [za7 hg fs.toList l w hl]
    have hm':=hm (fun f=>Prod.mk f.offset <$> sizeOf f.type) (fun f n w hs=>by simp [run_sizeOf hs])
    simp [Instr.build,hzero,run_underlying hu,hm',q1]
  ·rename_i len e hu
   cases hs:zj P e with
   | none=>rw [hs] at hp; cases hp
   | some m =>
    rw [hs] at hp
    simp only [Option.map_some,zuf] at hp
    subst hp
    simp [Instr.build,hzero,run_underlying hu,run_sizeOf hs,q1]
  ·cases hp
end
end Go.Eng
namespace Go.Eng
open Go.RowKit
section
variable {P:Program} {o:Oper} {ρ:Operand->V} {bx:Nat->Option Box}
theorem zfY {e:TypeId} {n:Nat} (h:zj P e = some n):∃ i,P.info? e = some i/\i.size = n:=by
 unfold zj at h
 cases hi:P.info? e with
 | none=>simp [hi] at h
 | some i=>simp [hi] at h; exact ⟨i,rfl,h⟩
theorem zdc {w w':World} {pr:Nat->Nat->Prop} {lam:Nat->Option Nat} {rows:List V} {ys:List Value} {arr:Array Value} {e:TypeId} {fz:Nat × Nat} {cap sz:Nat}
  (hlt:∀ b o,pr b o->b < w.heap.size) (hbel:Below w.heap.size w w') (hdl:DLE w w') (hlt':w.heap.size < w'.heap.size) (hg:w'.heap[w.heap.size]? = some (.cells arr e fz)) (hr:RL ⟨w,pr,lam⟩ rows ys) (hs:∀ y ∈ ys,y.cells.size = sz) (h1:∀ z ∈ zc ys,z.oneCell' = true)
  (hc:∀ (j:Nat) z,(zc ys)[j]? = some z->arr[j]? = some z) (hcap:rows.length <= cap) (hm:cap <= maxLen) :
  Ext w pr w' (fun b o=>pr b o ∨ (b = w.heap.size/\o < (zc ys).length)) /\
  R ⟨w',fun b o=>pr b o ∨ (b = w.heap.size/\o < (zc ys).length),lam⟩ (.list rows) (.slice (some ⟨w.heap.size,0,none⟩) rows.length cap):=by
 have hext:Ext w pr w' (fun b o=>pr b o ∨ (b = w.heap.size/\o < (zc ys).length)):=Ext.protect w pr w' hbel hdl _ (fun b o hp=>by rw [hp.1]; omega)
 refine ⟨hext,?_⟩
 have hle:=hext.le (lam:=lam) hlt
 simp only [R]
 refine ⟨some ⟨w.heap.size,0,none⟩,cap,rfl,hcap,hm,.inr ⟨w.heap.size,0,sz,rfl,RR.of_vals (hr.mono hle) hs fun j z hz=>?_⟩⟩
 rw [Nat.zero_add]
 have hj:j < (zc ys).length:=(List.getElem?_eq_some_iff.1 hz).1
 refine ⟨⟨?_,.inr ⟨rfl,hj⟩⟩,h1 z (List.mem_of_getElem? hz)⟩
 simpa [World.cell?,hg] using hc j z hz
theorem zhE {E:Env} {sz:Nat}:∀ {rows:List V} {ys:List Value},RL E rows ys->yO sz rows->(∀ y ∈ ys,y.cells.size = sz)/\(∀ z ∈ zc ys,z.oneCell' = true)
 | [],ys,h,_=>by simp only [RL] at h; subst h; simp [zc]
 | r :: rs,ys,h,hr=>by
  simp only [RL] at h
  obtain ⟨y,ys,rfl,h1,h⟩:=h
  obtain ⟨q1,q2⟩:=zhE h fun r' hr'=>hr r' (by simp [hr'])
  have hc:=hr r (by simp)
  obtain ⟨_,r2⟩:=h1.cells hc
  refine ⟨fun z hz=>?_,fun z hz=>?_⟩
  ·rcases List.mem_cons.1 hz with rfl | hz
   ·exact h1.csize hc
   ·exact q1 z hz
  ·simp only [zc,List.flatMap_cons,List.mem_append] at hz
   rcases hz with hz | hz
   ·exact r2 z hz
   ·exact q2 z hz
theorem Own.full {N:Nat->Prop} {E:Env} {c:Nat} {e:TypeId} {b:Option Addr}:Own P N E c e (.slice b 0 0):=by
 intro g hg
 exfalso
 cases b <;> simp [zp] at hg
theorem zg7 {t e:TypeId} {len sz:Nat} {parts:Array (Nat × Operand)} {zv:V} (ho:o.op = .buildSlice t len parts) (ht:P.underlying t = some (.slice e)) (hs:zj P e = some sz) (h0:sz ≠ 0)
  (hz:ZM P e = some zv) (hzn:zv.csize = some sz) (hlen:parts.size = len) (hsmall:len * sz <= 16777216) (hidx:parts.toList.map (·.1) = List.range len)
  (hrows:yO sz (parts.toList.map fun x=>ρ x.2)):QV P o ρ bx (.list (parts.toList.map fun x=>ρ x.2)) (some (0,e)) :=
 QV.of_run fun ac w pr lam hlt hop _=>by
  obtain ⟨i,z,i1,i2,rfl⟩:=Yn hz
  obtain ⟨i',j1,j2⟩:=zfY hs
  rw [i1] at j1; cases j1
  have hrel:RL ⟨w,pr,lam⟩ (parts.toList.map fun x=>ρ x.2) (parts.toList.map fun x=>ac.eval x.2):=by
   have:=ZN (ρ:=ρ) (E:=⟨w,pr,lam⟩) (ac:=ac) (parts.toList.map (·.2)) fun x hx=>hop x (by simp [ho,Op.operands]; simpa using hx)
   simpa [List.map_map,Function.comp_def] using this
  obtain ⟨q1,q2⟩:=zhE hrel hrows
  generalize hvs:(parts.toList.map fun x=>ac.eval x.2) = vs at *
  have hvl:vs.length = len:=by rw [<- hvs]; simpa using hlen
  have hparts:(parts.map fun x=>(x.1,ac.eval x.2)).toList = (vs.zipIdx 0).map fun x=>(x.2,x.1):=by
   apply List.ext_getElem?
   intro k
   have hk:(parts.toList.map (·.1))[k]? = (List.range len)[k]?:=by rw [hidx]
   simp only [List.getElem?_map,Array.toList_map,List.getElem?_zipIdx,<- hvs,Nat.zero_add] at hk ⊢
   by_cases hkl:k < len
   ·have hkp:k < parts.toList.length:=by simpa [hlen] using hkl
    simp [List.getElem?_eq_getElem hkp,List.getElem?_range hkl] at hk ⊢
    exact hk
   ·simp [List.getElem?_eq_none (show parts.toList.length <= k by simp [hlen]; omega)]
  have hrl:(parts.toList.map fun x=>ρ x.2).length = len:=by simpa using hlen
  by_cases hl0:len = 0
  ·subst hl0
   have hp0:parts = #[]:=Array.eq_empty_of_size_eq_zero hlen
   subst hp0
   have hv0:vs = []:=zui hvl
   subst hv0
   have hrun:(Instr.buildSlice t 0 #[]).run P w = .ok (.slice (some ⟨w.heap.size,0,none⟩) 0 0) (w.alloc (.cells #[] e)):=by
    simp [Instr.buildSlice,run_underlying ht,sizeOf,typeInfo,i1,Instr.fill,newRow]
    congr 2
    apply Array.eq_empty_of_size_eq_zero
    simp
   obtain ⟨r1,r2⟩:=zdc (sz:=sz) (cap:=0) (rows:=([]:List V)) (ys:=[]) (arr:=#[]) (e:=e) (fz:=(0,0)) hlt.lt ((Below.refl _ w).alloc (Nat.le_refl _) (.cells #[] e)) (DLE.of_eq rfl) (by simp) (heap_alloc_new w _) (lam:=lam) (by simp [RL]) (by simp) (by simp [zc]) (by simp [zc]) (by simp) (by simp)
   exact ⟨_,_,_,by simp only [execOp,ho]; simp [hrun],r1,r2,fun _ _ hce=>by cases hce; exact ⟨by omega,Own.full⟩⟩
  ·have hfill:=Go.Great.fill_whole (s:=i.size) (by omega) vs ((Array.range (len * i.size)).map (z.cells[· % z.cells.size]!)) (by rw [j2]; exact q1) (by simp [hvl])
   rw [<- hparts] at hfill
   have hrun:=run_buildSlice (P:=P) w t e len _ _ i z ht i1 i2 (by rw [j2]; omega) (by rw [j2]; exact fun hq=>by rcases Nat.mul_eq_zero.1 hq with h | h <;> omega) hfill
   obtain ⟨r1,r2⟩:=zdc (sz:=sz) (cap:=len) (e:=e) (fz:=(0,0)) (arr:=(vs.flatMap fun v=>v.cells.toList).toArray) hlt.lt ((Below.refl _ w).alloc (Nat.le_refl _) (.cells (vs.flatMap fun v=>v.cells.toList).toArray e)) (DLE.of_eq rfl) (by simp) (heap_alloc_new w _) hrel q1 q2
    (fun j z hz=>by simpa [zc] using hz) (by omega) (by simp only [maxLen]; have:len * 1 <= len * sz:=Nat.mul_le_mul_left _ (by omega); omega)
   rw [hrl] at r2
   refine ⟨_,_,_,by simp only [execOp,ho]; simp [hrun],r1,r2,fun _ _ hce=>?_⟩
   cases hce
   refine ⟨by omega,fun g hg=>?_⟩
   have hg'':g = w.heap.size:=by
    simp only [zp] at hg
    split at hg
    ·cases hg; rfl
    ·cases hg
   subst hg''
   have hfl:(zc vs).length = len * sz:=by rw [yg q1,hvl]
   refine ⟨Nat.le_refl _,len,len,_,sz,rfl,heap_alloc_new w _,by simp [i1,j2],?_,fun o ho' hp=>?_⟩
   ·simpa [zc] using hfl
   ·rcases hp with hp | ⟨_,hp⟩
    ·have:=hlt.lt _ _ hp; omega
    ·rw [hfl] at hp; omega
theorem Q8 (s:List UInt8):zc (s.map fun b=>Value.int .u8 (b.toNat:Int)) = s.map fun b=>Value.int .u8 (b.toNat:Int):=by
 induction s with
 | nil=>rfl
 | cons b s ih=>simp only [zc,List.map_cons,List.flatMap_cons] at ih ⊢; rw [ih]; rfl
theorem zfZ (E:Env):∀ s:List UInt8,RL E (qp s) (s.map fun b=>Value.int .u8 (b.toNat:Int))
 | []=>by simp [qp,RL]
 | b :: s=>by
  simp only [qp,List.map_cons,RL]
  exact ⟨_,_,rfl,by simp [R],zfZ E s⟩
theorem zdd {s d e:TypeId} {x:Operand} {l:List UInt8} (ho:o.op = .convert s d x) (hx:ρ x = .str l) (hs:P.underlying s = some .string) (hd:P.underlying d = some (.slice e)) (he:P.underlying e = some (.int .u8)) :
  QV P o ρ bx (.list (qp l)) none :=
 QV.of_run fun ac w pr lam hlt hop _=>by
  have h1:=hop x (by simp [ho,Op.operands])
  rw [hx] at h1
  simp only [R] at h1
  obtain ⟨h1,hl⟩:=h1
  have hsz:(ByteArray.mk l.toArray).size = l.length:=by simp [ByteArray.size]
  have hrun:=Go.Lib.run_convert_string_bytes (P:=P) w s d e (ByteArray.mk l.toArray) hs hd he
  rw [hsz] at hrun
  have hge:=grownCap_ge w l.length 0 e
  have hcm:=grownCap_le_maxLen w l.length 0 e hl
  obtain ⟨r1,r2⟩:=zdc (sz:=1) (cap:=grownCap w l.length 0 e) (rows:=qp l) (ys:=l.map fun b=>Value.int .u8 (b.toNat:Int)) (lam:=lam) hlt.lt
   (w':=Go.Lib.bytesWorld w e (ByteArray.mk l.toArray)) ⟨rfl,rfl,rfl,by rw [Go.Lib.bytesWorld_size]; omega,fun k hk=>Go.Lib.bytesWorld_at_old w e _ k hk⟩ (by first | exact DLE.of_eq rfl | exact (DLE.drewN w 1).trans (DLE.of_eq rfl)) (by rw [Go.Lib.bytesWorld_size]; omega) (Go.Lib.bytesWorld_at_new w e _) (zfZ _ l)
   (by simp [Value.cells]) (by rw [Q8]; simp [Value.oneCell'])
   (fun j z hz=>by
    rw [Q8] at hz
    have hjl:j < l.length:=by have:=(List.getElem?_eq_some_iff.1 hz).1; simpa using this
    simp only [Go.Lib.bytesCells]
    rw [Array.getElem?_append,if_pos (by simpa using hjl)]
    simpa using hz)
   (by simpa [qp] using hge) hcm
  refine ⟨_,_,_,?_,r1,r2,fun c e' he'=>by cases he'⟩
  simp only [execOp,ho,h1]
  simp [hrun,qp]
theorem zde {s d e:TypeId} {x:Operand} {l:List UInt8} (ho:o.op = .convert s d x) (hx:ρ x = .list (qp l)) (hs:P.underlying s = some (.slice e)) (he:P.underlying e = some (.int .u8)) (hd:P.underlying d = some .string) :
  QV P o ρ bx (.str l) none :=
 QV.pure fun ac w pr lam hop _=>by
  have h1:=hop x (by simp [ho,Op.operands])
  rw [hx] at h1
  have hlen:=h1.list_len
  obtain ⟨ys,src⟩:=Src.list (P:=P) (sz:=1) h1 (by intro r hr; simp [qp] at hr; obtain ⟨b,_,rfl⟩:=hr; rfl)
  simp only [R] at h1
  obtain ⟨base,cap,h1,hc,hm,hb⟩:=h1
  have hbl:(qp l).length = l.length:=by simp [qp]
  have hys:zc ys = l.map fun b=>Value.int .u8 (b.toNat:Int):=by
   have hrel:=src.rel
   clear src hb h1 hc hm hlen hop hx hbl
   induction l generalizing ys with
   | nil=>simp only [qp,List.map_nil,RL] at hrel; subst hrel; rfl
   | cons b l ih =>
    simp only [qp,List.map_cons,RL] at hrel
    obtain ⟨y,ys',rfl,hy,hrel⟩:=hrel
    simp only [R] at hy
    subst hy
    have:=ih ys' hrel
    simp only [zc,List.flatMap_cons,List.map_cons] at this ⊢
    rw [this]; rfl
  have hf:=src.first w (fun _ _ _=>rfl)
  rw [h1,hys] at hf
  have hrun:(convert s d (.slice base (qp l).length cap)).run P w = .ok (.string ⟨l.toArray⟩) w:=by
   cases base with
   | none =>
    have hl0:l = []:=by
     rcases hb with ⟨hb,_⟩ | ⟨b,o',k,hb,_⟩
     ·simpa [qp] using hb
     ·cases hb
    subst hl0
    rw [run_convert_bytes_nil w s e hs he _ _ d hd]
    rfl
   | some a =>
    simp only [Builtin.firstCells,Nat.mul_one] at hf
    rw [run_convert_bytes_string w s d e _ _ _ hs he hd,run_bytesToString w a _ cap (l.map fun b=>(b.toNat:Int)) (by simpa [List.map_map,Function.comp_def] using hf),foldl_push_byteCells]
    simp [ByteArray.empty,ByteArray.emptyWithCapacity]
    rfl
  refine ⟨.string ⟨l.toArray⟩,?_,by simp only [R]; exact ⟨trivial,by rw [hbl] at hlen; exact hlen⟩⟩
  simp only [execOp,ho,h1]
  simp [hrun]
theorem Src.str {w:World} {pr:Nat->Nat->Prop} {lam:Nat->Option Nat} {x:Value} {l:List UInt8} (h:R ⟨w,pr,lam⟩ (.str l) x):∃ ys,Src P w pr lam 1 x (qp l) ys:=by
 simp only [R] at h
 obtain ⟨rfl,hl⟩:=h
 have hsz:(ByteArray.mk l.toArray).size = l.length:=by simp [ByteArray.size]
 refine ⟨l.map fun b=>Value.int .u8 (b.toNat:Int),fun w'=>by simp [Builtin.lenOf,qp,hsz],fun w' _=>?_,zfZ _ l,by simp [Value.cells],by rw [Q8]; simp [Value.oneCell']⟩
 rw [Q8]
 simp only [Builtin.firstCells,qp,List.length_map]
 have:(ByteArray.mk l.toArray).extract 0 l.length = ByteArray.mk l.toArray:=by
  apply ByteArray.ext
  simp [ByteArray.data_extract]
 rw [this]
 simp
end
end Go.Eng
namespace Go.Eng
open Go.RowKit
inductive CK where
 | int (k:IntKind) | bool | str
 deriving DecidableEq
def zdf:Value->Option CK
 | .int k _=>some (.int k)
 | .bool _=>some .bool
 | .string _=>some .str
 | _=>none
def Qr:V->Option CK
 | .int k _=>some (.int k)
 | .bool _=>some .bool
 | .str _=>some .str
 | _=>none
def Qa:Value->Value->Bool
 | .int _ a,.int _ b=>a == b
 | .bool a,.bool b=>a == b
 | .string a,.string b=>a.toList == b.toList
 | _,_=>false
def Qn:V->V->Bool
 | .int _ a,.int _ b=>a == b
 | .bool a,.bool b=>a == b
 | .str a,.str b=>a == b
 | _,_=>false
def eqC:List Value->List Value->Bool
 | x :: xs,y :: ys=>Qa x y && eqC xs ys
 | _,_=>true
def eqV:List V->List V->Bool
 | [x],[y]=>Qn x y
 | x :: xs,y :: ys=>Qn x y && eqV xs ys
 | _,_=>true
def zf0 (P:Program) (lay:TypeId->Option (List CK)):List Field->Nat->Option (List CK)
 | [],_=>some []
 | f :: fs, o => if f.name ≠ "_" /\ f.offset = o then
   match lay f.type with
   | some l=>if zj P f.type = some l.length then (zf0 P lay fs (o + l.length)).map (l++·) else none
   | none=>none
  else none
def YY (P:Program):Nat->TypeId->Option (List CK)
 | 0,_=>none
 | d + 1,t=>match P.underlying t with
  | some (.int k)=>some [.int k]
  | some .bool=>some [.bool]
  | some .string=>some [.str]
  | some (.struct fs)=>if P.stoodInHeld t = true then none else zf0 P (YY P d) fs.toList 0
  | some (.array n e)=>match YY P d e with
   | some l=>if zj P e = some l.length then some (List.replicate n l).flatten else none
   | none=>none
  | _=>none
section
variable {P:Program}
def ZH (P:Program) (t:TypeId) (xs:List Value):Value:=if Zb P t = some true then .agg xs.toArray else xs.headD undef
theorem zcz:∀ {xs xs' ys ys':List Value},xs.length = ys.length->eqC (xs++xs') (ys++ys') = (eqC xs ys && eqC xs' ys')
 | [],_,[],_,_=>by simp [eqC]
 | x :: xs,_,y :: ys,_,h=>by
  simp only [List.cons_append,eqC]
  rw [zcz (by simpa using h),Bool.and_assoc]
 | [],_,_ :: _,_,h=>by simp at h
 | _ :: _,_,[],_,h=>by simp at h
theorem YG {t:TypeId} {xs:List Value} {o n:Nat} (hs:zj P t = some n) (ha:(Zb P t).isSome = true) (h1:Zb P t = some false->n = 1) (hl:Zb P t = some false->o < xs.length) (w:World) :
  (part t xs.toArray o).run P w = .ok (ZH P t ((xs.drop o).take n)) w:=by
 cases hq:Zb P t with
 | none=>rw [hq] at ha; cases ha
 | some b =>
  cases b
  ·have:=h1 hq
   subst this
   have hlt:o < xs.length:=hl hq
   rw [zaQ hq (List.getElem?_eq_getElem hlt)]
   congr 1
   rw [ZH,hq,List.drop_eq_getElem_cons hlt]
   rfl
  ·rw [zc8 hq hs]
   simp [ZH,hq]
theorem zj5 {d:Nat} {t:TypeId} {ks:List CK} (h:YY P d t = some ks):(Zb P t).isSome = true/\(Zb P t = some false->ks.length = 1):=by
 cases d with
 | zero=>simp [YY] at h
 | succ d =>
  simp only [YY] at h
  unfold Zb
  split at h
  ·rename_i hu; rw [hu]; simp at h; subst h; simp
  ·rename_i hu; rw [hu]; simp at h; subst h; simp
  ·rename_i hu; rw [hu]; simp at h; subst h; simp
  ·rename_i hu; rw [hu]; simp
  ·rename_i hu; rw [hu]; simp
  ·cases h
def yY (ks:List CK) (xs:List Value):Prop:=xs.map zdf = ks.map some
theorem yY.length {ks:List CK} {xs:List Value} (h:yY ks xs):xs.length = ks.length:=by
 have:=congrArg List.length h; simpa using this
theorem zdg {d:Nat} (IH:∀ t ks xs ys w,YY P d t = some ks->yY ks xs->yY ks ys->(Op.equalIn d t (ZH P t xs) (ZH P t ys)).run P w = .ok (eqC xs ys) w) (xs ys:List Value) :
  ∀ (fs:List Field) (o:Nat) (ks:List CK) (w:World),zf0 P (YY P d) fs o = some ks->yY ks (xs.drop o)->yY ks (ys.drop o) ->
   (Op.eqFields d xs.toArray ys.toArray fs).run P w = .ok (eqC (xs.drop o) (ys.drop o)) w
 | [],o,ks,w,h,hx,hy=>by
  simp only [zf0,zuf] at h
  subst h
  have h1:xs.drop o = []:=zui hx.length
  rw [h1]
  simp [Op.eqFields,eqC]
 | f :: fs,o,ks,w,h,hx,hy=>by
  simp only [zf0] at h
  split at h
  ·rename_i hc
   obtain ⟨hn,rfl⟩:=hc
   cases hl:YY P d f.type with
   | none=>rw [hl] at h; cases h
   | some l =>
    rw [hl] at h
    simp only at h
    split at h
    ·rename_i hs
     cases hr:zf0 P (YY P d) fs (f.offset + l.length) with
     | none=>rw [hr] at h; cases h
     | some ks' =>
      rw [hr] at h
      simp only [Option.map_some,zuf] at h
      subst h
      obtain ⟨a1,a2⟩:=zj5 hl
      have lx:=hx.length
      have ly:=hy.length
      simp only [List.length_drop,zuh] at lx ly
      have hsplit:∀ zs:List Value,yY (l++ks') (zs.drop f.offset)->yY l ((zs.drop f.offset).take l.length)/\yY ks' (zs.drop (f.offset + l.length)):=by
       intro zs hz
       unfold yY at hz ⊢
       rw [List.map_append] at hz
       constructor
       ·rw [List.map_take,hz]; simp
       ·rw [<- List.drop_drop,List.map_drop,hz]; simp
      obtain ⟨x1,x2⟩:=hsplit xs hx
      obtain ⟨y1,y2⟩:=hsplit ys hy
      have p1:=YG (P:=P) (xs:=xs) (o:=f.offset) hs a1 a2 (fun hq=>by have:=a2 hq; omega) w
      have p2:=YG (P:=P) (xs:=ys) (o:=f.offset) hs a1 a2 (fun hq=>by have:=a2 hq; omega) w
      have p3:=IH f.type l _ _ w hl x1 y1
      have p4:=zdg IH xs ys fs (f.offset + l.length) ks' w hr x2 y2
      simp only [Op.eqFields,hn,ne_eq,not_false_eq_true,if_true,Sem.run_bind,p1,p2,p3,Result.andThen_ok]
      have hcat:∀ zs:List Value,zs.drop f.offset = (zs.drop f.offset).take l.length++zs.drop (f.offset + l.length):=by
       intro zs
       rw [<- List.drop_drop,List.take_append_drop]
      have he:eqC (xs.drop f.offset) (ys.drop f.offset) = (eqC ((xs.drop f.offset).take l.length) ((ys.drop f.offset).take l.length) && eqC (xs.drop (f.offset + l.length)) (ys.drop (f.offset + l.length))):=by
       rw [hcat xs,hcat ys,zcz (by simp; omega)]
       rw [<- hcat xs,<- hcat ys]
      rw [he]
      cases eqC ((xs.drop f.offset).take l.length) ((ys.drop f.offset).take l.length)
      ·simp
      ·simp [p4]
    ·cases h
  ·cases h
theorem zey {d:Nat} {e:TypeId} {l:List CK} (IH:∀ xs ys w,yY l xs->yY l ys->(Op.equalIn d e (ZH P e xs) (ZH P e ys)).run P w = .ok (eqC xs ys) w) (hl:YY P d e = some l) (hs:zj P e = some l.length) (xs ys:List Value) :
  ∀ (n j:Nat) (w:World),yY (List.replicate n l).flatten (xs.drop (j * l.length))->yY (List.replicate n l).flatten (ys.drop (j * l.length)) ->
   (Op.eqItems d e l.length xs.toArray ys.toArray (List.range' j n)).run P w = .ok (eqC (xs.drop (j * l.length)) (ys.drop (j * l.length))) w
 | 0,j,w,hx,hy=>by
  have h1:xs.drop (j * l.length) = []:=zui (by simpa using hx.length)
  rw [h1]
  simp [Op.eqItems,eqC]
 | n + 1,j,w,hx,hy=>by
  obtain ⟨a1,a2⟩:=zj5 hl
  have hj:(j + 1) * l.length = j * l.length + l.length:=by rw [Nat.add_mul,Nat.one_mul]
  have lx:=hx.length
  have ly:=hy.length
  rw [List.replicate_succ,List.flatten_cons] at hx hy lx ly
  simp only [List.length_drop,zuh] at lx ly
  have hsplit:∀ zs:List Value,yY (l++(List.replicate n l).flatten) (zs.drop (j * l.length))->yY l ((zs.drop (j * l.length)).take l.length)/\yY (List.replicate n l).flatten (zs.drop ((j + 1) * l.length)):=by
   intro zs hz
   unfold yY at hz ⊢
   rw [List.map_append] at hz
   constructor
   ·rw [List.map_take,hz]; simp
   ·rw [hj,<- List.drop_drop,List.map_drop,hz]; simp
  obtain ⟨x1,x2⟩:=hsplit xs hx
  obtain ⟨y1,y2⟩:=hsplit ys hy
  have p1:=YG (P:=P) (xs:=xs) (o:=j * l.length) hs a1 a2 (fun hq=>by have:=a2 hq; omega) w
  have p2:=YG (P:=P) (xs:=ys) (o:=j * l.length) hs a1 a2 (fun hq=>by have:=a2 hq; omega) w
  have p3:=IH _ _ w x1 y1
  have p4:=zey IH hl hs xs ys n (j + 1) w x2 y2
  simp only [List.range'_succ,Op.eqItems,Sem.run_bind,p1,p2,p3,Result.andThen_ok]
  have hcat:∀ zs:List Value,zs.drop (j * l.length) = (zs.drop (j * l.length)).take l.length++zs.drop ((j + 1) * l.length):=by
   intro zs
   rw [hj,<- List.drop_drop,List.take_append_drop]
  have he:eqC (xs.drop (j * l.length)) (ys.drop (j * l.length)) = (eqC ((xs.drop (j * l.length)).take l.length) ((ys.drop (j * l.length)).take l.length) && eqC (xs.drop ((j + 1) * l.length)) (ys.drop ((j + 1) * l.length))):=by
   rw [hcat xs,hcat ys,zcz (by simp; omega)]
   rw [<- hcat xs,<- hcat ys]
  rw [he]
  cases eqC ((xs.drop (j * l.length)).take l.length) ((ys.drop (j * l.length)).take l.length)
  ·simp
  ·simp [p4]
theorem za8:∀ (d:Nat) (t:TypeId) (ks:List CK) (xs ys:List Value) (w:World),YY P d t = some ks->yY ks xs->yY ks ys ->
  (Op.equalIn d t (ZH P t xs) (ZH P t ys)).run P w = .ok (eqC xs ys) w
 | 0,_,_,_,_,_,h,_,_=>by simp [YY] at h
 | d + 1,t,ks,xs,ys,w,h,hx,hy=>by
  have IH:=za8 d
  simp only [YY] at h
  split at h
  ·rename_i k hu
   simp only [zuf] at h; subst h
   match xs,ys,hx,hy with
   | [x],[y],hx,hy =>
    simp only [yY,List.map_cons,List.map_nil,List.cons.injEq,and_true] at hx hy
    cases x <;> simp [zdf] at hx
    cases y <;> simp [zdf] at hy
    subst hx; subst hy
    simp [ZH,Zb,hu,run_equalIn_int _ _ _ _ _ _ _ hu,eqC,Qa]
   | [],_,hx,_=>simp [yY] at hx
   | _ :: _ :: _,_,hx,_=>simp [yY] at hx
   | [_],[],_,hy=>simp [yY] at hy
   | [_],_ :: _ :: _,_,hy=>simp [yY] at hy
  ·rename_i hu
   simp only [zuf] at h; subst h
   match xs,ys,hx,hy with
   | [x],[y],hx,hy =>
    simp only [yY,List.map_cons,List.map_nil,List.cons.injEq,and_true] at hx hy
    cases x <;> simp [zdf] at hx
    cases y <;> simp [zdf] at hy
    simp [ZH,Zb,hu,run_equalIn_bool' _ _ _ _ _ hu,eqC,Qa]
   | [],_,hx,_=>simp [yY] at hx
   | _ :: _ :: _,_,hx,_=>simp [yY] at hx
   | [_],[],_,hy=>simp [yY] at hy
   | [_],_ :: _ :: _,_,hy=>simp [yY] at hy
  ·rename_i hu
   simp only [zuf] at h; subst h
   match xs,ys,hx,hy with
   | [x],[y],hx,hy =>
    simp only [yY,List.map_cons,List.map_nil,List.cons.injEq,and_true] at hx hy
    cases x <;> simp [zdf] at hx
    cases y <;> simp [zdf] at hy
    simp [ZH,Zb,hu,run_equalIn_string _ _ _ _ _ hu,eqC,Qa]
   | [],_,hx,_=>simp [yY] at hx
   | _ :: _ :: _,_,hx,_=>simp [yY] at hx
   | [_],[],_,hy=>simp [yY] at hy
   | [_],_ :: _ :: _,_,hy=>simp [yY] at hy
  ·rename_i fs hu
   split at h
   ·cases h
   ·rename_i hst
    have hfo:P.fieldsOf t = fs:=by simp [Program.fieldsOf,hu]
    have h1:=run_equalIn_struct (P:=P) w d t xs.toArray ys.toArray (by rw [hfo]; exact hu) (by simpa using hst)
    have h2:=zdg IH xs ys fs.toList 0 ks w h (by simpa using hx) (by simpa using hy)
    simp only [List.drop_zero] at h2
    have e1:ZH P t xs = .agg xs.toArray:=by simp [ZH,Zb,hu]
    have e2:ZH P t ys = .agg ys.toArray:=by simp [ZH,Zb,hu]
    rw [e1,e2,h1,hfo,h2]
  ·rename_i n e hu
   cases hl:YY P d e with
   | none=>rw [hl] at h; cases h
   | some l =>
    rw [hl] at h
    simp only at h
    split at h
    ·rename_i hs
     simp only [zuf] at h; subst h
     obtain ⟨i,hi1,hi2⟩:=zfY hs
     have hco:P.cellsOf e = l.length:=by simp [Program.cellsOf,hi1,hi2]
     have h1:=run_equalIn_array (P:=P) w d xs.toArray ys.toArray hu hi1
     have h2:=zey (fun xs ys w hx hy=>IH e l xs ys w hl hx hy) hl hs xs ys n 0 w (by simpa using hx) (by simpa using hy)
     simp only [Nat.zero_mul,List.drop_zero] at h2
     have e1:ZH P t xs = .agg xs.toArray:=by simp [ZH,Zb,hu]
     have e2:ZH P t ys = .agg ys.toArray:=by simp [ZH,Zb,hu]
     rw [e1,e2,h1,hco,List.range_eq_range',h2]
    ·cases h
  ·cases h
theorem zdh {E:Env}:∀ {cs:List V} {xs:List Value} {ks:List CK},RL E cs xs->cs.map Qr = ks.map some->yY ks xs
 | [],xs,ks,h,hk=>by
  simp only [RL] at h; subst h
  cases ks with | nil=>rfl | cons _ _=>simp at hk
 | c :: cs,xs,ks,h,hk=>by
  simp only [RL] at h
  obtain ⟨y,ys,rfl,h1,h⟩:=h
  cases ks with
  | nil=>simp at hk
  | cons k ks =>
   simp only [List.map_cons,List.cons.injEq] at hk
   have:=zdh h hk.2
   simp only [yY,List.map_cons,List.cons.injEq] at this ⊢
   refine ⟨?_,this⟩
   have hk1:=hk.1
   cases c <;> simp [Qr] at hk1 <;> simp only [R] at h1
   ·subst h1; subst hk1; rfl
   ·subst h1; subst hk1; rfl
   ·obtain ⟨rfl,_⟩:=h1; subst hk1; rfl
theorem zpc {E:Env}:∀ {cs ds:List V} {xs ys:List Value} {ks:List CK},RL E cs xs->RL E ds ys->cs.map Qr = ks.map some->ds.map Qr = ks.map some->eqC xs ys = eqV cs ds
 | [],ds,xs,ys,ks,h,k,hk,hk'=>by
  simp only [RL] at h; subst h
  cases ks with
  | cons _ _=>simp at hk
  | nil =>
   cases ds with
   | cons _ _=>simp at hk'
   | nil=>simp [eqC,eqV]
 | c :: cs,ds,xs,ys,ks,h,k,hk,hk'=>by
  cases ks with
  | nil=>simp at hk
  | cons kd ks =>
   cases ds with
   | nil=>simp at hk'
   | cons d ds =>
    simp only [RL] at h k
    obtain ⟨x,xs',rfl,h1,h⟩:=h
    obtain ⟨y,ys',rfl,k1,k⟩:=k
    simp only [List.map_cons,List.cons.injEq] at hk hk'
    have ih:=zpc h k hk.2 hk'.2
    have hc:Qa x y = Qn c d:=by
     have q1:=hk.1
     have q2:=hk'.1
     cases c <;> simp [Qr] at q1 <;> subst q1 <;> cases d <;> simp [Qr] at q2 <;> simp only [R] at h1 k1
     ·subst h1; subst k1; rfl
     ·subst h1; subst k1; rfl
     ·obtain ⟨rfl,_⟩:=h1; obtain ⟨rfl,_⟩:=k1; simp [Qa,Qn]
    simp only [eqC,ih,hc]
    cases cs with
    | nil =>
     cases ds with
     | nil=>simp [eqV]
     | cons d' ds' =>
      exfalso
      have q1:=hk.2; have q2:=hk'.2
      rw [<- q1] at q2; simp at q2
    | cons c' cs' =>
     cases ds with
     | nil =>
      exfalso
      have q1:=hk.2; have q2:=hk'.2
      rw [<- q1] at q2; simp at q2
     | cons d' ds'=>simp [eqV]
variable {o:Oper} {ρ:Operand->V} {bx:Nat->Option Box}
theorem zf1 {op:BinOp} {xT yT:TypeId} {x y:Operand} {cs ds:List V} {ks:List CK} {v:V} (ho:o.op = .binOp op xT x y yT) (hx:ρ x = .agg cs) (hy:ρ y = .agg ds)
  (hm:P.eqGuardType P.depth xT = false) (ha:Zb P xT = some true) (hl:YY P 20 xT = some ks) (hc:cs.map Qr = ks.map some) (hd:ds.map Qr = ks.map some)
  (hv:(match op with | .eql=>some (V.bool (eqV cs ds)) | .neq=>some (V.bool (!eqV cs ds)) | _=>none) = some v):QV P o ρ bx v none :=
 QV.pure fun ac w pr lam h _=>by
  have h1:=h x (by simp [ho,Op.operands])
  have h2:=h y (by simp [ho,Op.operands])
  rw [hx] at h1; rw [hy] at h2
  simp only [R] at h1 h2
  obtain ⟨xs,e1,r1,_⟩:=h1
  obtain ⟨ys,e2,r2,_⟩:=h2
  have hmono:∀ (d k:Nat) (t:TypeId) (ks:List CK),YY P d t = some ks->YY P (d + k) t = some ks:=by
   intro d
   induction d with
   | zero=>intro k t ks h; simp [YY] at h
   | succ d ih =>
    intro k t ks h
    have hlf:∀ (fs:List Field) (o:Nat) (ks:List CK),zf0 P (YY P d) fs o = some ks->zf0 P (YY P (d + k)) fs o = some ks:=by
     intro fs
     induction fs with
     | nil=>intro o ks h; simpa [zf0] using h
     | cons f fs ihf =>
      intro o ks h
      simp only [zf0] at h ⊢
      split at h
      ·rename_i hc
       rw [if_pos hc]
       cases hq:YY P d f.type with
       | none=>rw [hq] at h; cases h
       | some l =>
        rw [hq] at h
        rw [ih k _ _ hq]
        simp only at h ⊢
        split at h
        ·rename_i hs
         rw [if_pos hs]
         cases hr:zf0 P (YY P d) fs (o + l.length) with
         | none=>rw [hr] at h; cases h
         | some ks'=>rw [hr] at h; rw [ihf _ _ hr]; exact h
        ·cases h
      ·cases h
    rw [show d + 1 + k = (d + k) + 1 from by omega]
    simp only [YY] at h ⊢
    split at h
    ·exact h
    ·exact h
    ·exact h
    ·split at h
     ·cases h
     ·rename_i hst; rw [if_neg hst]; exact hlf _ _ _ h
    ·rename_i n e _
     cases hq:YY P d e with
     | none=>rw [hq] at h; cases h
     | some l=>rw [hq] at h; rw [ih k _ _ hq]; exact h
    ·cases h
  have hl':YY P 10000 xT = some ks:=hmono 20 9980 xT ks hl
  have hrun:=za8 10000 xT ks xs ys w hl' (zdh r1 hc) (zdh r2 hd)
  have t1:ZH P xT xs = .agg xs.toArray:=by simp [ZH,ha]
  have t2:ZH P xT ys = .agg ys.toArray:=by simp [ZH,ha]
  rw [t1,t2,zpc r1 r2 hc hd] at hrun
  have hg:∀ op':BinOp,(eqGuard op' xT x y (.agg xs.toArray) (.agg ys.toArray)).run P w = .ok () w:=fun op'=>run_eqGuard_agg w op' xT x y _ _ hm
  cases op <;> simp only [zuf,reduceCtorEq] at hv
  ·subst hv
   refine ⟨.bool (eqV cs ds),?_,by simp [R]⟩
   simp only [execOp,ho,e1,e2,Sem.run_bind,hg,Result.andThen_ok,run_eql_struct,hrun,Sem.run_pure]
  ·subst hv
   refine ⟨.bool (!eqV cs ds),?_,by simp [R]⟩
   simp only [execOp,ho,e1,e2,Sem.run_bind,hg,Result.andThen_ok,run_neq_struct,hrun,Sem.run_pure]
end
end Go.Eng
namespace Go.Eng
open Go.RowKit
def isAgg:V->Bool
 | .agg _=>true
 | _=>false
def zdT (P:Program) (t:TypeId):Option (Bool × List CK) :=
 match Zb P t,YY P 20 t with
 | some ag,some ks=>some (ag,ks)
 | _,_=>none
def Qf:List CK->List V->Prop
 | [],[]=>True
 | .int k :: ks,.int k' n :: cs=>(k' = k/\k.wrap n = n)/\Qf ks cs
 | .bool :: ks,.bool _ :: cs=>Qf ks cs
 | .str :: ks,.str _ :: cs=>Qf ks cs
 | _,_=>False
def Qg (ag:Bool) (ks:List CK) (v:V):Prop:=isAgg v = ag/\v.csize = some ks.length/\Qf ks v.cellsL
structure KeyT (P:Program) (kt:TypeId):Prop where
 keyed:Maps.Keyed P kt
 key:∀ ag ks,zdT P kt = some (ag,ks)->∀ (E:Env) (v:V) (x:Value),Qg ag ks v->R E v x->∃ l,keyOf P kt x = some l
def qM (a b:V):Bool:=eqV a.cellsL b.cellsL
def ZF:List V->V->Option V
 | [],_=>none
 | c :: cs,x=>match c with
  | .tup [k,v]=>if qM k x then some v else ZF cs x
  | _=>ZF cs x
def Yo:List V->V->V->List V
 | [],x,u=>[.tup [x,u]]
 | c :: cs,x,u=>match c with
  | .tup [k,_]=>if qM k x then .tup [x,u] :: cs else c :: Yo cs x u
  | _=>c :: Yo cs x u
def YH (ag:Bool) (ks:List CK):List V->Prop
 | []=>True
 | c :: cs=>(∃ k v,c = .tup [k,v]/\Qg ag ks k)/\YH ag ks cs
theorem Zd:∀ {ks:List CK} {cs:List V},Qf ks cs->cs.map Qr = ks.map some
 | [],[],_=>rfl
 | [],c :: _,h=>by cases c <;> simp [Qf] at h
 | k :: _,[],h=>by cases k <;> simp [Qf] at h
 | k :: ks,c :: cs,h=>by
  cases k <;> cases c <;> simp [Qf] at h
  ·obtain ⟨⟨rfl,_⟩,h⟩:=h; simp [Qr,Zd h]
  ·simp [Qr,Zd h]
  ·simp [Qr,Zd h]
theorem zmR:∀ {ks:List CK} {xs ys:List Value},yY ks xs->yY ks ys->(eqC xs ys = true ↔ xs = ys)
 | [],xs,ys,h,k=>by
  have h1:=h.length; have k1:=k.length
  simp at h1 k1
  subst h1; subst k1
  simp [eqC]
 | kd :: ks,xs,ys,h,k=>by
  cases xs with
  | nil=>simp [yY] at h
  | cons x xs =>
   cases ys with
   | nil=>simp [yY] at k
   | cons y ys =>
    simp only [yY,List.map_cons,List.cons.injEq] at h k
    have ih:=zmR (ks:=ks) h.2 k.2
    simp only [eqC,zuc,ih,List.cons.injEq]
    have q1:=h.1; have q2:=k.1
    have:Qa x y = true ↔ x = y:=by
     cases x <;> simp [zdf] at q1 <;> subst q1 <;> cases y <;> simp [zdf] at q2
     ·simp [Qa]
     ·subst q2; simp [Qa]
     ·simp only [Qa,beq_iff_eq,Value.string.injEq]
      constructor
      ·intro h
       rw [ByteArray.toList_eq,ByteArray.toList_eq] at h
       exact ByteArray.ext (Array.ext' h)
      ·rintro rfl; rfl
    rw [this]
theorem R.agg_shape {E:Env} {v:V} {x:Value} {n:Nat} (h:R E v x) (hn:v.csize = some n):(isAgg v = true->x = .agg x.cells)/\(isAgg v = false->x.cells = #[x]):=by
 cases v <;> simp [V.csize] at hn <;> simp only [R] at h
 case agg cs =>
  obtain ⟨xs,rfl,_⟩:=h
  exact ⟨fun _=>rfl,fun q=>by simp [isAgg] at q⟩
 all_goals refine ⟨fun q=>by simp [isAgg] at q,fun _=>?_⟩
 ·subst h; rfl
 ·subst h; rfl
 ·obtain ⟨rfl,_⟩:=h; rfl
 ·obtain ⟨b,_,rfl⟩:=h; rfl
 ·obtain ⟨b,o,rfl,_⟩:=h; rfl
 ·subst h; rfl
 ·obtain ⟨b,c,rfl,_⟩:=h; rfl
 ·obtain ⟨b,c,rfl,_⟩:=h; rfl
 ·subst h; rfl
 ·obtain ⟨b,rfl,_⟩:=h; rfl
 ·subst h; rfl
 ·obtain ⟨b,_,rfl⟩:=h; rfl
 ·subst h; rfl
 ·obtain ⟨b,rfl⟩:=h; rfl
theorem zb1 {E:Env} {ag:Bool} {ks:List CK} {k x:V} {kv xv:Value} (hk:R E k kv) (hx:R E x xv) (ok:Qg ag ks k) (ox:Qg ag ks x):(qM k x = true ↔ kv = xv):=by
 obtain ⟨ok1,ok2,ok3⟩:=ok
 obtain ⟨ox1,ox2,ox3⟩:=ox
 have rk:=(hk.cells ok2).1
 have rx:=(hx.cells ox2).1
 have e:=zpc rk rx (Zd ok3) (Zd ox3)
 unfold qM
 rw [<- e,zmR (zdh rk (Zd ok3)) (zdh rx (Zd ox3))]
 have sk:=hk.agg_shape ok2
 have sx:=hx.agg_shape ox2
 constructor
 ·intro h
  have h':kv.cells = xv.cells:=Array.ext' h
  cases ag with
  | true=>rw [sk.1 ok1,sx.1 ox1,h']
  | false =>
   have a:=sk.2 ok1
   have b:=sx.2 ox1
   rw [a,b] at h'
   simpa using h'
 ·rintro rfl; rfl
theorem RM.get_none {E:Env} {ag:Bool} {ks:List CK} {x:V} {xv:Value} (hx:R E x xv) (ox:Qg ag ks x):∀ {cs:List V} {es:List MapEntry},RM E cs es->YH ag ks cs->(∀ e ∈ es,e.key ≠ xv) ->
  ZF cs x = none/\∀ u,Yo cs x u = cs++[.tup [x,u]]
 | [],_,_,_,_=>⟨rfl,fun _=>rfl⟩
 | c :: cs,es,h,ok,hne=>by
  simp only [RM] at h
  obtain ⟨k,v,e,es',rfl,rfl,h1,h2,h3⟩:=h
  obtain ⟨⟨k',v',hc,okk⟩,ok'⟩:=ok
  simp only [V.tup.injEq,List.cons.injEq,and_true] at hc
  obtain ⟨rfl,rfl⟩:=hc
  have hk:qM k x = false:=by
   rw [Bool.eq_false_iff]
   intro q
   exact hne e (by simp) ((zb1 h1 hx okk ox).1 q)
  obtain ⟨i1,i2⟩:=RM.get_none hx ox h3 ok' fun e he=>hne e (by simp [he])
  simp [ZF,Yo,hk,i1,i2]
theorem RM.get_some {E:Env} {ag:Bool} {ks:List CK} {x:V} {xv:Value} (hx:R E x xv) (ox:Qg ag ks x):∀ {cs:List V} {es:List MapEntry} {j:Nat} {e:MapEntry},RM E cs es->YH ag ks cs ->
  (es.map (·.key)).Nodup->es[j]? = some e->e.key = xv ->
  (∃ v,ZF cs x = some v/\R E v e.val)/\∀ u uv,R E u uv->RM E (Yo cs x u) (es.set j { e with key:=xv,val:=uv })
 | [],es,j,e,h,_,_,he,_=>by simp only [RM] at h; subst h; simp at he
 | c :: cs,es,j,e,h,ok,hnd,he,hkey=>by
  simp only [RM] at h
  obtain ⟨k,v,e0,es',rfl,rfl,h1,h2,h3⟩:=h
  obtain ⟨⟨k',v',hc,okk⟩,ok'⟩:=ok
  simp only [V.tup.injEq,List.cons.injEq,and_true] at hc
  obtain ⟨rfl,rfl⟩:=hc
  simp only [List.map_cons,List.nodup_cons] at hnd
  cases j with
  | zero =>
   simp at he; subst he
   have hk:qM k x = true:=(zb1 h1 hx okk ox).2 hkey
   refine ⟨⟨v,by simp [ZF,hk],h2⟩,fun u uv hu=>?_⟩
   simp only [Yo,hk,if_true,List.set_cons_zero,RM]
   exact ⟨x,u,_,_,rfl,rfl,hx,hu,h3⟩
  | succ j =>
   simp at he
   have hne:e0.key ≠ xv:=by
    intro q
    apply hnd.1
    rw [q,<- hkey]
    exact List.mem_map.2 ⟨e,List.mem_of_getElem? he,rfl⟩
   have hk:qM k x = false:=by
    rw [Bool.eq_false_iff]
    exact fun q=>hne ((zb1 h1 hx okk ox).1 q)
   obtain ⟨⟨v1,i1,i2⟩,i3⟩:=RM.get_some hx ox h3 ok' hnd.2 he hkey
   refine ⟨⟨v1,by simp [ZF,hk,i1],i2⟩,fun u uv hu=>?_⟩
   simp only [Yo,hk,Bool.false_eq_true,if_false,List.set_cons_succ,RM]
   exact ⟨k,v,e0,_,rfl,rfl,h1,h2,i3 u uv hu⟩
theorem RM.keys {P:Program} {kt:TypeId} {E:Env} {ag:Bool} {ks:List CK} (K:KeyT P kt) (hk:zdT P kt = some (ag,ks)):∀ {cs:List V} {es:List MapEntry},RM E cs es->YH ag ks cs->∀ e ∈ es,∃ l,keyOf P kt e.key = some l
 | [],_,h,_,e,he=>by simp only [RM] at h; subst h; simp at he
 | c :: cs,es,h,ok,e,he=>by
  simp only [RM] at h
  obtain ⟨k,v,e0,es',rfl,rfl,h1,h2,h3⟩:=h
  obtain ⟨⟨k',v',hc,okk⟩,ok'⟩:=ok
  simp only [V.tup.injEq,List.cons.injEq,and_true] at hc
  obtain ⟨rfl,rfl⟩:=hc
  rcases List.mem_cons.1 he with rfl | he
  ·exact K.key ag ks hk E k _ okk h1
  ·exact RM.keys K hk h3 ok' e he
theorem RM.append {E:Env} {c:V} {e:MapEntry} (hc:RM E [c] [e]):∀ {cs:List V} {es:List MapEntry},RM E cs es->RM E (cs++[c]) (es++[e])
 | [],es,h=>by simp only [RM] at h; subst h; exact hc
 | d :: cs,es,h=>by
  simp only [RM] at h
  obtain ⟨k,v,e0,es',rfl,rfl,h1,h2,h3⟩:=h
  simp only [List.cons_append,RM]
  exact ⟨k,v,e0,_,rfl,rfl,h1,h2,RM.append hc h3⟩
def zck (P:Program) (t:TypeId):Option (TypeId × TypeId):=match P.underlying t with
 | some (.map k e)=>some (k,e)
 | _=>none
theorem zax {P:Program} {t k e:TypeId} (h:zck P t = some (k,e)):P.underlying t = some (.map k e):=by
 unfold zck at h
 split at h
 ·rename_i q; cases h; exact q
 ·cases h
section
variable {P:Program} {o:Oper} {ρ:Operand->V} {bx:Nat->Option Box}
theorem znT {t kt et:TypeId} {m x:Operand} {ok ag:Bool} {ks:List CK} {i:Nat} {B:Box} {zv:V} (ho:o.op = .lookup t m x ok) (hm:ρ m = .mref i) (hb:bx i = some B) (hty:ZL <= B.ty) (hT:zck P t = some (kt,et))
  (hk:zdT P kt = some (ag,ks)) (K:KeyT P kt) (ox:Qg ag ks (ρ x)) (oks:YH ag ks B.cells) (hz:ZM P et = some zv) :
  QV P o ρ bx (if ok then .tup [(ZF B.cells (ρ x)).getD zv,.bool (ZF B.cells (ρ x)).isSome] else (ZF B.cells (ρ x)).getD zv) none :=
 QV.pure fun a w pr lam h hB=>by
  have h1:=h m (by simp [ho,Op.operands])
  have h2:=h x (by simp [ho,Op.operands])
  rw [hm] at h1
  simp only [R] at h1
  obtain ⟨b,hl,e⟩:=h1
  obtain ⟨b',hl',hat⟩:=hB i B hb
  obtain rfl:b = b':=by simpa [hl] using hl'
  obtain ⟨es,clock,hg,hr,hst⟩:=hat.map hty
  change w.heap[b]? = _ at hg
  obtain ⟨kl,hkl⟩:=K.key ag ks hk _ _ _ ox h2
  obtain ⟨iz,z,z1,z2,rfl⟩:=Yn hz
  have hzero:(zeroValue et).run P w = .ok z w:=by simp [zeroValue,typeInfo,z1,z2]
  have hrz:R ⟨w,pr,lam⟩ (qU z) z:=Yh _ z
  have hu:=zax hT
  have hkeys:=RM.keys K hk hr oks
  rcases K.keyed.find w hkl es.toList hkeys with ⟨f1,f2⟩ | ⟨j,e0,f1,f2,f3⟩
  ·obtain ⟨g1,_⟩:=RM.get_none h2 ox hr oks f2
   refine ⟨if ok then .tuple #[z,.bool false] else z,?_,?_⟩
   ·simp only [execOp,ho,e]
    simp [Instr.lookup,run_underlying hu,MapKept.run_getObj_map hg,K.keyed.check w _ hkl,f1,hzero,Result.andThen]
   ·rw [g1]
    cases ok
    ·exact hrz
    ·simp only [if_true,R,Option.getD_none,Option.isSome_none]
     exact ⟨[z,.bool false],rfl,by simp only [RL]; exact ⟨_,_,rfl,hrz,_,_,rfl,by simp [R],rfl⟩⟩
  ·obtain ⟨⟨v,g1,g2⟩,_⟩:=RM.get_some h2 ox hr oks hst.2.2 f2 f3
   refine ⟨if ok then .tuple #[e0.val,.bool true] else e0.val,?_,?_⟩
   ·simp only [execOp,ho,e]
    simp [Instr.lookup,run_underlying hu,MapKept.run_getObj_map hg,K.keyed.check w _ hkl,f1,Result.andThen]
   ·rw [g1]
    cases ok
    ·exact g2
    ·simp only [if_true,R,Option.getD_some,Option.isSome_some]
     exact ⟨[e0.val,.bool true],rfl,by simp only [RL]; exact ⟨_,_,rfl,g2,_,_,rfl,by simp [R],rfl⟩⟩
variable {n':Nat} {st:St}
theorem ziC {K:St->Prop} {t:TypeId} {i:Nat} (ho:o.op = .makeMap t none) (hi:st.box i = none) (hd:∀ d,o.dst = some d->d < n')
  (hk:K ((st.setBox i ⟨[],ZL + t⟩).put o.dst (.mref i) none)):Z2 P n' o st K:=by
 intro F a w pr lam hF h next Q hn
 subst hF
 have hr:(execOp a.eval o).run P w = .ok (.value (.map (some w.heap.size))) (w.alloc (.map #[] 0)):=by
  simp [execOp,ho,run_makeMap]
 unfold Oper.wp
 rw [hr,Oper.upon_value]
 refine hn _ _ _ pr (upd lam i (some w.heap.size)) hk ((h.newObj hi fun E hle hg=>⟨fun ht=>absurd ht (by simp),fun _=>⟨#[],0,hg,by simp [RM],MapKept.stamped_empty 0⟩⟩).put hd ?_ trivial)
 simp only [R]
 exact ⟨w.heap.size,by simp,rfl⟩
theorem zbs {K:St->Prop} {t kt et:TypeId} {m x y:Operand} {ag:Bool} {ks:List CK} {i:Nat} {B:Box} (ho:o.op = .mapUpdate t m x y) (hm:st.eval m = .mref i) (hb:st.box i = some B) (hty:ZL <= B.ty)
  (hT:zck P t = some (kt,et)) (hkt:zdT P kt = some (ag,ks)) (KT:KeyT P kt) (ox:Qg ag ks (st.eval x)) (oks:YH ag ks B.cells) (hd:o.dst = none)
  (hk:K (st.setBox i ⟨Yo B.cells (st.eval x) (st.eval y),B.ty⟩)):Z2 P n' o st K:=by
 intro F a w pr lam hF h next Q hn
 have h1:=h.eval m
 have h2:=h.eval x
 have h3:=h.eval y
 rw [hm] at h1
 simp only [R] at h1
 obtain ⟨b,hl,e⟩:=h1
 obtain ⟨b',hl',hat,hnp,_⟩:=h.box i B hb
 obtain rfl:b = b':=by rw [show lam i = some b from hl] at hl'; cases hl'; rfl
 obtain ⟨es,clock,hg,hr,hst⟩:=hat.map hty
 change w.heap[b]? = _ at hg
 have hu:=zax hT
 obtain ⟨kl,hkl⟩:=KT.key ag ks hkt _ _ _ ox h2
 have hkeys:=RM.keys KT hkt hr oks
 have hsw:∀ ob,ze6 w { w with heap:=w.heap.setIfInBounds b ob } b:=fun ob=>⟨rfl,rfl,rfl,DLE.of_eq rfl,by simp,fun k hk=>by
  show (w.heap.setIfInBounds b ob)[k]? = _
  rw [Array.getElem?_setIfInBounds_ne (Ne.symm hk)]⟩
 have hnew:∀ ob,(w.heap.setIfInBounds b ob)[b]? = some ob:=fun ob=>by
  have hlt:=(Array.getElem?_eq_some_iff.1 hg).1
  simp [hlt]
 have fin:∀ es' clock',(Instr.mapUpdate t (.map (some b)) (a.eval x) (a.eval y)).run P w = .ok () { w with heap:=w.heap.setIfInBounds b (.map es' clock') } ->
   (∀ E:Env,Env.Le ⟨w,pr,lam⟩ E->RM E (Yo B.cells (st.eval x) (st.eval y)) es'.toList)->MapKept.Stamped es' clock'->o.wp P a w next Q:=by
  intro es' clock' hrun hrm hst'
  have hr:(execOp a.eval o).run P w = .ok .skip { w with heap:=w.heap.setIfInBounds b (.map es' clock') }:=by
   simp only [execOp,ho,e]
   simp [hrun]
  unfold Oper.wp
  rw [hr,Oper.upon_skip,hd]
  exact hn _ _ _ pr lam hk (h.setObj hb hl (hsw _) fun hle=>⟨fun ht=>absurd hty (Nat.not_le.2 ht),fun _=>⟨es',clock',hnew _,hrm _ hle,hst'⟩⟩)
 rcases KT.keyed.find w hkl es.toList hkeys with ⟨f1,f2⟩ | ⟨j,e0,f1,f2,f3⟩
 ·obtain ⟨_,g2⟩:=RM.get_none h2 ox hr oks f2
  refine fin (es.push { key:=a.eval x,val:=a.eval y,born:=clock }) (clock + 1) ?_ ?_ (MapKept.stamped_push hst f2)
  ·simp [Instr.mapUpdate,run_underlying hu,MapKept.run_getObj_map hg,KT.keyed.check w false hkl,f1,MapKept.run_setObj_map _ hg,Result.andThen]
  ·intro E hle
   rw [g2,Array.toList_push]
   refine RM.append ?_ (hr.mono hle)
   simp only [RM]
   exact ⟨_,_,_,_,rfl,rfl,h2.mono hle,h3.mono hle,rfl⟩
 ·obtain ⟨_,g2⟩:=RM.get_some h2 ox hr oks hst.2.2 f2 f3
  have hj:es[j]? = some e0:=by simpa using f2
  have hlist:(es.modify j (fun e'=>{ e' with key:=a.eval x,val:=a.eval y })).toList = es.toList.set j { e0 with key:=a.eval x,val:=a.eval y }:=by
   rw [Array.toList_modify,ChangeMaps.modify_eq_set _ _ _ _ f2]
  refine fin (es.modify j (fun e'=>{ e' with key:=a.eval x,val:=a.eval y })) clock ?_ ?_ (MapKept.stamped_modify hst j _ (fun _ _=>rfl) (fun e' _ he'=>by rw [hj] at he'; cases he'; exact f3.symm))
  ·have hke:((es[j]?).map (·.key)).getD (a.eval x) = a.eval x:=by rw [hj]; simpa using f3
   simp [Instr.mapUpdate,run_underlying hu,MapKept.run_getObj_map hg,KT.keyed.check w false hkl,f1,hke,KT.keyed.stays w hkl,MapKept.run_setObj_map _ hg,Result.andThen]
  ·intro E hle
   rw [hlist]
   obtain ⟨_,g3⟩:=RM.get_some (h2.mono hle) ox (hr.mono hle) oks hst.2.2 f2 f3
   exact g3 _ _ (h3.mono hle)
end
end Go.Eng
namespace Go.Eng
open Go.RowKit
mutual
def V.ren (f:Nat->Nat):V->V
 | .loc i off=>.loc (f i) off
 | .mref i=>.mref (f i)
 | .agg cs=>.agg (V.renL f cs)
 | .tup cs=>.tup (V.renL f cs)
 | .elt cs off=>.elt (V.renL f cs) off
 | .list rows=>.list (V.renL f rows)
 | .fn g first cap=>.fn g (V.renL f first) (V.renL f cap)
 | .iface t v=>.iface t (v.ren f)
 | .any=>.any
 | .un=>.un
 | .int k n=>.int k n
 | .bool b=>.bool b
 | .str s=>.str s
 | .nilp=>.nilp
 | .nilfn=>.nilfn
 | .nilif=>.nilif
 | .nilm=>.nilm
 | .ptr o=>.ptr o
def V.renL (f:Nat->Nat):List V->List V
 | []=>[]
 | c :: cs=>c.ren f :: V.renL f cs
end
mutual
theorem V.ren_noLoc (f:Nat->Nat):∀ v:V,v.noLoc = true->v.ren f = v
 | .loc _ _,h=>by simp [V.noLoc] at h
 | .mref _,h=>by simp [V.noLoc] at h
 | .agg cs,h=>by simp only [V.noLoc] at h; simp only [V.ren,V.renL_noLoc f cs h]
 | .tup cs,h=>by simp only [V.noLoc] at h; simp only [V.ren,V.renL_noLoc f cs h]
 | .elt cs off,h=>by simp only [V.noLoc] at h; simp only [V.ren,V.renL_noLoc f cs h]
 | .list rows,h=>by simp only [V.noLoc] at h; simp only [V.ren,V.renL_noLoc f rows h]
 | .fn g first cap,h=>by
  simp only [V.noLoc,zuc] at h
  simp only [V.ren,V.renL_noLoc f first h.1,V.renL_noLoc f cap h.2]
 | .iface t v,h=>by simp only [V.noLoc] at h; simp only [V.ren,V.ren_noLoc f v h]
 | .any,_=>rfl
 | .un,_=>rfl
 | .int _ _,_=>rfl
 | .bool _,_=>rfl
 | .str _,_=>rfl
 | .nilp,_=>rfl
 | .nilfn,_=>rfl
 | .nilif,_=>rfl
 | .nilm,_=>rfl
 | .ptr _,_=>rfl
theorem V.renL_noLoc (f:Nat->Nat):∀ cs:List V,V.noLocL cs = true->V.renL f cs = cs
 | [],_=>rfl
 | c :: cs,h=>by
  simp only [V.noLocL,zuc] at h
  simp only [V.renL,V.ren_noLoc f c h.1,V.renL_noLoc f cs h.2]
end
section
variable {w:World} {pr:Nat->Nat->Prop} {lam lam':Nat->Option Nat} {f:Nat->Nat}
mutual
theorem R.ren (hf:∀ i b,lam (f i) = some b->lam' i = some b):∀ (v:V) (x:Value),R ⟨w,pr,lam⟩ (v.ren f) x->R ⟨w,pr,lam'⟩ v x
 | .any,_,_=>by simp [R]
 | .un,_,q=>by simpa [R,V.ren] using q
 | .int _ _,_,q=>by simpa [R,V.ren] using q
 | .bool _,_,q=>by simpa [R,V.ren] using q
 | .str _,_,q=>by simpa [R,V.ren] using q
 | .agg cs,_,q=>by
  simp only [R,V.ren] at q ⊢
  obtain ⟨xs,e,q,q1⟩:=q
  exact ⟨xs,e,RL.ren hf cs xs q,q1⟩
 | .tup cs,_,q=>by
  simp only [R,V.ren] at q ⊢
  obtain ⟨xs,e,q⟩:=q
  exact ⟨xs,e,RL.ren hf cs xs q⟩
 | .loc i off,_,q=>by
  simp only [R,V.ren] at q ⊢
  obtain ⟨b,e,q⟩:=q
  exact ⟨b,hf _ _ e,q⟩
 | .elt cs off,_,q=>by
  simp only [R,V.ren] at q ⊢
  obtain ⟨b,o,e,q⟩:=q
  exact ⟨b,o,e,RC.ren hf b o cs q⟩
 | .nilp,_,q=>by simpa [R,V.ren] using q
 | .list rows,_,q=>by
  simp only [R,V.ren] at q ⊢
  obtain ⟨base,cap,e,hc,hm,q⟩:=q
  have hl:(V.renL f rows).length = rows.length:=V.renL_length rows
  refine ⟨base,cap,by rw [<- hl]; exact e,by rw [<- hl]; exact hc,hm,?_⟩
  rcases q with q | ⟨b,o,k,e2,q⟩
  ·refine .inl ⟨?_,q.2⟩
   have:=hl
   rw [q.1] at this
   exact zui this.symm
  ·exact .inr ⟨b,o,k,e2,RR.ren hf b k o rows q⟩
 | .fn g first cap,_,q=>by
  simp only [R,V.ren] at q ⊢
  obtain ⟨xs,ys,e,q1,q2⟩:=q
  exact ⟨xs,ys,e,RL.ren hf _ _ q1,RL.ren hf _ _ q2⟩
 | .nilfn,_,q=>by simpa [R,V.ren] using q
 | .iface t v,_,q=>by
  simp only [R,V.ren] at q ⊢
  obtain ⟨y,e,q⟩:=q
  exact ⟨y,e,R.ren hf v y q⟩
 | .nilif,_,q=>by simpa [R,V.ren] using q
 | .mref i,_,q=>by
  simp only [R,V.ren] at q ⊢
  obtain ⟨b,e,q⟩:=q
  exact ⟨b,hf _ _ e,q⟩
 | .nilm,_,q=>by simpa [R,V.ren] using q
 | .ptr _,_,q=>by simpa [R,V.ren] using q
theorem RL.ren (hf:∀ i b,lam (f i) = some b->lam' i = some b):∀ (cs:List V) (xs:List Value),RL ⟨w,pr,lam⟩ (V.renL f cs) xs->RL ⟨w,pr,lam'⟩ cs xs
 | [],_,q=>by simpa [RL,V.renL] using q
 | c :: cs,_,q=>by
  simp only [RL,V.renL] at q ⊢
  obtain ⟨y,ys,e,q1,q2⟩:=q
  exact ⟨y,ys,e,R.ren hf c y q1,RL.ren hf cs ys q2⟩
theorem RC.ren (hf:∀ i b,lam (f i) = some b->lam' i = some b) (b:Nat):∀ (o:Nat) (cs:List V),RC ⟨w,pr,lam⟩ b o (V.renL f cs)->RC ⟨w,pr,lam'⟩ b o cs
 | _,[],_=>by simp [RC]
 | o,c :: cs,q=>by
  simp only [RC,V.renL] at q ⊢
  obtain ⟨⟨y,q0,q3,q1⟩,q2⟩:=q
  exact ⟨⟨y,q0,q3,R.ren hf c y q1⟩,RC.ren hf b (o + 1) cs q2⟩
theorem RR.ren (hf:∀ i b,lam (f i) = some b->lam' i = some b) (b k:Nat):∀ (o:Nat) (cs:List V),RR ⟨w,pr,lam⟩ b k o (V.renL f cs)->RR ⟨w,pr,lam'⟩ b k o cs
 | _,[],_=>by simp [RR]
 | o,c :: cs,q=>by
  simp only [RR,V.renL] at q ⊢
  obtain ⟨⟨y,q0,q1,q3⟩,q2⟩:=q
  exact ⟨⟨y,R.ren hf c y q0,q1,q3⟩,RR.ren hf b k (o + k) cs q2⟩
theorem V.renL_length:∀ (cs:List V),(V.renL f cs).length = cs.length
 | []=>rfl
 | c :: cs=>by simp [V.renL,V.renL_length cs]
end
end
def St.setBoxes (st:St):List Nat->List Box->St
 | i :: π,B :: bs=>(st.setBox i B).setBoxes π bs
 | _,_=>st
theorem Yy (st:St):∀ (π:List Nat) (bs:List Box),(st.setBoxes π bs).sl = st.sl
 | [],_=>by simp [St.setBoxes]
 | _ :: _,[]=>by simp [St.setBoxes]
 | i :: π,B :: bs=>by simp only [St.setBoxes]; rw [Yy (st.setBox i B) π bs]; rfl
theorem Z3 {j:Nat}:∀ (π:List Nat) (bs:List Box) (st:St),j ∉ π->(st.setBoxes π bs).box j = st.box j
 | [],_,st,_=>by simp [St.setBoxes]
 | _ :: _,[],st,_=>by simp [St.setBoxes]
 | i :: π,B :: bs,st,h=>by
  simp only [List.mem_cons,not_or] at h
  simp only [St.setBoxes]
  rw [Z3 π bs _ h.2]
  show upd st.box i _ j = _
  rw [ZE _ _ _ _ h.1]
theorem Qh:∀ (π:List Nat) (bs:List Box) (st:St) (i j:Nat),π.Nodup->π.length = bs.length->π[i]? = some j->(st.setBoxes π bs).box j = bs[i]?
 | [],_,st,i,j,_,_,h=>by simp at h
 | _ :: _,[],st,i,j,_,hl,_=>by simp at hl
 | p :: π,B :: bs,st,i,j,hn,hl,h=>by
  simp only [List.nodup_cons] at hn
  simp only [St.setBoxes]
  cases i with
  | zero =>
   simp at h; subst h
   rw [Z3 π bs _ hn.1]
   show upd st.box p _ p = _
   simp
  | succ i =>
   simp at h hl
   rw [Qh π bs _ i j hn.2 hl h]
   simp
section
variable {P:Program} {n':Nat} {o:Oper} {st:St} {K:St->Prop}
def YI (st:St):List Nat->List Box->Prop
 | [],[]=>True
 | i :: π,B :: bs=>(st.box i = some B/\V.noLocL B.cells = true)/\YI st π bs
 | _,_=>False
theorem Zu {st:St}:∀ {π:List Nat} {bs:List Box},YI st π bs->π.length = bs.length/\∀ (i:Nat) (B:Box),bs[i]? = some B->∃ j,π[i]? = some j/\st.box j = some B/\V.noLocL B.cells = true
 | [],[],_=>⟨rfl,fun i B h=>by simp at h⟩
 | [],_ :: _,h=>h.elim
 | _ :: _,[],h=>h.elim
 | p :: π,B :: bs,h=>by
  obtain ⟨⟨h1,h2⟩,h3⟩:=h
  obtain ⟨i1,i2⟩:=Zu h3
  refine ⟨by simp [i1],fun i C hC=>?_⟩
  cases i with
  | zero=>simp at hC; subst hC; exact ⟨p,rfl,h1,h2⟩
  | succ i=>simp at hC; obtain ⟨j,q⟩:=i2 i C hC; exact ⟨j,by simpa using q.1,q.2⟩
def ziD (P:Program) (f:FuncId) (args:List V) (st:St) (dst:Option Nat) (K:St->Prop):Prop :=
 zaR P f = true/\∃ (π:List Nat) (args':List V) (ins outs:List Box) (res:V),π.Nodup/\st.box st.nb = none/\args = V.renL (fun i=>π.getD i st.nb) args'/\YI st π ins /\
  outs.length = ins.length/\(∀ B ∈ outs,V.noLocL B.cells = true)/\res.noLoc = true/\Fn P f args' ins res outs/\K ((st.setBoxes π outs).put dst res none)
theorem zq.called {F:Fr} {a:Act} {w w':World} {pr pr':Nat->Nat->Prop} {lam lam':Nat->Option Nat} (h:zq P F st a w pr lam) {π:List Nat} {ins outs:List Box} (hπ:π.Nodup) (hb:YI st π ins)
  (hlen:outs.length = ins.length) (hno:∀ B ∈ outs,V.noLocL B.cells = true) (hlam:∀ i,lam' i = (π[i]?).bind lam) (hout:zdb w' pr' lam' outs) (hleft:Left w pr lam' w' pr') :
  zq P F (st.setBoxes π outs) a w' pr' lam:=by
 obtain ⟨hl1,hl2⟩:=Zu hb
 have hblk:∀ i b,lam' i = some b->∃ j B,π[i]? = some j/\st.box j = some B/\lam j = some b:=by
  intro i b hi
  rw [hlam] at hi
  cases hp:π[i]? with
  | none=>rw [hp] at hi; cases hi
  | some j =>
   rw [hp] at hi
   have hlt:i < ins.length:=by
    have:=(List.getElem?_eq_some_iff.1 hp).1
    omega
   obtain ⟨j',q1,q2,_⟩:=hl2 i _ (List.getElem?_eq_getElem hlt)
   rw [hp] at q1; cases q1
   exact ⟨j,_,rfl,q2,hi⟩
 have hbox:∀ j,(st.setBoxes π outs).box j = none ↔ st.box j = none:=by
  intro j
  by_cases hj:j ∈ π
  ·obtain ⟨i,hi⟩:=List.getElem?_of_mem hj
   rw [Qh π outs st i j hπ (by omega) hi]
   have hlt:i < π.length:=(List.getElem?_eq_some_iff.1 hi).1
   obtain ⟨j',q1,q2,_⟩:=hl2 i _ (List.getElem?_eq_getElem (by omega:i < ins.length))
   rw [hi] at q1; cases q1
   rw [q2]
   simp; omega
  ·rw [Z3 π outs st hj]
 have hsome:∀ j B,(st.setBoxes π outs).box j = some B->∃ B',st.box j = some B':=by
  intro j B hB
  cases hq:st.box j with
  | none=>rw [(hbox j).2 hq] at hB; cases hB
  | some B'=>exact ⟨B',rfl⟩
 have hle:Env.Le ⟨w,pr,lam⟩ ⟨w',pr',lam⟩:=by
  refine ⟨fun _ _ h=>h,hleft.sub,fun b o hp=>?_⟩
  have hblock:=hleft.block b (h.prlt b o hp) (fun i hi=>by
   obtain ⟨j,B,_,q2,q3⟩:=hblk i b hi
   obtain ⟨b',r1,_,r3,_⟩:=h.box j B q2
   rw [q3] at r1; cases r1
   exact r3 o hp)
  show w'.cell? _ = w.cell? _
  unfold World.cell?
  rw [hblock]
 have henv:∀ s,(st.setBoxes π outs).env s = st.env s:=fun s=>by unfold St.env; rw [Yy]
 have htok:∀ s,(st.setBoxes π outs).tok s = st.tok s:=fun s=>by unfold St.tok; rw [Yy]
 refine ⟨h.size,h.defers,fun s=>by rw [henv]; exact (h.env s).mono hle,?_,?_,?_,?_,?_,?_,?_,?_,fun b o hp=>hleft.sub b o (h.prsub b o hp),?_,h.lamsub,fun s s' t e e' hs hs'=>h.coh2 s s' t e e' (htok s ▸ hs) (htok s' ▸ hs'),fun s t e hs hc=>?_,fun s s' t e e' b o g hs hs'=>h.ptr s s' t e e' b o g (htok s ▸ hs) (htok s' ▸ hs')⟩
 rotate_right
 ·rw [henv]
  exact (h.old s t e (htok s ▸ hs) hc).old (fun _ _ h=>h) (fun b o hp=>hle.cell b o (h.prsub b o hp))
 ·intro s t e hs g hg
  rw [htok] at hs
  obtain ⟨r1,n,cap,cu,sz,r2,r3,r4,r5,r6⟩:=h.own s t e hs g hg
  have hlt:g < w.heap.size:=(Array.getElem?_eq_some_iff.1 r3).1
  refine ⟨r1,n,cap,cu,sz,r2,?_,r4,r5,fun o ho hp=>?_⟩
  ·show w'.heap[g]? = _
   rw [hleft.block g hlt (fun i hi=>?_)]
   ·exact r3
   ·obtain ⟨j,B,_,q2,q3⟩:=hblk i g hi
    exact h.apart j B g s t e q2 q3 hs hg
  ·rcases hleft.new g o hp with hp | ⟨hp,_⟩
   ·exact r6 o ho hp
   ·omega
 ·intro s s' t t' e e' g hs hs'
  rw [htok] at hs hs'
  exact h.coh s s' t t' e e' g hs hs'
 ·intro j B hB
  by_cases hj:j ∈ π
  ·obtain ⟨i,hi⟩:=List.getElem?_of_mem hj
   rw [Qh π outs st i j hπ (by omega) hi] at hB
   obtain ⟨b,q1,q2,q3⟩:=hout i B hB
   obtain ⟨j',B',p1,p2,p3⟩:=hblk i b q1
   rw [hi] at p1; cases p1
   obtain ⟨b',r1,_,_,r4⟩:=h.box j B' p2
   rw [p3] at r1; cases r1
   exact ⟨b,p3,q2.noLoc (hno B (List.mem_of_getElem? hB)),q3,r4⟩
  ·rw [Z3 π outs st hj] at hB
   obtain ⟨b,r1,r2,r3,r4⟩:=h.box j B hB
   refine ⟨b,r1,r2.mono hle (hleft.block b r2.lt fun i hi=>?_),fun o hp=>?_,r4⟩
   ·obtain ⟨j',B',p1,p2,p3⟩:=hblk i b hi
    have:=h.inj j j' B B' b hB p2 r1 p3
    subst this
    exact hj (List.mem_of_getElem? p1)
   ·have:=r2.lt
    rcases hleft.new b o hp with hp | ⟨hp,_⟩
    ·exact r3 o hp
    ·have h2:b < w.heap.size:=this
     omega
 ·intro i j B B' b hB hB' q1 q2
  obtain ⟨C,hC⟩:=hsome i B hB
  obtain ⟨C',hC'⟩:=hsome j B' hB'
  exact h.inj i j C C' b hC hC' q1 q2
 ·intro i B b s t e hB q1 hs
  rw [htok] at hs
  obtain ⟨C,hC⟩:=hsome i B hB
  exact h.apart i C b s t e hC q1 hs
 ·intro i hi
  exact h.nolam i ((hbox i).1 hi)
 ·intro b o hp
  rcases hleft.new b o hp with hp | ⟨_,hp⟩
  ·exact Nat.lt_of_lt_of_le (h.prlt b o hp) hleft.size
  ·exact hp
 ·refine ⟨hleft.os.trans h.keep.os,hleft.tape.trans h.keep.tape,hleft.output.trans h.keep.output,h.keep.drawn.trans hleft.drawn,Nat.le_trans h.keep.size hleft.size,fun k hk hn hh=>?_⟩
  rw [hleft.block k (Nat.lt_of_lt_of_le hk h.keep.size) (fun i hi=>?_)]
  ·exact h.keep.block k hk hn hh
  ·obtain ⟨j,B,_,q2,q3⟩:=hblk i k hi
   obtain ⟨b,r1,_,_,r4⟩:=h.box j B q2
   rw [q3] at r1; cases r1
   rcases r4 with r4 | r4
   ·exact Nat.lt_irrefl _ (Nat.lt_of_lt_of_le hk r4)
   ·exact hn r4
 ·intro b o hp
  rcases hleft.new b o hp with hp | ⟨hp,_⟩
  ·exact h.prnew b o hp
  ·exact .inr (.inl (Nat.le_trans h.keep.size hp))
theorem zlD {c:Operand} {args:Array Operand} {tys:Array TypeId} {f:FuncId} {first cap:List V} (ho:o.op = .call { callee:=.value c,args:=args,argTypes:=tys })
  (hc:st.eval c = .fn (.func f) first cap) (hd:∀ d,o.dst = some d->d < n') (hv:ziD P f (first++args.toList.map st.eval++cap) st o.dst K):Z2 P n' o st K:=by
 intro F a w pr lam hF h next Q hn
 subst hF
 obtain ⟨hg,π,args',ins,outs,res,hπ,hnb,hargs,hb,hlen,hno,hres,hf,hk⟩:=hv
 have h1:=h.eval c
 rw [hc] at h1
 simp only [R] at h1
 obtain ⟨xs,ys,e1,q1,q2⟩:=h1
 have q3:=ZN (ρ:=st.eval) (E:=⟨w,pr,lam⟩) (ac:=a) args.toList fun x _=>h.eval x
 have hall:RL ⟨w,pr,lam⟩ (V.renL (fun i=>π.getD i st.nb) args') (xs.toArray++args.map a.eval++ys.toArray).toList:=by
  rw [<- hargs]
  have:=(q1.append q3).append q2
  simpa using this
 obtain ⟨hl1,hl2⟩:=Zu hb
 unfold Oper.wp
 rw [zaw ho e1 hg,Oper.upon_enter]
 refine (hf w pr (fun i=>(π[i]?).bind lam) _ h.hl (RL.ren ?_ _ _ hall) ?_ ?_ ?_).mono ?_
 ·intro i b hi
  cases hp:π[i]? with
  | none =>
   have:π.getD i st.nb = st.nb:=by simp [List.getD,hp]
   rw [this,h.nolam _ hnb] at hi
   cases hi
  | some j =>
   have:π.getD i st.nb = j:=by simp [List.getD,hp]
   rw [this] at hi
   simpa using hi
 ·intro i B hB
  obtain ⟨j,p1,p2,p3⟩:=hl2 i B hB
  obtain ⟨b,r1,r2,r3,_⟩:=h.box j B p2
  exact ⟨b,by simp [p1,r1],r2.noLoc p3,r3⟩
 ·intro i j b hi hj
  cases hp:π[i]? with
  | none=>simp [hp] at hi
  | some p =>
   cases hq:π[j]? with
   | none=>simp [hq] at hj
   | some q =>
    simp only [hp,Option.bind_some] at hi
    simp only [hq,Option.bind_some] at hj
    have hi1:i < ins.length:=by have:=(List.getElem?_eq_some_iff.1 hp).1; omega
    have hj1:j < ins.length:=by have:=(List.getElem?_eq_some_iff.1 hq).1; omega
    obtain ⟨p',a1,a2,_⟩:=hl2 i _ (List.getElem?_eq_getElem hi1)
    obtain ⟨q',b1,b2,_⟩:=hl2 j _ (List.getElem?_eq_getElem hj1)
    rw [hp] at a1; cases a1
    rw [hq] at b1; cases b1
    have:=h.inj p q _ _ b a2 b2 hi hj
    subst this
    exact (List.getElem?_inj (by omega) hπ).1 (hp.trans hq.symm)
 ·intro i hi
  have:π[i]? = none:=by simp; omega
  simp [this]
 ·rintro e w' ⟨v,pr',rfl,hr,hout,hleft⟩
  have hs:=h.called hπ hb hlen hno (fun i=>rfl) hout hleft
  exact hn _ _ w' pr' lam hk (hs.put hd (hr.noLoc _ _ hres) trivial)
end
end Go.Eng
