import Derived.Test.YtjcbpfhlgebgdaaGreatDoorXL
import Derived.Test.YtjcbpfhlgebgdaaGreatDoorP6l
import Derived.Test.YtjcbpfhlgebgdaaGreatDoorXTx
import Derived.Test.YtjcbpfhlgebgdaaGreatDoorP22v
open Option renaming bind_some -> zvM
set_option linter.unusedSimpArgs false
set_option linter.unusedVariables false
namespace Go.Proofs.YtjcbpfhlgebgdaaGreatDoor
open Go.X Go.Eng
def zgL (k:Nat):Int:=(if k <= 10/\k ≠ 5 then 1 else 0) + (if k = 6 ∨ k = 7 ∨ k = 10 ∨ k = 11 ∨ k = 12 ∨ k = 13 then 2 else 0) + (if k = 12 then 4 else 0)
set_option maxRecDepth 100000 in
theorem zqY:∀ k ∈ [1,2,3,4,5,6,7,8,9,10,11,12,13,14,15],zpV .i64 0 (0 + k * 2 + 1) = some (zgL k):=by
 intro k hk
 simp only [List.mem_cons,List.not_mem_nil,or_false] at hk
 rcases hk with rfl | rfl | rfl | rfl | rfl | rfl | rfl | rfl | rfl | rfl | rfl | rfl | rfl | rfl | rfl <;> kernel_rfl
theorem zub {k:Int} (h1:1 <= k) (h2:k <= 15):zpV .i64 0 (0 + k.toNat * 2 + 1) = some (zgL k.toNat):=by
 refine zqY k.toNat ?_
 simp only [List.mem_cons,List.not_mem_nil,or_false]
 omega
theorem zlr:∀ k ∈ [1,2,3,4,5,6,7,8,9,10,11,12,13,14,15],(YW .and .i64 (zgL k) 1 != (0:Int)) = decide (k <= 10/\k ≠ 5)/\(YW .and .i64 (zgL k) 2 != (0:Int)) = decide (k = 6 ∨ k = 7 ∨ k = 10 ∨ k = 11 ∨ k = 12 ∨ k = 13)/\(YW .and .i64 (zgL k) 4 != (0:Int)) = decide (k = 12):=by
 decide +kernel
def yS (k:Int):Prop:=1 <= k/\k <= 15
def ZS (o:Outc):Prop:=((o.Kind = 6 ∨ o.Kind = 7 ∨ o.Kind = 10 ∨ o.Kind = 11 ∨ o.Kind = 12 ∨ o.Kind = 13)/\((1 <= o.Other/\o.Other <= 16/\o.Other ≠ o.Node) ∨ (o.Kind = 12/\o.Other = 0))) ∨
 (¬ (o.Kind = 6 ∨ o.Kind = 7 ∨ o.Kind = 10 ∨ o.Kind = 11 ∨ o.Kind = 12 ∨ o.Kind = 13)/\o.Other = 0)
def zm3 (o:Outc):Prop:=((o.Kind <= 10/\o.Kind ≠ 5)/\Yn o.ID) ∨ (¬ (o.Kind <= 10/\o.Kind ≠ 5)/\o.ID.Node = 0/\o.ID.Seq = 0/\o.ID.Off = 0)
def OKO (o:Outc):Prop:=yS o.Kind/\(0 <= o.Tick/\o.Tick <= 1099511627776/\1 <= o.Node/\o.Node <= 16)/\zm3 o/\ZS o
def ONE (o:Outc) (r:Int):Prop:=(r = 7/\¬ yS o.Kind) ∨ (r = 2/\yS o.Kind/\¬ OKO o) ∨ (r = 0/\OKO o)
theorem ONE.det {o:Outc} {r r':Int} (h:ONE o r) (h':ONE o r'):r = r':=by
 rcases h with ⟨rfl,a⟩ | ⟨rfl,a,b⟩ | ⟨rfl,a⟩ <;> rcases h' with ⟨rfl,c⟩ | ⟨rfl,c,d⟩ | ⟨rfl,c⟩ <;> first | rfl | exact absurd c a | exact absurd a c | exact absurd c b | exact absurd a d | exact absurd c.1 a | exact absurd a.1 c
set_option maxHeartbeats 4000000 in
theorem ztH (o:Outc):W (qN o) (ONE o):=by
 unfold qN
 refine yn (fun h=>zx (.inl ⟨rfl,fun k=>by unfold yS at k; omega⟩)) fun k1=>?_
 refine yn (fun h=>zx (.inl ⟨rfl,fun k=>by unfold yS at k; omega⟩)) fun k2=>?_
 have hk:yS o.Kind:=by unfold yS; omega
 refine zuM (by omega) (by omega) ?_
 refine yL (zub (by omega) (by omega)) ?_
 obtain ⟨b1,b2,b3⟩:=zlr o.Kind.toNat (by simp only [List.mem_cons,List.not_mem_nil,or_false]; omega)
 rw [b1,b2,b3]
 clear b1 b2 b3
 refine zhA (fun hu=>?_) (fun hu=>?_)
 ·refine qM (zcr o.ID) fun r hr=>?_
  have hr':(r = 0/\Yn o.ID) ∨ (r = 2/\¬ Yn o.ID):=hr
  have hname:r = 0->zm3 o:=fun h=>by
   rcases hr with ⟨_,q⟩ | ⟨q,_⟩
   ·exact .inl ⟨by omega,q⟩
   ·omega
  have hbad:¬ r = 0->OKO o->False:=fun h q=>by
   rcases hr with ⟨q1,_⟩ | ⟨_,q1⟩
   ·exact h q1
   ·rcases q.2.2.1 with ⟨_,q2⟩ | ⟨q2,_⟩
    ·exact q1 q2
    ·omega
  have hr2:r = 0 ∨ r = 2:=by omega
  clear hr hr'
  refine zhA (fun hp=>?_) (fun hp=>?_) <;> (repeat' (first | (refine Zs ?_) | refine yn ?_ ?_ <;> intro _))
  all_goals first
   | exact zx (.inr (.inr ⟨rfl,hk,by omega,hname (by omega),by unfold ZS; omega⟩))
   | exact zx (.inr (.inl ⟨rfl,hk,fun h=>by
     obtain ⟨_,h1,h2,h3⟩:=h
     unfold ZS at h3
     omega⟩))
   | exact zx (.inr (.inl ⟨rfl,hk,fun h=>hbad (by omega) h⟩))
 ·have hname:(o.ID.Node = 0/\o.ID.Seq = 0/\o.ID.Off = 0)->zm3 o:=fun h=>.inr ⟨by omega,h⟩
  have hbad:¬ (o.ID.Node = 0/\o.ID.Seq = 0/\o.ID.Off = 0)->OKO o->False:=fun h q=>by
   rcases q.2.2.1 with ⟨q2,_⟩ | ⟨_,q2⟩
   ·omega
   ·exact h q2
  refine zhA (fun hp=>?_) (fun hp=>?_) <;> (repeat' (first | (refine Zs ?_) | refine yn ?_ ?_ <;> intro _))
  all_goals first
   | exact zx (.inr (.inr ⟨rfl,hk,by omega,hname (by omega),by unfold ZS; omega⟩))
   | exact zx (.inr (.inl ⟨rfl,hk,fun h=>by
     obtain ⟨_,h1,h2,h3⟩:=h
     unfold ZS at h3
     omega⟩))
   | exact zx (.inr (.inl ⟨rfl,hk,fun h=>hbad (by omega) h⟩))
theorem zls (k:Int):zN k = some (decide (k = 6 ∨ k = 7 ∨ k = 10 ∨ k = 11 ∨ k = 12 ∨ k = 13)):=by
 refine W.eq ?_
 unfold zN
 (repeat' (refine yn ?_ ?_ <;> intro _)) <;> refine zx ?_ <;> rw [Bool.eq_iff_iff] <;> simp <;> omega
theorem zlt (k:Int):zM k = some (decide (1 <= k/\k <= 10/\k ≠ 5)):=by
 refine W.eq ?_
 unfold zM
 (repeat' (refine yn ?_ ?_ <;> intro _)) <;> refine zx ?_ <;> rw [Bool.eq_iff_iff] <;> simp <;> omega
theorem zlu {b:Bool} {P Q:Prop} (h:b = true ↔ P) (k:P ↔ Q):W (some b) fun r=>(r = true/\Q) ∨ (r = false/\¬ Q):=by
 refine zx ?_
 cases b with
 | true=>exact .inl ⟨rfl,k.1 (h.1 rfl)⟩
 | false=>exact .inr ⟨rfl,fun q=>by cases h.2 (k.2 q)⟩
theorem zsM (o:Outc):W (yf o) fun r=>(r = true/\ZS o) ∨ (r = false/\¬ ZS o):=by
 unfold yf ZS
 refine yL (zls o.Kind) ?_
 refine Zs ?_
 refine zhA (fun hu=>?_) (fun hu=>?_)
 ·(repeat' (refine yn ?_ ?_ <;> intro _)) <;> first
   | exact zlu (P:=o.Other = 0) beq_iff_eq (by omega)
   | exact zlu (P:=o.Other ≠ o.Node) bne_iff_ne (by omega)
   | exact zlu (P:=True) ⟨fun _=>trivial,fun _=>rfl⟩ (by omega)
   | exact zlu (P:=False) ⟨fun h=>absurd h (by decide),False.elim⟩ ⟨False.elim,fun q=>by omega⟩
 ·exact zlu (P:=o.Other = 0) beq_iff_eq (by omega)
theorem zqZ (o:Outc):W (z6 o) (ONE o):=by
 unfold z6
 refine yn (fun h=>zx (.inl ⟨rfl,fun k=>by unfold yS at k; omega⟩)) fun k1=>?_
 refine yn (fun h=>zx (.inl ⟨rfl,fun k=>by unfold yS at k; omega⟩)) fun k2=>?_
 have hk:yS o.Kind:=by unfold yS; omega
 have no:¬ OKO o->W (some (2:Int)) (ONE o):=fun h=>zx (.inr (.inl ⟨rfl,hk,h⟩))
 refine yn (fun h=>no fun k=>by have:=k.2.1; omega) fun q1=>?_
 refine yn (fun h=>no fun k=>by have:=k.2.1; omega) fun q2=>?_
 refine yn (fun h=>no fun k=>by have:=k.2.1; omega) fun q3=>?_
 refine yn (fun h=>no fun k=>by have:=k.2.1; omega) fun q4=>?_
 refine qM (zsM o) fun r hr=>?_
 rcases hr with ⟨rfl,hot⟩ | ⟨rfl,hot⟩
 rotate_left
 ·exact Zs (zhB (no fun k=>hot k.2.2.2))
 refine Zs (zap ?_)
 refine yL (zlt o.Kind) ?_
 refine zhA (fun hu=>?_) (fun hu=>?_)
 ·refine qM (zcV o.ID) fun r hr=>zx ?_
  rcases hr with ⟨rfl,q⟩ | ⟨rfl,q⟩
  ·exact .inr (.inr ⟨rfl,hk,by omega,.inl ⟨by omega,q⟩,hot⟩)
  ·refine .inr (.inl ⟨rfl,hk,fun k=>?_⟩)
   rcases k.2.2.1 with ⟨_,q2⟩ | ⟨q2,_⟩
   ·exact q q2
   ·omega
 ·refine Zs (yn (fun h=>zx (.inr (.inr ⟨rfl,hk,by omega,.inr ⟨by omega,h⟩,hot⟩))) fun h=>no fun k=>?_)
  rcases k.2.2.1 with ⟨q2,_⟩ | ⟨_,q2⟩
  ·omega
  ·exact h q2
structure OkT (l:List Outc):Prop where
 one:∀ o ∈ l,OKO o
 asc:∀ (i:Nat) x y,l[i]? = some x->l[i + 1]? = some y->x.Tick <= y.Tick
def zsN (l:List Outc) (i:Nat) (e:Int):Prop:=∃ x,l[i]? = some x/\OkT (l.take i) /\
 ((e ≠ 0/\ONE x e/\¬ OKO x) ∨ (e = 19/\OKO x/\∃ y,0 < i/\l[i - 1]? = some y/\x.Tick < y.Tick))
def CT (l:List Outc) (r:Int × Int):Prop :=
 (5000 < l.length/\r = (5,0)) ∨ (l.length <= 5000/\OkT l/\r = (0,0)) ∨ (l.length <= 5000/\∃ i:Nat,r.2 = i/\zsN l i r.1)
theorem zbU {l:List Outc} {i:Nat} {x:Outc} (hx:l[i]? = some x):OkT (l.take (i + 1)) ↔ OkT (l.take i)/\OKO x/\∀ y,0 < i->l[i - 1]? = some y->y.Tick <= x.Tick:=by
 have e:l.take (i + 1) = l.take i++[x]:=by rw [List.take_add_one,hx]; rfl
 have hil:=(List.getElem?_eq_some_iff.1 hx).1
 constructor
 ·rintro ⟨h1,h2⟩
  refine ⟨⟨fun o ho=>h1 o (by rw [e]; simp [ho]),fun j a b ha hb=>?_⟩,h1 x (by rw [e]; simp),fun y hi hy=>?_⟩
  ·rw [List.getElem?_take] at ha hb
   split at hb
   ·refine h2 j a b ?_ ?_
    ·rw [List.getElem?_take,if_pos (by omega)]; split at ha <;> first | exact ha | cases ha
    ·rw [List.getElem?_take,if_pos (by omega)]; exact hb
   ·cases hb
  ·refine h2 (i - 1) y x ?_ ?_
   ·rw [List.getElem?_take,if_pos (by omega)]; exact hy
   ·rw [show i - 1 + 1 = i from by omega,List.getElem?_take,if_pos (by omega)]; exact hx
 ·rintro ⟨⟨h1,h2⟩,h3,h4⟩
  refine ⟨fun o ho=>?_,fun j a b ha hb=>?_⟩
  ·rw [e] at ho
   rcases List.mem_append.1 ho with ho | ho
   ·exact h1 o ho
   ·simp at ho; subst ho; exact h3
  ·rw [List.getElem?_take] at ha hb
   split at hb
   case isFalse=>cases hb
   rename_i hj
   rw [if_pos (by omega)] at ha
   by_cases hji:j + 1 = i
   ·subst hji
    rw [hx] at hb; cases hb
    exact h4 a (by omega) ha
   ·refine h2 j a b ?_ ?_
    ·rw [List.getElem?_take,if_pos (by omega)]; exact ha
    ·rw [List.getElem?_take,if_pos (by omega)]; exact hb
theorem OkT.take {l:List Outc} (h:OkT l) (i:Nat):OkT (l.take i):=by
 refine ⟨fun o ho=>h.one o (List.mem_of_mem_take ho),fun j a b ha hb=>?_⟩
 rw [List.getElem?_take] at ha hb
 split at hb
 ·rw [if_pos (by omega)] at ha
  exact h.asc j a b ha hb
 ·cases hb
theorem zsN.no {l:List Outc} {i:Nat} {e:Int} (h:zsN l i e) {k:Nat} (hk:i < k):¬ OkT (l.take k):=by
 obtain ⟨x,hx,_,h⟩:=h
 intro hv
 have hv':=hv.take (i + 1)
 rw [List.take_take,Nat.min_eq_left (by omega)] at hv'
 obtain ⟨h1,h2,h3⟩:=(zbU hx).1 hv'
 rcases h with ⟨_,_,h⟩ | ⟨_,_,y,h,hy,hc⟩
 ·exact h h2
 ·have:=h3 y h hy; omega
theorem CT.det {l:List Outc} {r r':Int × Int} (h:CT l r) (h':CT l r'):r = r':=by
 have bad:∀ {i:Nat} {e:Int},zsN l i e->¬ OkT l:=fun {i e} hb hv=>by
  obtain ⟨x,hx,_⟩:=id hb
  have hil:=(List.getElem?_eq_some_iff.1 hx).1
  exact hb.no (k:=l.length) hil (by rw [List.take_length]; exact hv)
 rcases h with ⟨h1,rfl⟩ | ⟨h1,h2,rfl⟩ | ⟨h1,i,hi,hb⟩ <;> rcases h' with ⟨k1,rfl⟩ | ⟨k1,k2,rfl⟩ | ⟨k1,j,hj,kb⟩
 ·rfl
 ·omega
 ·omega
 ·omega
 ·rfl
 ·exact absurd h2 (bad kb)
 ·omega
 ·exact absurd k2 (bad hb)
 ·have hij:i = j:=by
   rcases Nat.lt_trichotomy i j with q | q | q
   ·obtain ⟨x,_,hv,_⟩:=id kb; exact absurd hv (hb.no q)
   ·exact q
   ·obtain ⟨x,_,hv,_⟩:=id hb; exact absurd hv (kb.no q)
  subst hij
  obtain ⟨x,hx,_,h⟩:=hb
  obtain ⟨x',hx',_,k⟩:=kb
  rw [hx] at hx'; cases hx'
  have he:r.1 = r'.1:=by
   rcases h with ⟨a1,a2,a3⟩ | ⟨a1,a2,_⟩ <;> rcases k with ⟨b1,b2,b3⟩ | ⟨b1,b2,_⟩
   ·exact a2.det b2
   ·exact absurd b2 a3
   ·exact absurd a2 b3
   ·omega
  exact Prod.ext he (hi.trans hj.symm)
theorem CT.ok {l:List Outc} {n:Int} (h:CT l (0,n)):l.length <= 5000/\OkT l:=by
 rcases h with ⟨_,h⟩ | ⟨h1,h2,_⟩ | ⟨h1,i,hi,x,hx,hv,h⟩
 ·cases h
 ·exact ⟨h1,h2⟩
 ·dsimp only at h
  rcases h with ⟨h,_⟩ | ⟨h,_⟩
  ·exact absurd rfl h
  ·cases h
theorem ONE.ne {x:Outc} {r:Int} (h:ONE x r) (hr:r ≠ 0):¬ OKO x:=by
 rcases h with ⟨_,h⟩ | ⟨_,_,h⟩ | ⟨h,_⟩
 ·exact fun q=>h q.1
 ·exact h
 ·exact absurd h hr
theorem ONE.eq {x:Outc} (h:ONE x 0):OKO x:=by
 rcases h with ⟨h,_⟩ | ⟨h,_,_⟩ | ⟨_,h⟩
 ·cases h
 ·cases h
 ·exact h
theorem zsO (l:List Outc):W (qL l) (CT l):=by
 unfold qL
 refine yn (fun h=>zx (.inl ⟨by omega,rfl⟩)) fun hlen=>?_
 have hlen':l.length <= 5000:=by omega
 refine Qg (fun i:Int=>0 <= i/\i <= (l.length:Int)/\OkT (l.take i.toNat)) (fun i=>l.length - i.toNat) ?_ ⟨by omega,by omega,⟨by simp,by simp⟩⟩
 rintro i ⟨i1,i2,i3⟩
 refine yn (fun hi=>?_) fun hi=>?_
 rotate_left
 ·refine yK (zx (.inr (.inl ⟨hlen',?_,rfl⟩)))
  rwa [List.take_of_length_le (by omega)] at i3
 refine Zj (by omega) (by omega) fun x hx=>?_
 refine qM (ztH x) fun e he=>?_
 refine yn (fun h=>yK (zx (.inr (.inr ⟨hlen',i.toNat,by dsimp only; omega,x,hx,i3,.inl ⟨h,he,he.ne h⟩⟩)))) fun h=>?_
 have h0:e = 0:=Classical.byContradiction fun q=>h q
 subst h0
 have hok:=he.eq
 refine yn (fun h0=>?_) fun h0=>?_
 ·refine ZW fun k hk=>?_
  refine Zj (by omega) (by omega) fun y hy=>?_
  have hy':l[i.toNat - 1]? = some y:=by rw [<- hy]; congr 1; omega
  refine yn (fun hlt=>yK (zx (.inr (.inr ⟨hlen',i.toNat,by dsimp only; omega,x,hx,i3,.inr ⟨rfl,hok,y,by omega,hy',hlt⟩⟩)))) fun hlt=>?_
  refine ZW fun j hj=>qn ⟨⟨by omega,by omega,?_⟩,by omega⟩
  rw [show j.toNat = i.toNat + 1 from by omega]
  exact (zbU hx).2 ⟨i3,hok,fun z _ hz=>by rw [hy'] at hz; cases hz; omega⟩
 ·refine ZW fun j hj=>qn ⟨⟨by omega,by omega,?_⟩,by omega⟩
  rw [show j.toNat = i.toNat + 1 from by omega]
  exact (zbU hx).2 ⟨i3,hok,fun z hz _=>by omega⟩
theorem zq0 (l:List Outc):W (yg l) (CT l):=by
 unfold yg
 refine yn (fun h=>zx (.inl ⟨by omega,rfl⟩)) fun hlen=>?_
 have hlen':l.length <= 5000:=by omega
 refine Qg (fun i:Int=>0 <= i/\i <= (l.length:Int)/\OkT (l.take i.toNat)) (fun i=>l.length - i.toNat) ?_ ⟨by omega,by omega,⟨by simp,by simp⟩⟩
 rintro i ⟨i1,i2,i3⟩
 refine yn (fun hi=>?_) fun hi=>?_
 rotate_left
 ·refine yK (zx (.inr (.inl ⟨hlen',?_,rfl⟩)))
  rwa [List.take_of_length_le (by omega)] at i3
 refine Zj (by omega) (by omega) fun x hx=>?_
 refine qM (zqZ x) fun e he=>?_
 refine yn (fun h=>yK (zx (.inr (.inr ⟨hlen',i.toNat,by dsimp only; omega,x,hx,i3,.inl ⟨h,he,he.ne h⟩⟩)))) fun h=>?_
 have h0:e = 0:=Classical.byContradiction fun q=>h q
 subst h0
 have hok:=he.eq
 refine yn (fun h0=>?_) fun h0=>?_
 ·refine Zj (by omega) (by omega) fun x' hx'=>?_
  rw [hx] at hx'; cases hx'
  refine ZW fun k hk=>?_
  refine Zj (by omega) (by omega) fun y hy=>?_
  have hy':l[i.toNat - 1]? = some y:=by rw [<- hy]; congr 1; omega
  refine yn (fun hlt=>yK (zx (.inr (.inr ⟨hlen',i.toNat,by dsimp only; omega,x,hx,i3,.inr ⟨rfl,hok,y,by omega,hy',hlt⟩⟩)))) fun hlt=>?_
  refine ZW fun j hj=>qn ⟨⟨by omega,by omega,?_⟩,by omega⟩
  rw [show j.toNat = i.toNat + 1 from by omega]
  exact (zbU hx).2 ⟨i3,hok,fun z _ hz=>by rw [hy'] at hz; cases hz; omega⟩
 ·refine ZW fun j hj=>qn ⟨⟨by omega,by omega,?_⟩,by omega⟩
  rw [show j.toNat = i.toNat + 1 from by omega]
  exact (zbU hx).2 ⟨i3,hok,fun z hz _=>by omega⟩
open Go Go.Eng Go.RowKit Go.X Go.Seq
theorem Qj {β:Type} {s t:List UInt8} {f:List UInt8->Option β} {Q:β->Prop} (h:s.length + t.length <= 100000) (k:W (f (s++t)) Q):W ((qQ s t).bind f) Q:=by
 unfold qQ
 rw [if_pos (Nat.le_trans h (by decide))]
 exact k
theorem zot {s t:List UInt8} (h:s.length + t.length <= 100000):qQ s t = some (s++t):=by
 unfold qQ
 rw [if_pos (Nat.le_trans h (by decide))]
theorem zfP:∀ (k:Nat) (n:Int),0 <= n->n < 10 ^ (k + 1)->(dec n).length <= k + 1
 | 0,n,h0,h1=>by
  unfold dec
  rw [Go.Lib.decDigits,dif_pos (by omega)]
  simp
 | k + 1,n,h0,h1=>by
  unfold dec
  by_cases h:n.toNat < 10
  ·rw [Go.Lib.decDigits,dif_pos h]; simp
  ·rw [Go.Lib.decDigits,dif_neg h]
   have e:n.toNat / 10 = (n / 10).toNat:=by omega
   have:=zfP k (n / 10) (by omega) (by rw [Int.pow_succ] at h1; omega)
   unfold dec at this
   rw [e,List.length_append]
   simp; omega
theorem qb {n:Int} (h0:0 <= n) (h1:n <= 9223372036854775807):(dec n).length <= 20:=zfP 19 n h0 (by omega)
theorem zbV {n:Int} (h0:0 <= n) (h1:n <= 9223372036854775807):strconv_Itoa n = some (dec n):=by
 unfold strconv_Itoa zmt
 rw [if_pos ⟨by omega,h1⟩]
 unfold Go.Lib.itoa dec
 rw [if_neg (by omega)]
theorem zuc {n:Int} (h0:0 <= n) (h1:n < 18446744073709551616):yG (n,10) = some (dec n):=by
 unfold yG dec
 dsimp only
 rw [if_pos ⟨h0,h1,rfl⟩]
def keyT (d:ID):List UInt8:=dec d.Node++[46]++dec d.Seq++[46]++dec d.Off
theorem zdG {d:ID} (h:Yn d) (hs:0 <= d.Seq):(keyT d).length <= 62:=by
 unfold Yn at h
 have h1:=qb (n:=d.Node) (by omega) (by omega)
 have h2:=qb (n:=d.Seq) hs (by omega)
 have h3:=qb (n:=d.Off) (by omega) (by omega)
 unfold keyT
 simp only [List.length_append,List.length_cons,List.length_nil]
 omega
theorem zuX {d:ID} (h:Yn d) (hs:0 <= d.Seq):qT d = some (keyT d,0):=by
 have hc:zm d = some 0:=by
  obtain ⟨r,e,⟨rfl,_⟩ | ⟨_,hn⟩⟩:=zcr d
  ·exact e
  ·exact absurd h hn
 have ho:Yn d:=h
 unfold Yn at h
 have h1:=qb (n:=d.Node) (by omega) (by omega)
 have h2:=qb (n:=d.Seq) hs (by omega)
 have h3:=qb (n:=d.Off) (by omega) (by omega)
 unfold qT
 rw [hc]
 simp only [zvM]
 rw [show ((0:Int) != 0) = false from rfl]
 show (strconv_Itoa d.Node).bind _ = _
 rw [zbV (by omega) (by omega)]
 simp only [zvM]
 rw [zot (by simp; omega)]
 simp only [zvM]
 rw [zuc hs (by omega)]
 simp only [zvM]
 rw [zot (by simp; omega)]
 simp only [zvM]
 rw [zot (by simp; omega)]
 simp only [zvM]
 rw [zbV (by omega) (by omega)]
 simp only [zvM]
 rw [zot (by simp; omega)]
 rfl
noncomputable def kws:List (List UInt8):=(zU ()).getD []
noncomputable def kw (k:Int):List UInt8:=kws.getD k.toNat []
set_option maxRecDepth 100000 in
theorem zpw:∀ k ∈ [1,2,3,4,5,6,7,8,9,10,11,12,13,14,15],zjV .Face 0 (k * 2) 2 = some ⟨kws.getD k [],zgL k⟩:=by
 intro k hk
 simp only [List.mem_cons,List.not_mem_nil,or_false] at hk
 rcases hk with rfl | rfl | rfl | rfl | rfl | rfl | rfl | rfl | rfl | rfl | rfl | rfl | rfl | rfl | rfl <;> kernel_rfl
theorem ziw {k:Int} (h:yS k):k.toNat ∈ [1,2,3,4,5,6,7,8,9,10,11,12,13,14,15]:=by
 unfold yS at h
 simp only [List.mem_cons,List.not_mem_nil,or_false]
 omega
theorem zou {k:Int} (h:yS k):zjV .Face 0 (k.toNat * 2) 2 = some ⟨kw k,zgL k.toNat⟩:=zpw _ (ziw h)
theorem zq1:∀ k ∈ [1,2,3,4,5,6,7,8,9,10,11,12,13,14,15],(kws.getD k []).length <= 20/\Zh (kws.getD k []) = true:=by
 decide +kernel
theorem zm4 {k:Int} (h:yS k):(kw k).length <= 20:=(zq1 _ (ziw h)).1
theorem zov {k:Int} (h:yS k):Zh (kw k) = true:=(zq1 _ (ziw h)).2
noncomputable def wds (o:Outc):List (List UInt8 × List UInt8) :=
 [([],dec o.Tick),([],110 :: dec o.Node),([],kw o.Kind)]++(if o.Kind <= 10/\o.Kind ≠ 5 then [([105,100],keyT o.ID)] else [])++(if o.Other ≠ 0 then [([97,116],dec o.Other)] else [])
def mkW (x:List UInt8 × List UInt8):Word:=⟨0,x.1,x.2⟩
def ivs (o:Outc):List IV :=
 [.int 107 o.Tick,.int 108 o.Node,.int 109 o.Kind]++(if o.Kind <= 10/\o.Kind ≠ 5 then [.id 111 o.ID] else [])++(if o.Other ≠ 0 then [.int 112 o.Other] else [])
theorem zsP {n:Int} (h0:0 <= n) (h1:n <= 9223372036854775807):yi (.int 107 n) = some (mkW ([],dec n)):=by
 rw [yi]
 rw [if_pos rfl,zbV h0 h1]; rfl
theorem zsQ {n:Int} (h0:0 <= n) (h1:n <= 9223372036854775807):yi (.int 108 n) = some (mkW ([],110 :: dec n)):=by
 rw [yi]
 rw [if_neg (by decide),if_pos rfl,zbV h0 h1]; rfl
theorem zsR {n:Int} (h:yS n):yi (.int 109 n) = some (mkW ([],kw n)):=by
 have h':=h
 unfold yS at h'
 rw [yi]
 rw [if_neg (by decide),if_neg (by decide),if_pos rfl,if_pos ⟨by omega,by omega⟩,zou h]
 have:=zm4 h
 simp only [zvM]
 rw [if_pos (by omega)]; rfl
theorem zq2 {n:Int} (h0:0 <= n) (h1:n <= 9223372036854775807):yi (.int 112 n) = some (mkW ([97,116],dec n)):=by
 rw [yi]
 rw [if_neg (by decide),if_neg (by decide),if_neg (by decide),if_pos rfl,zbV h0 h1]; rfl
theorem zsS {d:ID} (h:Yn d) (hs:0 <= d.Seq):yi (.id 111 d) = some (mkW ([105,100],keyT d)):=by
 rw [yi]
 have:=zdG h hs
 rw [if_pos rfl,zuX h hs]
 simp only [zvM]
 rw [if_pos ⟨trivial,by omega⟩]; rfl
theorem zow (fs:List IV) (ws:List Word) (hl:fs.length = ws.length) (hb:fs.length <= 1000) (h:∀ (i:Nat) x,fs[i]? = some x->∃ w,ws[i]? = some w/\yi x = some w)
  (F:List Word × Int->Option (Yt (List Word × Int) (List Word))) (hF:∀ l i,F (l,i) = br (decide (i < (fs.length:Int))) ((idx fs i).bind fun x=>(yi x).bind fun y=>(app 40 l ([y]:List Word)).bind fun z=>(zD .i64 i 1).bind fun j=>some (.next (z,j))) (some (.done l))) :
  qg F (([]:List Word),(0:Int)) = some ws:=by
 refine W.eq (zkw (fun s=>0 <= s.2/\s.2 <= (fs.length:Int)/\s.1 = ws.take s.2.toNat) (fun s=>fs.length - s.2.toNat) ?_ ⟨Int.le_refl _,by simp,by simp⟩)
 rintro ⟨l,i⟩ ⟨h0,h1,h2⟩
 dsimp only at h0 h1 h2
 rw [hF]
 refine yn (fun hi=>?_) fun hi=>?_
 ·refine Zj h0 hi fun x hx=>?_
  obtain ⟨w,hw,ht⟩:=h i.toNat x hx
  refine yL ht ?_
  have hll:l.length <= 1000:=by rw [h2,List.length_take]; omega
  refine zhC (by simp; omega) ?_
  refine ZW fun j hj=>?_
  refine qn ⟨⟨by dsimp only; omega,by dsimp only; omega,?_⟩,by dsimp only; omega⟩
  dsimp only
  rw [show j.toNat = i.toNat + 1 from by omega,List.take_add_one,hw,h2]
  rfl
 ·refine yK ?_
  have:i = (fs.length:Int):=by omega
  rw [h2,this,hl]
  simp
theorem Qp {o:Outc} (h:OKO o):yS o.Kind/\0 <= o.Tick/\o.Tick <= 1099511627776/\1 <= o.Node/\o.Node <= 16/\0 <= o.Other/\o.Other <= 16/\(o.Kind <= 10/\o.Kind ≠ 5->Yn o.ID):=by
 obtain ⟨h1,h2,h3,h4⟩:=h
 refine ⟨h1,h2.1,h2.2.1,h2.2.2.1,h2.2.2.2,?_,?_,fun hk=>?_⟩
 ·unfold ZS at h4; omega
 ·unfold ZS at h4; omega
 ·rcases h3 with ⟨_,h⟩ | ⟨h,_⟩
  ·exact h
  ·exact absurd hk h
theorem zsT {o:Outc} (h:OKO o) (hs:0 <= o.ID.Seq):(ivs o).length = ((wds o).map mkW).length/\∀ (i:Nat) x,(ivs o)[i]? = some x->∃ w,((wds o).map mkW)[i]? = some w/\yi x = some w:=by
 obtain ⟨h1,h2,h3,h4,h5,h6,h7,h8⟩:=Qp h
 have t0:=zsP h2 (by omega)
 have t1:=zsQ (n:=o.Node) (by omega) (by omega)
 have t2:=zsR h1
 have t4:=zq2 h6 (by omega)
 unfold ivs wds
 by_cases hk:o.Kind <= 10/\o.Kind ≠ 5
 ·have t3:=zsS (h8 hk) hs
  simp only [if_pos hk]
  by_cases ho:o.Other ≠ 0
  ·simp only [if_pos ho]
   refine ⟨rfl,fun i x hx=>?_⟩
   match i,hx with
   | 0,hx=>cases hx; exact ⟨_,rfl,t0⟩
   | 1,hx=>cases hx; exact ⟨_,rfl,t1⟩
   | 2,hx=>cases hx; exact ⟨_,rfl,t2⟩
   | 3,hx=>cases hx; exact ⟨_,rfl,t3⟩
   | 4,hx=>cases hx; exact ⟨_,rfl,t4⟩
   | n + 5,hx=>simp at hx
  ·simp only [if_neg ho]
   refine ⟨rfl,fun i x hx=>?_⟩
   match i,hx with
   | 0,hx=>cases hx; exact ⟨_,rfl,t0⟩
   | 1,hx=>cases hx; exact ⟨_,rfl,t1⟩
   | 2,hx=>cases hx; exact ⟨_,rfl,t2⟩
   | 3,hx=>cases hx; exact ⟨_,rfl,t3⟩
   | n + 4,hx=>simp at hx
 ·simp only [if_neg hk]
  by_cases ho:o.Other ≠ 0
  ·simp only [if_pos ho]
   refine ⟨rfl,fun i x hx=>?_⟩
   match i,hx with
   | 0,hx=>cases hx; exact ⟨_,rfl,t0⟩
   | 1,hx=>cases hx; exact ⟨_,rfl,t1⟩
   | 2,hx=>cases hx; exact ⟨_,rfl,t2⟩
   | 3,hx=>cases hx; exact ⟨_,rfl,t4⟩
   | n + 4,hx=>simp at hx
  ·simp only [if_neg ho]
   refine ⟨rfl,fun i x hx=>?_⟩
   match i,hx with
   | 0,hx=>cases hx; exact ⟨_,rfl,t0⟩
   | 1,hx=>cases hx; exact ⟨_,rfl,t1⟩
   | 2,hx=>cases hx; exact ⟨_,rfl,t2⟩
   | n + 3,hx=>simp at hx
theorem zsU (o:Outc):(ivs o).length <= 1000:=by
 unfold ivs; split <;> split <;> simp
theorem zq3 {α:Type} {n:Nat} {l m:List α} (h:(l.length + m.length) * n <= 140737488355328):app n l m = some (l++m):=by unfold app; rw [if_pos h]
theorem ztI {o:Outc} (h:OKO o) (hs:0 <= o.ID.Seq):yC o = some ((wds o).map mkW):=by
 obtain ⟨q1,q2⟩:=zsT h hs
 have q3:=zsU o
 obtain ⟨h1,h2,h3,h4,h5,h6,h7,h8⟩:=Qp h
 have hb:=(zlr _ (ziw h1)).1
 have hin:inB o.Kind 16 = true:=by unfold yS at h1; unfold inB; simp; omega
 have hk':(decide (o.Kind.toNat <= 10/\o.Kind.toNat ≠ 5)) = decide (o.Kind <= 10/\o.Kind ≠ 5):=by
  unfold yS at h1
  exact decide_eq_decide.2 (by omega)
 unfold yC
 rw [hin,Nat.zero_add,zou h1]
 simp only [br,cond_true,zvM]
 rw [hb,hk']
 unfold ivs at q1 q2 q3
 by_cases hk:o.Kind <= 10/\o.Kind ≠ 5
 ·rw [decide_eq_true hk]
  simp only [if_pos hk] at q1 q2 q3
  simp only [cond_true]
  rw [zq3 (by simp)]
  simp only [zvM]
  by_cases ho:o.Other ≠ 0
  ·rw [show (o.Other != 0) = true from bne_iff_ne.2 ho]
   simp only [if_pos ho] at q1 q2 q3
   simp only [cond_true]
   rw [zq3 (by simp)]
   simp only [zvM]
   rw [zow _ _ q1 q3 q2 _ (fun l i=>rfl)]
   rfl
  ·have ho':o.Other = 0:=Decidable.not_not.1 ho
   rw [show (o.Other != 0) = false from by rw [ho']; rfl]
   simp only [if_neg ho,List.append_nil] at q1 q2 q3
   simp only [cond_false]
   rw [zow _ _ q1 q3 q2 _ (fun l i=>rfl)]
   rfl
 ·rw [decide_eq_false hk]
  simp only [if_neg hk,List.append_nil] at q1 q2 q3
  simp only [cond_false]
  by_cases ho:o.Other ≠ 0
  ·rw [show (o.Other != 0) = true from bne_iff_ne.2 ho]
   simp only [if_pos ho] at q1 q2 q3
   simp only [cond_true]
   rw [zq3 (by simp)]
   simp only [zvM]
   rw [zow _ _ q1 q3 q2 _ (fun l i=>rfl)]
   rfl
  ·have ho':o.Other = 0:=Decidable.not_not.1 ho
   rw [show (o.Other != 0) = false from by rw [ho']; rfl]
   simp only [if_neg ho,List.append_nil] at q1 q2 q3
   simp only [cond_false]
   rw [zow _ _ q1 q3 q2 _ (fun l i=>rfl)]
   rfl
end Go.Proofs.YtjcbpfhlgebgdaaGreatDoor
