import Derived.Test.YtjcbpfhlgebgdaaGreatDoorX3
open Bool renaming and_eq_true -> zvI
open Nat renaming eq_of_beq_eq_true -> zvJ
open Nat renaming le_of_ble_eq_true -> zvK
open Option.some renaming injEq -> zvL
open List renaming eq_nil_of_length_eq_zero -> zvO
set_option linter.unusedSimpArgs false
set_option linter.unusedVariables false
namespace Go.X
open Go.Eng
open Go.RowKit
variable {β:Type}
section
variable {P:Program} {code:TypeId->Option C} {ro:RO} {m:Mm} {r:β} {K:S->Option β} {Kp:V->Prop} {K2:S->Tk->Option β} {K2p:V->Tk->Prop}
theorem zkg {s:TypeId} {i:Nat} {x:S} (hK:∀ s,K s = some r->Kp (toV s)) (h:znv P s i x K = some r):zdd P s i (toV x) Kp:=by
 unfold znv at h
 unfold zdd
 split at h
 ·rename_i off t cs hf
  simp only [hf,toV]
  split at h
  ·rename_i n ha hs
   simp only [ha,hs]
   have:=hK _ h
   simpa only [toV,QF] using this
  ·rename_i ha
   simp only [ha]
   split at h
   ·rename_i c hc
    simp only [Y9,hc,Option.map_some]
    exact hK _ h
   ·cases h
  ·cases h
 ·cases h
theorem zal {i:Int} {n:Nat} (h:inB i n = true):0 <= i/\i < (n:Int):=by
 simpa [inB] using h
theorem zkh {t:TypeId} {x i:S} (hK:∀ s,K s = some r->Kp (toV s)) (h:znw P code t x i K = some r):QP P t (toV x) (toV i) Kp:=by
 have hK':∀ s v,K s = some r->toV s = v->Kp v:=fun s v h e=>e ▸ hK s h
 unfold znw at h
 split at h
 ·rename_i c l k i
  split at h
  ·rename_i en he
   obtain ⟨e,n⟩:=en
   obtain ⟨e1,e2,rfl⟩:=Yb he
   obtain ⟨y,h1,h2⟩:=bind_some h
   obtain ⟨q1,q2,q3⟩:=zak h1
   simp only [toV,QP,e1,e2]
   refine ⟨yX c l,⟨q1,by simpa using q2⟩,hK' _ _ h2 ?_⟩
   have hg:(l.map (enc c)).getD i.toNat .any = enc c y:=by simp [List.getD,q3]
   rw [hg]
   simp only [toV]
   rw [Qt]
  ·cases h
 ·split at h
  ·rename_i len e ha
   split at h
   ·rename_i n hs
    split at h
    ·have h0:=(yp h).1
     have h9:=(yp h).2
     clear h
     simp only [zvI] at h0
     have hn:=zvJ h0.1
     subst hn
     rcases brS h9 with ⟨h1,h2⟩ | ⟨_,h2⟩
     ·simp only [toV,QP,ha,hs]
      exact ⟨zal h1,hK' _ _ h2 (by simp [toV])⟩
     ·cases h2
    ·rcases brS h with ⟨h1,h2⟩ | ⟨_,h2⟩
     ·simp only [toV,QP,ha,hs]
      exact ⟨zal h1,hK' _ _ h2 (by simp [toV])⟩
     ·cases h2
   ·cases h
  ·cases h
 ·split at h
  ·rename_i len e ha
   split at h
   ·rename_i n hs
    rcases brS h with ⟨h1,h2⟩ | ⟨_,h2⟩
    ·simp only [toV,QP,ha,hs]
     exact ⟨zal h1,hK' _ _ h2 (by simp [toV])⟩
    ·cases h2
   ·cases h
  ·cases h
 ·split at h
  ·rename_i len e ha
   split at h
   ·rename_i n vs hs hv
    rcases brS h with ⟨h1,h2⟩ | ⟨_,h2⟩
    ·simp only [toV,hv,QP,ha,hs]
     exact ⟨zal h1,hK' _ _ h2 (by simp [toV,hv])⟩
    ·cases h2
   ·cases h
  ·cases h
 ·cases h
theorem zki {t:TypeId} {x i:S} (hK:∀ s,K s = some r->Kp (toV s)) (h:znx P code t x i K = some r):za9 P t (toV x) (toV i) Kp:=by
 have hK':∀ s v,K s = some r->toV s = v->Kp v:=fun s v h e=>e ▸ hK s h
 unfold znx at h
 split at h
 ·rename_i s k i
  split at h
  ·rename_i hb
   obtain ⟨y,h1,h2⟩:=bind_some h
   simp only [toV,za9,hb]
   unfold yq at h1
   cases hx:idx s i with
   | none=>rw [hx] at h1; cases h1
   | some z =>
    rw [hx] at h1
    cases h1
    obtain ⟨q1,q2,q3⟩:=zak hx
    refine ⟨⟨q1,q2⟩,hK' _ _ h2 ?_⟩
    simp [toV,List.getD,q3]
  ·cases h
 ·rename_i cs k i
  split at h
  ·rename_i len e ha
   split at h
   ·rename_i n hs1 hs2
    split at h
    ·rename_i c k' hac
     have h0:=(yp h).1
     have h9:=(yp h).2
     clear h
     have hn:=zvJ h0
     subst hn
     rcases brS h9 with ⟨h1,h2⟩ | ⟨_,h2⟩
     ·simp only [toV,za9,ha,hs1,hs2]
      refine ⟨zal h1,?_⟩
      split at h2
      ·rename_i l hl
       obtain ⟨y,h3,h4⟩:=bind_some h2
       obtain ⟨q1,q2,q3⟩:=zak h3
       have hget:(zj cs)[i.toNat * 1]? = some (enc c y):=by rw [za5 hl,List.getElem?_map,Nat.mul_one,q3]; rfl
       rw [hget]
       simp only
       rw [<- qJ]
       exact hK _ h4
      ·cases h2
     ·cases h2
    ·rcases brS h with ⟨h1,h2⟩ | ⟨_,h2⟩
     ·simp only [toV,za9,ha,hs1,hs2]
      refine ⟨zal h1,?_⟩
      split at h2
      ·rename_i c hc
       simp only [Y9,hc,Option.map_some]
       exact hK _ h2
      ·cases h2
     ·cases h2
   ·cases h
  ·cases h
 ·cases h
theorem zo7 {place:Nat->Option (Nat × Nat)}:∀ {parts:List (Nat × S)} {cells out:List S},zl4 place cells parts = some out->zeW place (zj cells) (parts.map fun x=>(x.1,toV x.2)) = some (zj out)
 | [],cells,out,h=>by simp only [zl4,zvL] at h; subst h; rfl
 | (i,v) :: rest,cells,out,h=>by
  simp only [zl4] at h
  simp only [List.map_cons,zeW]
  split at h
  ·rename_i off size n hp hc
   obtain ⟨h1,h2⟩:=yp h
   simp only [zvI] at h1
   have e1:=zvJ h1.1
   have e2:=zvK h1.2
   subst e1
   simp only [hp,zaj hc]
   rw [if_neg (by rw [y9]; omega)]
   have:=zo7 h2
   rw [qY,qY,za3,za2,za4 hc] at this
   exact this
  ·cases h
theorem QW {t:TypeId} {s:S} (h:zb8 P t = some s):ZZ P t = some (toV s):=by
 unfold zb8 at h
 unfold ZZ
 cases hz:(P.info? t).bind (·.zero) with
 | none=>rw [hz] at h; cases h
 | some z=>rw [hz] at h; cases h; simp [zeD]
theorem zkj {t:TypeId} {parts:List (Nat × Operand)} (hK:∀ s,K s = some r->Kp (toV s)) (h:zny P ro m t parts K = some r):zfF P t (za ro m) parts Kp:=by
 unfold zny at h
 unfold zfF
 split at h
 ·rename_i zv place hz hp
  simp only [QW hz,hp]
  split at h
  ·rename_i n hc
   split at h
   ·rename_i out hf
    have:=zo7 hf
    rw [za4 hc] at this
    have e:(parts.map fun x=>(x.1,zG ro m x.2)).map (fun x=>(x.1,toV x.2)) = parts.map fun x=>(x.1,(za ro m).eval x.2):=by
     rw [List.map_map]
     exact List.map_congr_left fun x _=>by simp [zq]
    rw [e] at this
    refine ⟨by rw [zaj hc]; rfl,?_⟩
    rw [this]
    have:=hK _ h
    simpa only [toV] using this
   ·cases h
  ·cases h
 ·cases h
theorem zmc {n:Nat}:∀ {ss:List S},zjZ n ss = true->qq n (zj ss)
 | [],_=>by intro v hv; simp [zj] at hv
 | s :: ss,h=>by
  simp only [zjZ,zvI] at h
  intro v hv
  simp only [zj,List.mem_cons] at hv
  rcases hv with rfl | hv
  ·have h1:=h.1
   split at h1
   ·rename_i k hk
    rw [zaj hk,zvJ h1]
   ·cases h1
  ·exact zmc h.2 v hv
theorem zhY {t:TypeId} {len:Nat} {parts:List (Nat × Operand)} {dst:Option Nat} (hK:∀ s tk,K2 s tk = some r->K2p (toV s) tk) (h:zj0 P code ro m t len parts dst K2 = some r) :
  zde P t (za ro m) len parts dst K2p:=by
 have hK':∀ s tk v,K2 s tk = some r->toV s = v->K2p v tk:=fun s tk v h e=>e ▸ hK s tk h
 have e:zj (parts.map fun x=>zG ro m x.2) = parts.map fun x=>(za ro m).eval x.2:=by
  rw [Z8,List.map_map]
  exact List.map_congr_left fun x _=>zq ro m x.2
 unfold zj0 at h
 unfold zde
 split at h
 ·rename_i e' he
  simp only [he]
  split at h
  ·rename_i sz zv hs hz
   simp only [hs,QW hz]
   split at h
   ·rename_i zn hzn
    obtain ⟨h1,h2⟩:=yp h
    simp only [zvI,Bool.not_eq_true'] at h1
    obtain ⟨⟨⟨⟨a1,a2⟩,a3⟩,a4⟩,a5⟩:=h1
    have a1':sz ≠ 0:=fun e=>by subst e; cases a1
    have a2':=zvJ a2
    subst a2'
    refine ⟨⟨a1',zaj hzn,zvJ a3,zvK a4,a5⟩,?_⟩
    split at h2
    ·rename_i c hc
     split at h2
     ·rename_i l hl
      obtain ⟨h3,h4⟩:=yp h2
      have h3':=zvJ h3
      have hq:=za5 hl
      rw [e] at hq
      rw [hq]
      refine ⟨by rw [<- h3']; exact yX c l,hK' _ _ _ h4 (by simp [toV])⟩
     ·cases h2
    ·obtain ⟨h3,h4⟩:=yp h2
     rw [<- e]
     exact ⟨zmc h3,hK' _ _ _ h4 (by simp [toV])⟩
   ·cases h
  ·cases h
 ·cases h
theorem znM {x:S} (hK:∀ s,K s = some r->Kp (toV s)) (h:zuz x K = some r):zii (toV x) Kp:=by
 have hK':∀ s v,K s = some r->toV s = v->Kp v:=fun s v h e=>e ▸ hK s h
 unfold zuz at h
 split at h
 ·simp only [toV,zii]; exact hK' _ _ h (by simp [toV])
 ·simp only [toV,zii]; exact hK' _ _ h (by simp [toV])
 ·split at h
  ·rename_i vs hv
   simp only [toV,hv,zii]; exact hK' _ _ h (by simp [toV,hv])
  ·cases h
 ·cases h
theorem znN {t:TypeId} {x:S} (hK:∀ s,K s = some r->Kp (toV s)) (h:zuA P t x K = some r):zij P t (toV x) Kp:=by
 have hK':∀ s v,K s = some r->toV s = v->Kp v:=fun s v h e=>e ▸ hK s h
 unfold zuA at h
 split at h
 ·split at h
  ·rename_i e he
   simp only [toV,zij,he]; exact hK' _ _ h (by simp [toV])
  ·cases h
 ·split at h
  ·rename_i e he
   simp only [toV,zij,he]; exact hK' _ _ h (by simp [toV,y9])
  ·cases h
 ·split at h
  ·rename_i he
   simp only [toV,zij,he]; exact hK' _ _ h (by simp [toV])
  ·cases h
 ·cases h
theorem zhk {b:Builtin} {args:List S} {tys:List TypeId} (hK:∀ s,K s = some r->Kp (toV s)) (h:zhd P b args tys K = some r):QZ P b (zj args) tys Kp:=by
 have hK':∀ s v,K s = some r->toV s = v->Kp v:=fun s v h e=>e ▸ hK s h
 unfold zhd at h
 split at h
 ·simp only [zj,QZ]; exact znN hK h
 ·obtain ⟨h1,h2⟩:=zbB h
  simp only [zj,toV,QZ]; exact ⟨h1,hK' _ _ h2 (by simp [toV])⟩
 ·obtain ⟨h1,h2⟩:=zbB h
  simp only [zj,toV,QZ]; exact ⟨h1,hK' _ _ h2 (by simp [toV])⟩
 ·cases h
theorem zhZ {o:Oper} {x:Operand} (hK:∀ s tk,K2 s tk = some r->K2p (toV s) tk) (h:zj1 P code ro m o x K2 = some r):zdf P o (za ro m) x K2p:=by
 have hK':∀ s tk v,K2 s tk = some r->toV s = v->K2p v tk:=fun s tk v h e=>e ▸ hK s tk h
 unfold zj1 at h
 unfold zdf
 split at h
 ·split at h
  ·rename_i e he
   simp only [he]
   split at h
   ·exact hK' _ _ _ h (by simp [toV])
   ·exact hK' _ _ _ h (by simp [toV,zj])
  ·rename_i he
   simp only [he]
   exact hK' _ _ _ h (by simp [toV,zj])
 ·rename_i hne
  split
  ·exact absurd rfl hne
  ·have:=hK _ _ h
   rwa [zq,znI] at this
theorem zmd {c a b:S} (hK:∀ s,K s = some r->Kp (toV s)) (h:zrG c a b K = some r):∃ t,toV c = .bool t/\Kp (zn7 t (toV a) (toV b)):=by
 have hK':∀ s v,K s = some r->toV s = v->Kp v:=fun s v h e=>e ▸ hK s h
 unfold zrG at h
 split at h
 ·rename_i t
  refine ⟨t,by simp [toV],?_⟩
  rw [zkQ]
  split at h
  ·exact hK' _ _ h (by cases t <;> simp [toV])
  ·obtain ⟨h1,h2⟩:=zbB h
   subst h1
   exact hK' _ _ h2 (by cases t <;> simp [toV])
  ·exact hK' _ _ h (by cases t <;> simp [toV])
  ·rcases brS h with ⟨h1,h2⟩ | ⟨h1,h2⟩
   ·subst h1; exact hK _ h2
   ·subst h1; exact hK _ h2
 ·cases h
theorem znO {o:Oper} (hK:∀ s tk,K2 s tk = some r->K2p (toV s) tk) (h:zrH P code ro m o K2 = some r):ZB P o (za ro m) K2p:=by
 have hK1:∀ s,K2 s none = some r->K2p (toV s) none:=fun s=>hK s none
 unfold zrH at h
 split at h
 ·rename_i x ho
  have:=hK _ _ h
  rw [zq,znI] at this
  simp only [ZB,ho]; exact this
 ·rename_i ho; simp only [ZB,ho]; exact zhZ hK h
 ·rename_i c x y ho
  obtain ⟨t,h1,h2⟩:=zmd (Kp:=(K2p · none)) hK1 h
  simp only [ZB,ho]
  rw [<- zq,<- zq,<- zq,h1]
  exact h2
 ·rename_i ho; simp only [ZB,ho]; rw [<- zq]; exact zce (Kp:=(K2p · none)) hK1 h
 ·rename_i ho; simp only [ZB,ho]; rw [<- zq,<- zq]; exact znL (Kp:=(K2p · none)) hK1 h
 ·rename_i ho; simp only [ZB,ho]; rw [<- zq]; exact zp2 (Kp:=(K2p · none)) hK1 h
 ·rename_i ho; simp only [ZB,ho]; rw [<- zq]; exact zmb (Kp:=(K2p · none)) hK1 h
 ·rename_i t x ho
  obtain ⟨h1,h2⟩:=yp h
  have:=hK1 _ h2
  simp only [toV] at this
  simp only [ZB,ho]; rw [<- zq]; exact ⟨h1,this⟩
 ·rename_i f first cap ho
  have:=hK1 _ h
  simp only [toV,zcd] at this
  simp only [ZB,ho]; exact this
 ·rename_i ho; simp only [ZB,ho]; rw [<- zq]; exact zhX hK h
 ·rename_i ho; simp only [ZB,ho]; rw [<- zq]; exact zkf (Kp:=(K2p · none)) hK1 h
 ·rename_i ho; simp only [ZB,ho]; rw [<- zq]; exact zkg (Kp:=(K2p · none)) hK1 h
 ·rename_i ho; simp only [ZB,ho]; rw [<- zq,<- zq]; exact zkh (Kp:=(K2p · none)) hK1 h
 ·rename_i ho; simp only [ZB,ho]; rw [<- zq,<- zq]; exact zki (Kp:=(K2p · none)) hK1 h
 ·rename_i x i ho
  simp only [ZB,ho]; rw [<- zq]
  split at h
  ·rename_i vs hx
   rw [hx]
   split at h
   ·rename_i v hv
    simp only [toV,Y9,hv,Option.map_some]
    exact hK1 _ h
   ·cases h
  ·cases h
 ·rename_i ho; simp only [ZB,ho]; exact zkj (Kp:=(K2p · none)) hK1 h
 ·rename_i ho; simp only [ZB,ho]; exact zhY hK h
 ·rename_i ho; simp only [ZB,ho]; rw [<- zq]; exact znM (Kp:=(K2p · none)) hK1 h
 ·rename_i b args tys ho
  simp only [ZB,ho]; rw [<- zcd]; exact zhk (Kp:=(K2p · none)) hK1 h
 ·cases h
end
end Go.X
namespace Go.X
open Go.Eng
open Go.RowKit
def pv (x:S × Tk):V × Tk:=(toV x.1,x.2)
mutual
def ltV (n:Nat):V->Bool
 | .loc i _=>decide (i < n)
 | .mref i=>decide (i < n)
 | .agg cs=>Yc n cs
 | .tup cs=>Yc n cs
 | .elt cs _=>Yc n cs
 | .list rows=>Yc n rows
 | .fn _ a b=>Yc n a && Yc n b
 | .iface _ v=>ltV n v
 | _=>true
def Yc (n:Nat):List V->Bool
 | []=>true
 | c :: cs=>ltV n c && Yc n cs
end
mutual
theorem zhl (n:Nat):∀ v:V,v.noLoc = true->ltV n v = true
 | .loc _ _,h=>by simp [V.noLoc] at h
 | .mref _,h=>by simp [V.noLoc] at h
 | .agg cs,h=>by simp only [V.noLoc] at h; simp only [ltV]; exact Yj n cs h
 | .tup cs,h=>by simp only [V.noLoc] at h; simp only [ltV]; exact Yj n cs h
 | .elt cs _,h=>by simp only [V.noLoc] at h; simp only [ltV]; exact Yj n cs h
 | .list cs,h=>by simp only [V.noLoc] at h; simp only [ltV]; exact Yj n cs h
 | .fn _ a b,h=>by
  simp only [V.noLoc,zvI] at h
  simp only [ltV,zvI]; exact ⟨Yj n a h.1,Yj n b h.2⟩
 | .iface _ v,h=>by simp only [V.noLoc] at h; simp only [ltV]; exact zhl n v h
 | .any,_=>rfl
 | .un,_=>rfl
 | .int _ _,_=>rfl
 | .bool _,_=>rfl
 | .str _,_=>rfl
 | .nilp,_=>rfl
 | .nilfn,_=>rfl
 | .nilif,_=>rfl
 | .nilm,_=>rfl
 | .ptr _,_=>rfl
theorem Yj (n:Nat):∀ cs:List V,V.noLocL cs = true->Yc n cs = true
 | [],_=>rfl
 | c :: cs,h=>by
  simp only [V.noLocL,zvI] at h
  simp only [Yc,zvI]; exact ⟨zhl n c h.1,Yj n cs h.2⟩
end
section
variable {w:World} {pr:Nat->Nat->Prop} {lam lam':Nat->Option Nat} {n:Nat}
mutual
theorem znP (hl:∀ i,n <= i->lam i = none):∀ (v:V) (x:Value),R ⟨w,pr,lam⟩ v x->ltV n v = true
 | .loc i _,_,q=>by
  simp only [R] at q
  obtain ⟨b,e,_⟩:=q
  simp only [ltV,decide_eq_true_eq]
  rcases Nat.lt_or_ge i n with h | h
  ·exact h
  ·exact absurd (hl i h) (by rw [show lam i = some b from e]; simp)
 | .mref i,_,q=>by
  simp only [R] at q
  obtain ⟨b,e,_⟩:=q
  simp only [ltV,decide_eq_true_eq]
  rcases Nat.lt_or_ge i n with h | h
  ·exact h
  ·exact absurd (hl i h) (by rw [show lam i = some b from e]; simp)
 | .agg cs,_,q=>by
  simp only [R] at q; obtain ⟨xs,_,q,_⟩:=q
  simp only [ltV]; exact ziV hl cs xs q
 | .tup cs,_,q=>by
  simp only [R] at q; obtain ⟨xs,_,q⟩:=q
  simp only [ltV]; exact ziV hl cs xs q
 | .elt cs _,_,q=>by
  simp only [R] at q; obtain ⟨b,o,_,q⟩:=q
  simp only [ltV]; exact ztW hl b o cs q
 | .list rows,_,q=>by
  simp only [R] at q; obtain ⟨base,cap,_,_,_,q⟩:=q
  simp only [ltV]
  rcases q with ⟨q,_⟩ | ⟨b,o,k,_,q⟩
  ·subst q; rfl
  ·exact ztX hl b k o rows q
 | .fn _ a c,_,q=>by
  simp only [R] at q; obtain ⟨xs,ys,_,q1,q2⟩:=q
  simp only [ltV,zvI]; exact ⟨ziV hl a xs q1,ziV hl c ys q2⟩
 | .iface _ v,_,q=>by
  simp only [R] at q; obtain ⟨y,_,q⟩:=q
  simp only [ltV]; exact znP hl v y q
 | .any,_,_=>rfl
 | .un,_,_=>rfl
 | .int _ _,_,_=>rfl
 | .bool _,_,_=>rfl
 | .str _,_,_=>rfl
 | .nilp,_,_=>rfl
 | .nilfn,_,_=>rfl
 | .nilif,_,_=>rfl
 | .nilm,_,_=>rfl
 | .ptr _,_,_=>rfl
theorem ziV (hl:∀ i,n <= i->lam i = none):∀ (cs:List V) (xs:List Value),RL ⟨w,pr,lam⟩ cs xs->Yc n cs = true
 | [],_,_=>rfl
 | c :: cs,_,q=>by
  simp only [RL] at q; obtain ⟨y,ys,_,q1,q2⟩:=q
  simp only [Yc,zvI]; exact ⟨znP hl c y q1,ziV hl cs ys q2⟩
theorem ztW (hl:∀ i,n <= i->lam i = none) (b:Nat):∀ (o:Nat) (cs:List V),RC ⟨w,pr,lam⟩ b o cs->Yc n cs = true
 | _,[],_=>rfl
 | o,c :: cs,q=>by
  simp only [RC] at q; obtain ⟨⟨y,_,_,q1⟩,q2⟩:=q
  simp only [Yc,zvI]; exact ⟨znP hl c y q1,ztW hl b (o + 1) cs q2⟩
theorem ztX (hl:∀ i,n <= i->lam i = none) (b k:Nat):∀ (o:Nat) (cs:List V),RR ⟨w,pr,lam⟩ b k o cs->Yc n cs = true
 | _,[],_=>rfl
 | o,c :: cs,q=>by
  simp only [RR] at q; obtain ⟨⟨y,q1,_⟩,q2⟩:=q
  simp only [Yc,zvI]; exact ⟨znP hl c y q1,ztX hl b k (o + k) cs q2⟩
end
mutual
theorem zfe (hl:∀ i,i < n->lam' i = lam i):∀ (v:V) (x:Value),ltV n v = true->R ⟨w,pr,lam⟩ v x->R ⟨w,pr,lam'⟩ v x
 | .loc i _,_,h,q=>by
  simp only [ltV,decide_eq_true_eq] at h
  simp only [R] at q ⊢
  obtain ⟨b,e,q⟩:=q
  exact ⟨b,(hl i h).trans e,q⟩
 | .mref i,_,h,q=>by
  simp only [ltV,decide_eq_true_eq] at h
  simp only [R] at q ⊢
  obtain ⟨b,e,q⟩:=q
  exact ⟨b,(hl i h).trans e,q⟩
 | .agg cs,_,h,q=>by
  simp only [ltV] at h; simp only [R] at q ⊢
  obtain ⟨xs,e,q,q1⟩:=q
  exact ⟨xs,e,zeG hl cs xs h q,q1⟩
 | .tup cs,_,h,q=>by
  simp only [ltV] at h; simp only [R] at q ⊢
  obtain ⟨xs,e,q⟩:=q
  exact ⟨xs,e,zeG hl cs xs h q⟩
 | .elt cs _,_,h,q=>by
  simp only [ltV] at h; simp only [R] at q ⊢
  obtain ⟨b,o,e,q⟩:=q
  exact ⟨b,o,e,zrS hl b o cs h q⟩
 | .list rows,_,h,q=>by
  simp only [ltV] at h; simp only [R] at q ⊢
  obtain ⟨base,cap,e1,e2,e3,q⟩:=q
  refine ⟨base,cap,e1,e2,e3,?_⟩
  rcases q with q | ⟨b,o,k,e4,q⟩
  ·exact .inl q
  ·exact .inr ⟨b,o,k,e4,zrT hl b k o rows h q⟩
 | .fn _ a c,_,h,q=>by
  simp only [ltV,zvI] at h; simp only [R] at q ⊢
  obtain ⟨xs,ys,e,q1,q2⟩:=q
  exact ⟨xs,ys,e,zeG hl a xs h.1 q1,zeG hl c ys h.2 q2⟩
 | .iface _ v,_,h,q=>by
  simp only [ltV] at h; simp only [R] at q ⊢
  obtain ⟨y,e,q⟩:=q
  exact ⟨y,e,zfe hl v y h q⟩
 | .any,_,_,_=>by simp [R]
 | .un,_,_,q=>by simpa [R] using q
 | .int _ _,_,_,q=>by simpa [R] using q
 | .bool _,_,_,q=>by simpa [R] using q
 | .str _,_,_,q=>by simpa [R] using q
 | .nilp,_,_,q=>by simpa [R] using q
 | .nilfn,_,_,q=>by simpa [R] using q
 | .nilif,_,_,q=>by simpa [R] using q
 | .nilm,_,_,q=>by simpa [R] using q
 | .ptr _,_,_,q=>by simpa [R] using q
theorem zeG (hl:∀ i,i < n->lam' i = lam i):∀ (cs:List V) (xs:List Value),Yc n cs = true->RL ⟨w,pr,lam⟩ cs xs->RL ⟨w,pr,lam'⟩ cs xs
 | [],_,_,q=>by simpa [RL] using q
 | c :: cs,_,h,q=>by
  simp only [Yc,zvI] at h; simp only [RL] at q ⊢
  obtain ⟨y,ys,e,q1,q2⟩:=q
  exact ⟨y,ys,e,zfe hl c y h.1 q1,zeG hl cs ys h.2 q2⟩
theorem zrS (hl:∀ i,i < n->lam' i = lam i) (b:Nat):∀ (o:Nat) (cs:List V),Yc n cs = true->RC ⟨w,pr,lam⟩ b o cs->RC ⟨w,pr,lam'⟩ b o cs
 | _,[],_,_=>by simp [RC]
 | o,c :: cs,h,q=>by
  simp only [Yc,zvI] at h; simp only [RC] at q ⊢
  obtain ⟨⟨y,e1,e2,q1⟩,q2⟩:=q
  exact ⟨⟨y,e1,e2,zfe hl c y h.1 q1⟩,zrS hl b (o + 1) cs h.2 q2⟩
theorem zrT (hl:∀ i,i < n->lam' i = lam i) (b k:Nat):∀ (o:Nat) (cs:List V),Yc n cs = true->RR ⟨w,pr,lam⟩ b k o cs->RR ⟨w,pr,lam'⟩ b k o cs
 | _,[],_,_=>by simp [RR]
 | o,c :: cs,h,q=>by
  simp only [Yc,zvI] at h; simp only [RR] at q ⊢
  obtain ⟨⟨y,q1,e⟩,q2⟩:=q
  exact ⟨⟨y,zfe hl c y h.1 q1,e⟩,zrT hl b k (o + k) cs h.2 q2⟩
end
theorem ztY (hl:∀ i,n <= i->lam i = none):∀ (cs:List V) (es:List MapEntry),RM ⟨w,pr,lam⟩ cs es->Yc n cs = true
 | [],_,_=>rfl
 | c :: cs,_,q=>by
  simp only [RM] at q
  obtain ⟨k,v,e,es',rfl,_,h3,h4,h5⟩:=q
  simp only [Yc,ltV,zvI,Bool.and_true]
  exact ⟨⟨znP hl _ _ h3,znP hl _ _ h4⟩,ztY hl cs es' h5⟩
theorem zrU (hl:∀ i,i < n->lam' i = lam i):∀ (cs:List V) (es:List MapEntry),Yc n cs = true->RM ⟨w,pr,lam⟩ cs es->RM ⟨w,pr,lam'⟩ cs es
 | [],_,_,q=>by simpa [RM] using q
 | c :: cs,_,h,q=>by
  simp only [RM] at q ⊢
  obtain ⟨k,v,e,es',rfl,h2,h3,h4,h5⟩:=q
  simp only [Yc,ltV,zvI,Bool.and_true] at h
  exact ⟨k,v,e,es',rfl,h2,zfe hl _ _ h.1.1 h3,zfe hl _ _ h.1.2 h4,zrU hl cs es' h.2 h5⟩
theorem zrV {b:Nat} {B:Box} (hl:∀ i,n <= i->lam i = none) (h:Ys ⟨w,pr,lam⟩ b B):Yc n B.cells = true:=by
 rcases Nat.lt_or_ge B.ty ZX with q | q
 ·obtain ⟨cur,_,h2,_⟩:=h.cells q
  exact ziV hl _ _ h2
 ·obtain ⟨es,clock,_,h2,_⟩:=h.map q
  exact ztY hl _ _ h2
theorem zp4 {b:Nat} {B:Box} (hl:∀ i,i < n->lam' i = lam i) (hn:Yc n B.cells = true) (h:Ys ⟨w,pr,lam⟩ b B):Ys ⟨w,pr,lam'⟩ b B:=by
 refine ⟨fun ht=>?_,fun ht=>?_⟩
 ·obtain ⟨cur,h1,h2,h3⟩:=h.cells ht
  exact ⟨cur,h1,zeG hl _ _ hn h2,h3⟩
 ·obtain ⟨es,clock,h1,h2,h3⟩:=h.map ht
  exact ⟨es,clock,h1,zrU hl _ _ hn h2,h3⟩
end
def Wk (x' x:V × Tk):Prop:=x' = x ∨ x' = (x.1,none) ∨ x' = (.any,none)
theorem zF.weak {P:Program} {F:Fr} {st:St} {a:Act} {w:World} {pr:Nat->Nat->Prop} {lam:Nat->Option Nat} (h:zF P F st a w pr lam) {nb':Nat} {sl':Nat->V × Tk} (hw:∀ s,Wk (sl' s) (st.sl s)) :
  zF P F ⟨nb',sl',st.box⟩ a w pr lam:=by
 have ht:∀ s t e,(sl' s).2 = some (t,e)->st.tok s = some (t,e):=by
  intro s t e hs
  rcases hw s with q | q | q <;> rw [q] at hs
  ·exact hs
  ·cases hs
  ·cases hs
 refine ⟨h.size,h.defers,fun s=>?_,fun s t e hs=>h.own s t e (ht s t e hs),fun s s' t t' e e' g hs hs'=>h.coh s s' t t' e e' g (ht _ _ _ hs) (ht _ _ _ hs'),h.box,h.inj,fun i B b s t e hB hl hs=>h.apart i B b s t e hB hl (ht _ _ _ hs),h.nolam,h.prlt,h.keep,h.prsub,h.prnew,h.lamsub,
  fun s s' t e e' hs hs'=>h.coh2 s s' t e e' (ht _ _ _ hs) (ht _ _ _ hs'),fun s t e hs hc=>?_,fun s s' t e e' b o g hs hs'=>h.ptr s s' t e e' b o g (ht _ _ _ hs) (ht _ _ _ hs')⟩
 rotate_right
 ·have ho:=h.old s t e (ht _ _ _ hs) hc
  show R _ (sl' s).1 _
  change (sl' s).2 = some (t,e) at hs
  rcases hw s with q | q | q
  ·rw [q]; exact ho
  ·rw [q] at hs; cases hs
  ·rw [q] at hs; cases hs
 show R _ (sl' s).1 _
 rcases hw s with q | q | q <;> rw [q]
 ·exact h.env s
 ·exact h.env s
 ·simp [R]
theorem zF.drop {P:Program} {F:Fr} {st:St} {a:Act} {w:World} {pr:Nat->Nat->Prop} {lam:Nat->Option Nat} (h:zF P F st a w pr lam) {n nb':Nat} (h1:∀ s,ltV n (st.sl s).1 = true)
  (h2:∀ i B,i < n->st.box i = some B->Yc n B.cells = true) (h3:∀ i b,F.lam0 i = some b->i < n) :
  zF P F ⟨nb',st.sl,fun i=>if i < n then st.box i else none⟩ a w pr (fun i=>if i < n then lam i else none):=by
 have hl:∀ i,i < n->(fun i=>if i < n then lam i else none) i = lam i:=fun i hi=>if_pos hi
 have hbx:∀ i B,(if i < n then st.box i else none) = some B->i < n/\st.box i = some B:=by
  intro i B hB
  split at hB
  ·exact ⟨‹_›,hB⟩
  ·cases hB
 have hlx:∀ i b,(if i < n then lam i else none) = some b->lam i = some b:=by
  intro i b hB
  split at hB
  ·exact hB
  ·cases hB
 refine ⟨h.size,h.defers,fun s=>zfe hl _ _ (h1 s) (h.env s),h.own,h.coh,fun i B hB=>?_,fun i j B B' b hB hB' q q'=>?_,fun i B b s t e hB q hs=>?_,fun i hi=>?_,h.prlt,h.keep,h.prsub,h.prnew,fun i b hi=>?_,h.coh2,fun s t e hs hc=>zfe hl _ _ (h1 s) (h.old s t e hs hc),h.ptr⟩
 ·obtain ⟨q1,q2⟩:=hbx i B hB
  obtain ⟨b,r1,r2,r3,r4⟩:=h.box i B q2
  exact ⟨b,by rw [<- r1]; exact if_pos q1,zp4 hl (h2 i B q1 q2) r2,r3,r4⟩
 ·exact h.inj i j B B' b (hbx i B hB).2 (hbx j B' hB').2 (hlx _ _ q) (hlx _ _ q')
 ·exact h.apart i B b s t e (hbx i B hB).2 (hlx _ _ q) hs
 ·show (if i < n then lam i else none) = none
  by_cases q:i < n
  ·rw [if_pos q]
   have hi':(if i < n then st.box i else none) = none:=hi
   rw [if_pos q] at hi'
   exact h.nolam i hi'
  ·rw [if_neg q]
 ·show (if i < n then lam i else none) = some b
  rw [if_pos (h3 i b hi)]
  exact h.lamsub i b hi
end Go.X
namespace Go.X
open Go.Eng
open Go.RowKit
theorem zrW {tk:Nat} {rows':List V} {x:V × Option (Nat × TypeId)} (h:∀ e,x.2 ≠ some (tk,e)):Wk (qE tk rows' x) x:=by
 rcases YH tk rows' x with ⟨e,q,_⟩ | q | ⟨q,_⟩
 ·exact absurd q (h e)
 ·exact .inr (.inr q)
 ·exact .inl q
open Classical in
theorem zF.bear {P:Program} {F:Fr} {st:St} {a:Act} {w:World} {pr:Nat->Nat->Prop} {lam:Nat->Option Nat} (h:zF P F st a w pr lam) {ss tk:Nat} {e:TypeId} {rows:List V} (hs:st.env ss = .list rows) (ht:st.tok ss = some (tk,e)) (hcl:tcl tk = 0) :
  zF P F ⟨st.nb,fun s=>if ∃ e',(st.sl s).2 = some (tk,e') then (.list rows,(st.sl s).2) else st.sl s,st.box⟩ a w pr lam:=by
 have htok:∀ s,(⟨st.nb,fun s=>if ∃ e',(st.sl s).2 = some (tk,e') then (.list rows,(st.sl s).2) else st.sl s,st.box⟩:St).tok s = st.tok s:=by
  intro s
  show (if _ then _ else _:V × Option (Nat × TypeId)).2 = (st.sl s).2
  split <;> rfl
 refine ⟨h.size,h.defers,fun s=>?_,fun s t e hq=>h.own s t e (htok s ▸ hq),fun s s' t t' e e' g h1 h2=>h.coh s s' t t' e e' g (htok s ▸ h1) (htok s' ▸ h2),h.box,h.inj,fun i B b s t e hB hl hq=>h.apart i B b s t e hB hl (htok s ▸ hq),h.nolam,h.prlt,h.keep,h.prsub,h.prnew,h.lamsub,
  fun s s' t e e' h1 h2=>h.coh2 s s' t e e' (htok s ▸ h1) (htok s' ▸ h2),fun s t e' hq h2=>?_,fun s s' t e e' b o g h1 h2=>h.ptr s s' t e e' b o g (htok s ▸ h1) (htok s' ▸ h2)⟩
 ·show R _ (if _ then _ else _:V × Option (Nat × TypeId)).1 _
  split
  ·rename_i hex
   obtain ⟨e',hq⟩:=hex
   have hv:=h.coh2 s ss tk e' e hq ht hcl
   have:=h.env ss
   rw [hs,<- hv] at this
   exact this
  ·exact h.env s
 ·show R _ (if _ then _ else _:V × Option (Nat × TypeId)).1 _
  rw [htok s] at hq
  rw [if_neg]
  ·exact h.old s t e' hq h2
  ·rintro ⟨e'',hq'⟩
   have hq2:(st.sl s).2 = some (t,e'):=hq
   rw [hq2] at hq'
   cases hq'
   omega
open Classical in
theorem znQ {st:St} {tk:Nat} (s:Nat):Wk ((st.changed tk []).sl s) ((⟨st.nb,fun s=>if ∃ e',(st.sl s).2 = some (tk,e') then (.list [],(st.sl s).2) else st.sl s,st.box⟩:St).sl s):=by
 show Wk (qE tk [] (st.sl s)) (if _ then _ else _)
 split
 ·rename_i hex
  obtain ⟨e',hq⟩:=hex
  refine .inl ?_
  unfold qE
  rw [hq]
  simp
 ·rename_i hex
  exact zrW fun e' hq=>hex ⟨e',hq⟩
theorem zhm {P:Program} (w:World) (d:Nat) (t e:TypeId) (a:Option Addr) (l c:Nat) (h:P.underlying t = some (.slice e)):(Op.equalIn (d + 1) t (.slice a l c) (.slice none 0 0)).run P w = .ok a.isNone w:=by
 cases a <;> simp [Op.equalIn,run_underlying h]
theorem zdX {P:Program} (w:World) (t e:TypeId) (a:Option Addr) (l c:Nat) (h:P.underlying t = some (.slice e)):(Op.equal t (.slice a l c) (.slice none 0 0)).run P w = .ok a.isNone w:=zhm w 9999 t e a l c h
theorem zhn {P:Program} {n':Nat} {o:Oper} {st:St} {K:St->Prop} {op:BinOp} {t u e:TypeId} {x:Operand} {rows:List V} {w:Bool} (ho:o.op = .binOp op t x (.const (.slice none 0 0)) u) (hop:(op = .eql/\w = false) ∨ (op = .neq/\w = true)) (hT:P.underlying t = some (.slice e))
  (hx:st.eval x = .list rows) (hd:∀ d,o.dst = some d->d < n') (hk:∀ b:Bool,(rows ≠ []->b = w)->K (st.put o.dst (.bool b) none)):Yh P n' o st K:=by
 intro F a w0 pr lam hF h next Q hn
 subst hF
 have h1:=h.eval x
 rw [hx] at h1
 simp only [R] at h1
 obtain ⟨base,cap,e1,_,_,hb⟩:=h1
 have key:∃ b:Bool,(rows ≠ []->b = w)/\(execOp a.eval o).run P w0 = .ok (.value (.bool b)) w0:=by
  have hbase:rows ≠ []->base.isNone = false:=by
   intro hr
   rcases hb with ⟨h1,_⟩ | ⟨b,o',k,rfl,_⟩
   ·exact absurd h1 hr
   ·rfl
  rcases hop with ⟨rfl,rfl⟩ | ⟨rfl,rfl⟩
  ·refine ⟨base.isNone,hbase,?_⟩
   have he:=zdX w0 t e base rows.length cap hT
   have e2:a.eval (.const (.slice none 0 0)) = .slice none 0 0:=rfl
   simp [execOp,ho,e1,e2,eqGuard,binOp,he]
  ·refine ⟨!base.isNone,fun hr=>by rw [hbase hr]; rfl,?_⟩
   have he:=zdX w0 t e base rows.length cap hT
   have e2:a.eval (.const (.slice none 0 0)) = .slice none 0 0:=rfl
   simp [execOp,ho,e1,e2,eqGuard,binOp,he]
 obtain ⟨b,h2,hr⟩:=key
 unfold Oper.wp
 rw [hr,Oper.upon_value]
 exact hn _ _ w0 pr lam (hk b h2) (h.put hd (by simp [R]) trivial)
theorem zp5 {P:Program} {n':Nat} {o:Oper} {st:St} {K:St->Prop} {α:Type} {enc:α->V} {sz:Nat} {srt:List α->List α} {d:List α} {f:FuncId} {g:Option FuncId} {ss tk:Nat} {e:TypeId} {c:Operand} {ys:List Operand} {args:Array Operand} {tys:Array TypeId}
  (ho:o.op = .call { callee:=.value c,args:=args,argTypes:=tys }) (ha:args = (Operand.tmp ss :: ys).toArray) (hc:st.eval c = .fn (.func f) [] []) (hy:match g with | none=>ys = [] | some g=>∃ y,ys = [y]/\st.eval y = .fn (.func g) [] []) (hgo:zbO P f = true)
  (hss:st.env ss = .list (d.map enc)) (htk:st.tok ss = some (tk,e)) (hcl:tcl tk = 0) (hsz:zA P e = some sz) (hrows:qq sz (d.map enc)) (hbf:∀ i B,st.box i = some B->V.flatL B.cells = true)
  (hS:ztU P f g enc sz srt) (hlt:d.length < 4611686018427387904) (hd:∀ x,o.dst = some x->x < n') (hk:K ((st.changed tk ((srt d).map enc)).put o.dst (.tup []) none)):Yh P n' o st K:=by
 intro F a w pr lam hF h next Q hn
 subst hF
 subst ha
 have h1:=h.eval c
 rw [hc] at h1
 simp only [R] at h1
 obtain ⟨xs,ys,e1,q1,q2⟩:=h1
 simp only [RL] at q1 q2
 subst q1; subst q2
 have hargs:(([]:List Value).toArray++((Operand.tmp ss :: ys).toArray).map a.eval++([]:List Value).toArray) = zl5 (a.tmps.getD ss undef) g:=by
  have e3:a.eval (.tmp ss) = a.tmps.getD ss undef:=rfl
  cases g with
  | none =>
   subst hy
   simp only [List.map_toArray,List.map_cons,List.map_nil,e3,List.append_toArray,List.nil_append,List.append_nil,zl5]
  | some g =>
   obtain ⟨y,rfl,hy⟩:=hy
   have h2:=h.eval y
   rw [hy] at h2
   simp only [R] at h2
   obtain ⟨xs,ys,e2,q1,q2⟩:=h2
   simp only [RL] at q1 q2
   subst q1; subst q2
   simp only [List.map_toArray,List.map_cons,List.map_nil,e2,e3,List.append_toArray,List.nil_append,List.append_nil,zl5]
 unfold Oper.wp
 rw [zaO ho e1 hgo,Oper.upon_enter,hargs]
 by_cases hne:d = []
 ·subst hne
  have hR:=h.env ss
  rw [hss] at hR
  simp only [List.map_nil,R] at hR
  obtain ⟨base,cap,hv,_⟩:=hR
  rw [hv]
  refine (hS.nil w pr base cap h.hl).mono ?_
  rintro en w' ⟨rfl,hb,hdl⟩
  have hext:Ext w pr w' pr:=⟨hb,hdl,fun _ _ h=>h,fun _ _ h=>.inl h⟩
  have hsr:srt [] = []:=zvO (hS.len [])
  rw [hsr] at hk
  have hw:=zF.weak (zF.bear (h.ext hext) hss htk hcl) (nb':=st.nb) (sl':=(st.changed tk []).sl) znQ
  refine hn _ _ w' pr lam hk (zF.put (st:=st.changed tk []) hw hd ?_ trivial)
  simp [R,RL]
 ·have hne':d.map enc ≠ []:=by simpa using hne
  obtain ⟨blk,cap,cur,hvs,hcp,hm,hg,hN,hgb,hcs,hrr,hpr⟩:=h.own0 hss htk hcl hsz hrows hne'
  rw [hvs]
  rw [List.length_map] at hcp hvs ⊢
  have hgl:∀ k vs,GL k = some vs->blk ≠ k:=fun k vs hq=>F.mine_gl hN hq
  refine (hS.row w pr lam blk cap d cur e h.hl hgl hne hcp hm hlt hgb hcs hrr).mono ?_
  rintro en w' ⟨rfl,w1,cur',hsw,hgb',hsize,hrr',hb,hdl⟩
  have hlen:((srt d).map enc).length = (d.map enc).length:=by simp [hS.len]
  have hch:=h.changed (sz:=sz) htk hcl (by rw [List.length_map]; exact hvs) hg hN hsw hgb hgb' hsize hbf hlen (by rw [List.length_map]; exact hcp) hm hrr'
  have hext:Ext w1 pr w' pr:=⟨hb,hdl,fun _ _ h=>h,fun _ _ h=>.inl h⟩
  refine hn _ _ w' pr lam hk ((hch.ext hext).put hd ?_ trivial)
  simp [R,RL]
end Go.X
namespace Go.X
open Go.Eng
open Go.RowKit
variable {β:Type}
mutual
theorem zo8 {f g:Nat->Nat}:∀ s:S,(∀ i ∈ ZU s,g (f i) = i)->V.ren g (toV (QK f s)) = toV s
 | .any,_=>by simp [toV,QK,V.ren]
 | .un,_=>by simp [toV,QK,V.ren]
 | .int _ _,_=>by simp [toV,QK,V.ren]
 | .bool _,_=>by simp [toV,QK,V.ren]
 | .str _,_=>by simp [toV,QK,V.ren]
 | .agg cs,h=>by simp only [QK,toV,V.ren]; rw [Qb cs (by simpa [ZU] using h)]
 | .tup cs,h=>by simp only [QK,toV,V.ren]; rw [Qb cs (by simpa [ZU] using h)]
 | .loc i o,h=>by simp only [QK,toV,V.ren]; rw [h i (by simp [ZU])]
 | .loco i o n ix,h=>by simp only [QK,toV,V.ren]; rw [h i (by simp [ZU])]
 | .elt cs o,h=>by simp only [QK,toV,V.ren]; rw [Qb cs (by simpa [ZU] using h)]
 | .gel g' o,_=>by simp only [QK]; exact V.ren_noLoc _ _ (ziS g' o)
 | .nilp,_=>by simp [toV,QK,V.ren]
 | .lst c l,_=>by
  simp only [QK]
  refine V.ren_noLoc _ _ ?_
  simp only [toV,V.noLoc]; exact yR (YP c) l
 | .rows vs,h=>by simp only [QK,toV,V.ren]; rw [Qb vs (by simpa [ZU] using h)]
 | .fn f' a b,h=>by
  simp only [QK,toV,V.ren]
  have h':∀ i,i ∈ y8 a ∨ i ∈ y8 b->g (f i) = i:=by simpa [ZU] using h
  rw [Qb a (fun i hi=>h' i (.inl hi)),Qb b (fun i hi=>h' i (.inr hi))]
 | .nilfn,_=>by simp [toV,QK,V.ren]
 | .iface t v,h=>by simp only [QK,toV,V.ren]; rw [zo8 v (by simpa [ZU] using h)]
 | .nilif,_=>by simp [toV,QK,V.ren]
 | .mref i,h=>by simp only [QK,toV,V.ren]; rw [h i (by simp [ZU])]
 | .nilm,_=>by simp [toV,QK,V.ren]
 | .ptr _ _ _,_=>by simp [toV,QK,V.ren]
 | .ivd x,_=>by simp only [QK,toV]; exact V.ren_noLoc _ _ (zdO x)
theorem Qb {f g:Nat->Nat}:∀ cs:List S,(∀ i ∈ y8 cs,g (f i) = i)->V.renL g (zj (zaZ f cs)) = zj cs
 | [],_=>by simp [zj,zaZ,V.renL]
 | c :: cs,h=>by
  simp only [zaZ,zj,V.renL]
  have h':∀ i,i ∈ ZU c ∨ i ∈ y8 cs->g (f i) = i:=by simpa [y8] using h
  rw [zo8 c (fun i hi=>h' i (.inl hi)),Qb cs (fun i hi=>h' i (.inr hi))]
end
mutual
theorem zch:∀ s:S,ZU s = []->yM s = true
 | .any,_=>by simp [yM]
 | .un,_=>by simp [yM]
 | .int _ _,_=>by simp [yM]
 | .bool _,_=>by simp [yM]
 | .str _,_=>by simp [yM]
 | .agg cs,h=>by simp only [yM]; exact qh cs (by simpa [ZU] using h)
 | .tup cs,h=>by simp only [yM]; exact qh cs (by simpa [ZU] using h)
 | .loc i o,h=>by simp [ZU] at h
 | .loco i o n ix,h=>by simp [ZU] at h
 | .elt cs o,h=>by simp only [yM]; exact qh cs (by simpa [ZU] using h)
 | .gel g' o,_=>by simp [yM]
 | .nilp,_=>by simp [yM]
 | .lst c l,_=>by simp [yM]
 | .rows vs,h=>by simp only [yM]; exact qh vs (by simpa [ZU] using h)
 | .fn f' a b,h=>by
  have h':y8 a = []/\y8 b = []:=by simpa [ZU] using h
  simp only [yM,qh a h'.1,qh b h'.2,Bool.and_self]
 | .nilfn,_=>by simp [yM]
 | .iface t v,h=>by simp only [yM]; exact zch v (by simpa [ZU] using h)
 | .nilif,_=>by simp [yM]
 | .mref i,h=>by simp [ZU] at h
 | .nilm,_=>by simp [yM]
 | .ptr _ _ _,_=>by simp [yM]
 | .ivd _,_=>by simp [yM]
theorem qh:∀ cs:List S,y8 cs = []->qX cs = true
 | [],_=>rfl
 | c :: cs,h=>by
  have h':ZU c = []/\y8 cs = []:=by simpa [y8] using h
  simp only [qX,zch c h'.1,qh cs h'.2,Bool.and_self]
end
theorem zkk {l:List Nat} {i:Nat}:l.any (Nat.beq i) = true ↔ i ∈ l:=by
 rw [List.any_eq_true]
 constructor
 ·rintro ⟨x,hx,hb⟩; rw [zvJ hb]; exact hx
 ·intro h; exact ⟨i,h,by simp⟩
theorem zam:∀ (l acc:List Nat),acc.Nodup->(QE l acc).Nodup/\(∀ i ∈ acc,i ∈ QE l acc)/\(∀ i ∈ l,i ∈ QE l acc)/\(∀ i ∈ QE l acc,i ∈ l ∨ i ∈ acc)
 | [],acc,h=>⟨h,fun i hi=>hi,fun i hi=>by simp at hi,fun i hi=>.inr hi⟩
 | j :: l,acc,h=>by
  simp only [QE]
  cases hb:acc.any (Nat.beq j) with
  | true =>
   obtain ⟨h1,h2,h3,h4⟩:=zam l acc h
   have hj:=zkk.1 hb
   refine ⟨h1,h2,fun i hi=>?_,fun i hi=>?_⟩
   ·simp at hi; rcases hi with rfl | hi
    ·exact h2 i hj
    ·exact h3 i hi
   ·rcases h4 i hi with h | h
    ·exact .inl (by simp [h])
    ·exact .inr h
  | false =>
   have hj:j ∉ acc:=fun hj=>by rw [zkk.2 hj] at hb; cases hb
   obtain ⟨h1,h2,h3,h4⟩:=zam l (acc++[j]) (by
    rw [List.nodup_append]
    refine ⟨h,by simp,fun a ha b hb=>?_⟩
    simp at hb; subst hb
    exact fun e=>hj (e ▸ ha))
   refine ⟨h1,fun i hi=>h2 i (by simp [hi]),fun i hi=>?_,fun i hi=>?_⟩
   ·simp at hi; rcases hi with rfl | hi
    ·exact h2 _ (by simp)
    ·exact h3 i hi
   ·rcases h4 i hi with h | h
    ·exact .inl (by simp [h])
    ·simp at h; rcases h with h | rfl
     ·exact .inr h
     ·exact .inl (by simp)
theorem zc7:∀ (π:List Nat) (i:Nat),i ∈ π->π[zeA π i]? = some i
 | x :: xs,i,h=>by
  simp only [zeA]
  cases hb:Nat.beq x i with
  | true=>simp only [cond_true]; rw [zvJ hb]; rfl
  | false =>
   simp only [cond_false]
   have hne:i ≠ x:=fun e=>by subst e; simp at hb
   simp [hne] at h
   rw [List.getElem?_cons_succ]
   exact zc7 xs i h
section
variable {P:Program} {X:zc6 P} {ro:RO} {m:Mm} {r:β}
theorem Qc {f:FuncId} {args:List S} {ins:List qr} {K:S->List qr->Option β}:∀ {ss:List (zb P)},za0 ss f args ins K = some (some r) ->
  ∃ res outs,K res outs = some r/\zbO P f = true/\Go.Eng.Fn P f (zj args) (ins.map yc) (toV res) (outs.map yc)/\yM res = true/\(∀ B ∈ outs,zb9 B = true)/\outs.length = ins.length
 | [],h=>by cases h
 | s :: ss,h=>by
  simp only [za0] at h
  cases hf:Nat.beq s.f f with
  | false=>rw [hf] at h; exact Qc h
  | true =>
   rw [hf] at h
   simp only [cond_true] at h
   have e:=zvJ hf
   cases hr:s.run args ins K with
   | none=>rw [hr] at h; exact Qc h
   | some o =>
    rw [hr] at h
    simp only [zvL] at h
    subst h
    have:=s.sound args ins K r hr
    rwa [e] at this
theorem zcy {i:Nat} {B:qr} (h:yj ro m i = some B) (ho:ro.ownB i = true):i < m.bx.length:=by
 unfold yj at h
 rw [ho] at h
 simp only [cond_true] at h
 cases hq:m.bx[i]? with
 | none=>rw [hq] at h; cases h
 | some _=>exact (List.getElem?_eq_some_iff.1 hq).1
theorem zh0 {a b:Nat} (h:Nat.blt a b = true):a < b:=zvK h
theorem zrX {sl:T (S × Tk)} {bx:List (Option qr)} {i j:Nat} {B:qr} (ho:ro.ownB i = true) (hi:i < bx.length):yj ro ⟨sl,bx.set i (some B)⟩ j = if j = i then some B else yj ro ⟨sl,bx⟩ j:=by
 unfold yj
 by_cases h:j = i
 ·subst h; rw [if_pos rfl,ho]; simp [hi]
 ·rw [if_neg h]
  cases hq:ro.ownB j
  ·rfl
  ·simp only [cond_true]
   rw [List.getElem?_set_ne (Ne.symm h)]
theorem zp6 {sl:T (S × Tk)} {bx:List (Option qr)} {j:Nat} {B:qr} (hn:Nat.ble ro.nb bx.length = true):yj ro ⟨sl,bx++[some B]⟩ j = if j = bx.length then some B else yj ro ⟨sl,bx⟩ j:=by
 unfold yj
 by_cases h:j = bx.length
 ·subst h
  have:ro.ownB bx.length = true:=by unfold RO.ownB; rw [hn]; rfl
  rw [if_pos rfl,this]
  simp
 ·rw [if_neg h]
  cases hq:ro.ownB j
  ·rfl
  ·simp only [cond_true]
   rcases Nat.lt_or_ge j bx.length with q | q
   ·rw [List.getElem?_append_left q]
   ·rw [List.getElem?_eq_none (by simp; omega),List.getElem?_eq_none (by omega)]
theorem YQ {sl:T (S × Tk)} {bx:List (Option qr)} {i:Nat} {B:qr} (ho:ro.ownB i = true) (hi:i < bx.length):za ro ⟨sl,bx.set i (some B)⟩ = (za ro ⟨sl,bx⟩).setBox i (yc B):=by
 unfold za St.setBox
 congr 1
 ·simp
 ·funext j
  unfold upd
  rw [zrX ho hi]
  split <;> rfl
theorem zbi:∀ {π:List Nat} {ins:List qr},zeB ro m π = some ins->YZ (za ro m) π (ins.map yc)/\(∀ i ∈ π,ro.ownB i = true/\i < m.bx.length)
 | [],ins,h=>by simp only [zeB,zvL] at h; subst h; exact ⟨trivial,fun i hi=>by simp at hi⟩
 | i :: π,ins,h=>by
  simp only [zeB] at h
  split at h
  ·rename_i B hB
   obtain ⟨h1,h2⟩:=yp h
   simp only [zvI] at h1
   split at h2
   ·rename_i bs hbs
    cases h2
    obtain ⟨q1,q2⟩:=zbi hbs
    refine ⟨⟨⟨?_,zdV h1.1⟩,q1⟩,fun j hj=>?_⟩
    ·show (yj ro m i).map yc = _
     rw [hB]; rfl
    ·simp at hj
     rcases hj with rfl | hj
     ·exact ⟨h1.2,zcy hB h1.2⟩
     ·exact q2 j hj
   ·cases h2
  ·cases h
theorem zci:∀ {π:List Nat} {outs:List qr} {bx:List (Option qr)} {sl:T (S × Tk)},π.length = outs.length->(∀ i ∈ π,ro.ownB i = true/\i < bx.length) ->
  za ro ⟨sl,zhe bx π outs⟩ = (za ro ⟨sl,bx⟩).setBoxes π (outs.map yc)
 | [],[],bx,sl,_,_=>by simp [zhe,St.setBoxes]
 | [],_ :: _,_,_,h,_=>by simp at h
 | _ :: _,[],_,_,h,_=>by simp at h
 | i :: π,B :: outs,bx,sl,h,ho=>by
  simp only [zhe,List.map_cons,St.setBoxes]
  rw [zci (by simpa using h) (fun j hj=>by
   have:=ho j (by simp [hj])
   exact ⟨this.1,by simpa using this.2⟩),YQ (ho i (by simp)).1 (ho i (by simp)).2]
theorem zbj {m:Mm} (h:Nat.ble ro.nb m.bx.length = true):(za ro m).box (za ro m).nb = none:=by
 show (yj ro m m.bx.length).map yc = none
 unfold yj RO.ownB
 rw [h]
 simp
variable {Kp:St->Prop}
theorem zme {dr:Bool} {f:FuncId} {first args cap:List S} {dst:Option Nat} {k:Mm->Option β} (hK:∀ m',k m' = some r->Kp (za ro m')) (h:zrI X ro dr m f args dst k = some r) :
  zmz P f (zj args) (fun v=>Kp ((za ro m).put dst v none)) ∨ (dr = false/\zjs P f (zj args) (za ro m) dst (Kp)):=by
 unfold zrI at h
 split at h
 ·rename_i hd
  split at h
  ·rename_i o ho
   subst h
   obtain ⟨res,outs,h1,h2,h3,h4,h5,h6⟩:=Qc (ss:=X.known) ho
   obtain ⟨m',e,hk⟩:=zz h1
   have ho:outs = []:=zvO (by simpa using h6)
   subst ho
   refine .inl ⟨h2,?_,toV res,h3,?_⟩
   rotate_left
   ·have:=hK m' hk; rw [<- e] at this; exact this
   have hl:y8 args = []:=by
    cases hq:y8 args with
    | nil=>rfl
    | cons i l =>
     have:=(zam (y8 args) [] (by simp)).2.2.1 i (by rw [hq]; simp)
     rw [hd] at this; simp at this
   exact ZO _ (qh _ hl)
  ·cases h
 ·rename_i hd
  have hdr:dr = false/\Nat.ble ro.nb m.bx.length = true:=by
   cases dr <;> cases hb:Nat.ble ro.nb m.bx.length <;> rw [hb] at h <;> first | (cases h; done) | exact ⟨rfl,rfl⟩
  obtain ⟨hdr,hnb⟩:=hdr
  subst hdr
  ·rw [hnb] at h
   simp only [Bool.not_true,Bool.or_self,cond_false] at h
   split at h
   ·rename_i ins hins
    split at h
    ·rename_i o ho
     subst h
     obtain ⟨res,outs,h1,h2,h3,h4,h5,h6⟩:=Qc (ss:=X.known) ho
     obtain ⟨m',e,hk⟩:=zz h1
     obtain ⟨b1,b2⟩:=zbi hins
     obtain ⟨d1,_,d3,_⟩:=zam (y8 args) [] (by simp)
     obtain ⟨l1,l2⟩:=ZG b1
     have hlen:(QE (y8 args) []).length = outs.length:=by rw [l1,h6]; simp
     refine .inr ⟨rfl,h2,QE (y8 args) [],_,_,_,_,d1,zbj hnb,?_,b1,by simp [h6],?_,zdU _ h4,h3,?_⟩
     ·rw [Qb]
      intro i hi
      have:=zc7 _ i (d3 i hi)
      simp [List.getD,this]
     ·intro B hB
      obtain ⟨B',hB',rfl⟩:=List.mem_map.1 hB
      exact zdV (h5 B' hB')
     ·have:=hK m' hk
      rw [<- e,zci hlen b2] at this
      exact this
    ·cases h
   ·cases h
theorem zcM {B:qr} {dst:Option Nat} {v:S} {k:Mm->Option β} (hK:∀ m',k m' = some r->Kp (za ro m')) (h:zfU ro m B dst v k = some r) :
  (za ro m).box (za ro m).nb = none/\Kp (({ nb:=m.bx.length + 1,sl:=(za ro m).sl,box:=upd (za ro m).box m.bx.length (some (yc B)) }:St).put dst (toV v) none):=by
 unfold zfU at h
 obtain ⟨h1,h2⟩:=yp h
 refine ⟨zbj h1,?_⟩
 obtain ⟨m',e,hk⟩:=zz h2
 have:=hK m' hk
 rw [<- e] at this
 refine (congrArg Kp ?_).mp this
 congr 1
 unfold za
 congr 1
 ·simp
 ·funext j
  unfold upd
  rw [zp6 h1]
  split <;> rfl
theorem zho {e:TypeId} {v:S} {dst:Option Nat} {k:Mm->Option β} (hK:∀ m',k m' = some r->Kp (za ro m')) (h:ztl ro m e v dst k = some r):zqs (za ro m) e (toV v) dst (Kp):=by
 unfold ztl at h
 split at h
 ·rename_i n hn
  obtain ⟨h1,h2⟩:=yp h
  obtain ⟨h3,h4⟩:=zcM hK h2
  refine ⟨?_,by rw [zaj hn]; rfl,h3,?_⟩
  ·exact zh0 h1
  ·have e1:yc (.cells (Ze v) e) = ⟨(toV v).cellsL,e⟩:=by simp [yc,za4 hn]
   rw [e1] at h4
   simp only [toV] at h4
   exact h4
 ·cases h
theorem zhp {c:C}:∀ (n:Nat) (l:List (den c)) (k:Nat),zj (zdS c n l k) = (List.range' k n).map fun k=>enc c (l.getD k (dfl c))
 | 0,_,_=>rfl
 | n + 1,l,k=>by
  simp only [zdS,zj,List.range'_succ,List.map_cons,qJ]
  rw [zhp n l (k + 1)]
theorem zkl {t:TypeId} {x y:S} {dst:Option Nat} {k:Mm->Option β} (hK:∀ m',k m' = some r->Kp (za ro m')) (h:znz X ro m t x y dst k = some r):zas P t (za ro m) (toV x) (toV y) dst (Kp):=by
 unfold znz at h
 split at h
 ·rename_i i off
  split at h
  ·rename_i cs ty n n' hB hs hy
   obtain ⟨h1,h2⟩:=yp h
   simp only [zvI] at h1
   obtain ⟨⟨⟨a1,a2⟩,a3⟩,a4⟩:=h1
   have a2':=zvJ a2
   subst a2'
   have hb:(za ro m).box i = some ⟨zj cs,ty⟩:=by show (yj ro m i).map yc = _; rw [hB]; rfl
   simp only [toV,zas,hb,hs]
   refine ⟨?_,zaj hy,by rw [y9]; exact zvK a3,trivial,?_⟩
   ·exact zh0 a1
   ·have:=hK _ h2
    rw [YQ a4 (zcy hB a4)] at this
    simp only [yc,qY,za3,za2,za4 hy] at this
    exact this
  ·cases h
 ·rename_i i a n ix
  split at h
  ·rename_i cs ty c z hB hc hz
   split at h
   ·rename_i l v hl hv
    obtain ⟨h1,h2⟩:=yp h
    simp only [zvI] at h1
    obtain ⟨⟨⟨⟨⟨a1,a2⟩,a5⟩,a6⟩,a3⟩,a4⟩:=h1
    have hz1:=zvJ a2
    subst hz1
    have hc1:=zvJ a5
    have hle:=zvK a3
    obtain ⟨l',h3,h4⟩:=bind_some h2
    unfold zvp at h3
    split at h3
    case isFalse=>cases h3
    rename_i hin
    cases h3
    have hb:(za ro m).box i = some ⟨zj cs,ty⟩:=by show (yj ro m i).map yc = _; rw [hB]; rfl
    have hseg:=za5 hl
    have hlen:l.length = n:=by
     have:=congrArg List.length hseg
     rw [y9,List.length_map,List.length_take,List.length_drop] at this
     omega
    have hvv:toV y = enc c v:=yy hv
    have hcell:(toV y).cellsL = [toV y]:=by cases y <;> first | rfl | (simp only [toV]; exact zcw _) | (simp only [toV]; split <;> rfl) | exact absurd a6 (by simp [ztV])
    simp only [toV,zas,hb,hz]
    refine ⟨zh0 a1,by rw [hvv,ziG,hc1],by rw [y9]; omega,trivial,?_⟩
    have:=hK _ h4
    rw [YQ a4 (zcy hB a4)] at this
    simp only [yc,qY,za3,za2,zhp,hcell] at this ⊢
    have e:(zj cs).take a++((List.range' 0 n).map fun k=>enc c ((l.set ix.toNat v).getD k (dfl c)))++(zj cs).drop (a + n) = (zj cs).take (a + ix.toNat)++[toV y]++(zj cs).drop (a + ix.toNat + 1):=by
     have hx:ix.toNat < n:=by omega
     have hN:(zj cs).length = cs.length:=y9 cs
     refine List.ext_getElem? fun q=>?_
     rw [QF] at hseg
     have hsg:∀ q,q < n->(zj cs)[a + q]? = some (enc c (l.getD q (dfl c))):=by
      intro q hq
      have:(((zj cs).drop a).take n)[q]? = (l.map (enc c))[q]?:=by rw [hseg]
      rw [List.getElem?_take,if_pos hq,List.getElem?_drop,List.getElem?_map] at this
      rw [this,List.getElem?_eq_getElem (by omega),List.getD_eq_getElem?_getD,List.getElem?_eq_getElem (by omega)]
      rfl
     rw [List.append_assoc,List.append_assoc]
     by_cases q1:q < a
     ·rw [List.getElem?_append_left (by simp; omega),List.getElem?_append_left (by simp; omega),List.getElem?_take,List.getElem?_take,if_pos q1,if_pos (by omega)]
     ·rw [List.getElem?_append_right (by simp; omega),List.length_take,Nat.min_eq_left (by omega)]
      by_cases q2:q < a + n
      ·rw [List.getElem?_append_left (by simp; omega),List.getElem?_map,List.getElem?_range' (by omega)]
       simp only [Option.map_some,Nat.zero_add,Nat.one_mul]
       by_cases q3:q = a + ix.toNat
       ·subst q3
        rw [List.getElem?_append_right (by simp; omega),List.length_take,Nat.min_eq_left (by omega)]
        have:a + ix.toNat - a = ix.toNat:=by omega
        rw [this,List.getD_eq_getElem?_getD,List.getElem?_set_self (by omega),hvv]
        simp
       ·have hs':(l.set ix.toNat v).getD (q - a) (dfl c) = l.getD (q - a) (dfl c):=by
         rw [List.getD_eq_getElem?_getD,List.getD_eq_getElem?_getD,List.getElem?_set_ne (by omega)]
        rw [hs',<- hsg (q - a) (by omega)]
        have:a + (q - a) = q:=by omega
        rw [this]
        by_cases q4:q < a + ix.toNat
        ·rw [List.getElem?_append_left (by simp; omega),List.getElem?_take,if_pos q4]
        ·rw [List.getElem?_append_right (by simp; omega),List.length_take,Nat.min_eq_left (by omega),List.getElem?_append_right (by simp; omega),List.getElem?_drop]
         congr 1
         simp; omega
      ·rw [List.getElem?_append_right (by simp; omega),List.getElem?_drop,List.getElem?_append_right (by simp; omega),List.length_take,Nat.min_eq_left (by omega),List.getElem?_append_right (by simp; omega),List.getElem?_drop]
       congr 1
       simp; omega
    rw [e] at this
    exact this
   ·cases h
  ·cases h
 ·cases h
theorem zuI (t:Nat) (x:S × Tk):(toV (zaY t x).1,(zaY t x).2) = clr t (toV x.1,x.2):=by
 obtain ⟨s,tk⟩:=x
 unfold zaY clr
 cases tk with
 | none=>rfl
 | some p =>
  obtain ⟨t',e⟩:=p
  simp only
  by_cases h:t' = t
  ·subst h; simp
  ·have h1:Nat.beq t' t = false:=zey h
   by_cases h2:t' = t + 3000000
   ·subst h2; simp
   ·have h3:Nat.beq t' (t + 3000000) = false:=zey h2
    rw [h1,h3]; simp [h,h2]
structure QL (mu:Bool) (ro:RO):Prop where
 idem:∀ s,ZC mu (ro.sl s) = ro.sl s
 tok:∀ s t e,(ro.sl s).2 = some (t,e)->tcl t = 2
 flat:ro.fl = true->∀ s,ro.own s = false->(ro.sl s).2 ≠ none ∨ qA (ro.sl s).1 = true
 boxes:ro.fl = true->∀ i B,ro.ownB i = false->ro.bx i = some B->zbx B = true
theorem zrY {t:Nat} (ht:tcl t < 2) {x:S × Tk} (h:∀ t' e,x.2 = some (t',e)->tcl t' = 2):zaY t x = x:=by
 obtain ⟨s,tk⟩:=x
 unfold zaY
 cases tk with
 | none=>rfl
 | some p =>
  obtain ⟨t',e⟩:=p
  have h2:=h t' e rfl
  simp only
  have h1:Nat.beq t' t = false:=zey (fun e=>by subst e; omega)
  have h3:Nat.beq t' (t + 3000000) = false:=zey (fun e=>by unfold tcl at *; omega)
  rw [h1,h3]; rfl
theorem zrZ {mu:Bool} (hro:QL mu ro) {t:Nat} (ht:tcl t < 2) (s:Nat):zV ro ⟨m.sl.mapV (zaY t),m.bx⟩ s = zaY t (zV ro m s):=by
 unfold zV
 cases ro.own s
 ·exact (zrY ht (hro.tok s)).symm
 ·simp only [cond_true]
  rw [T.get_mapV]
  cases m.sl.get s <;> rfl
theorem Yd {mu:Bool} (hro:QL mu ro) {t:Nat} (ht:tcl t < 2):za ro ⟨m.sl.mapV (zaY t),m.bx⟩ = (za ro m).clear t:=by
 unfold za St.clear
 congr 1
 funext s
 rw [zrZ hro ht]
 exact zuI t _
theorem zff {mu:Bool} (hro:QL mu ro) {dr:Bool} {o:Oper} {v:S} {tk:Tk} {k:Mm->Option β} (h:zo2 ro m dr o v tk k = some r) :
  ∃ m',zik dr o tk/\zjc o (za ro m) (toV v) tk = za ro m'/\k m' = some r:=by
 unfold zo2 at h
 unfold zjc zik
 cases hcp:yO o with
 | true =>
  rw [hcp] at h
  obtain ⟨m',q1,q2⟩:=zz h
  exact ⟨m',(fun _ h=>by cases h),q1,q2⟩
 | false =>
  rw [hcp] at h
  simp only [cond_false] at h ⊢
  cases tk with
  | none =>
   obtain ⟨m',q1,q2⟩:=zz h
   exact ⟨m',(fun _ _ _ _ h=>by cases h),q1,q2⟩
  | some te =>
   obtain ⟨t,e⟩:=te
   simp only at h
   obtain ⟨h1,h2⟩:=yp h
   simp only [zvI,Bool.or_eq_true] at h1
   obtain ⟨m',q1,q2⟩:=zz h2
   rw [Yd hro (zh0 h1.1)] at q1
   refine ⟨m',fun hdr _ t' e' ht=>?_,q1,q2⟩
   cases ht
   have h3:=h1.2
   rw [hdr] at h3
   simp only [Bool.not_true,Bool.false_eq_true,false_or] at h3
   refine ⟨h3.1,?_,zh0 h1.1⟩
   have h3:=h3.2
   split at h3
   ·rename_i d hd
    rw [hd,zvJ h3]
   ·cases h3
theorem zmf {α:Type} {b:Nat} {l q y:List α} (h:app b l q = some y):(l.length + q.length) * b <= 140737488355328/\y = l++q:=by
 obtain ⟨h1,h2⟩:=zbB h; cases h2; exact ⟨h1,rfl⟩
theorem zh1 {mu:Bool} (hro:QL mu ro) {ss:Nat} {x:S} {t u:TypeId} {dst:Option Nat} {k:Mm->Option β} (hK:∀ m',k m' = some r->Kp (za ro m')) (h:zj2 (P:=P) ro m ss x t u dst k = some r):QA P (za ro m) ss (toV x) t u dst (Kp):=by
 unfold zj2 at h
 split at h
 ·rename_i c l tk e e' hg ht
  have henv:(za ro m).env ss = .list (l.map (enc c)):=by show toV (zV ro m ss).1 = _; rw [hg]; simp [toV]
  have htok:(za ro m).tok ss = some (tk,e):=by show (zV ro m ss).2 = _; rw [hg]
  unfold QA
  simp only [henv,htok,ht]
  split at h
  ·rename_i sz by' zv hs hb hz
   simp only [hs,hb,QW hz]
   split at h
   ·rename_i zn hzn
    obtain ⟨h1,h2⟩:=yp h
    simp only [zvI,Bool.not_eq_true'] at h1
    obtain ⟨⟨⟨⟨⟨a1,a0⟩,a2⟩,a3⟩,a4⟩,a5⟩:=h1
    have a0':=zh0 a0
    have a1':=zvJ a1
    have a3':=zvJ a3
    have a4':=zvJ a4
    subst a3'
    refine ⟨⟨a1',a0',a2,zaj hzn,fun e=>by subst e; cases a5⟩,by rw [<- a4']; exact yX c l,?_⟩
    have fin:∀ (l2:List (den c)),((app by' l l2).bind fun r=>Zg ro ⟨m.sl.mapV (zaY tk),m.bx⟩ dst (.lst c r) (some (tk,e)) k) = some r ->
      ((l.map (enc c)).length + l2.length) * by' <= 140737488355328/\Kp (((za ro m).clear tk).put dst (.list (l.map (enc c)++l2.map (enc c))) (some (tk,e))):=by
     intro l2 h
     obtain ⟨y,q1,q2⟩:=bind_some h
     obtain ⟨q3,rfl⟩:=zmf q1
     obtain ⟨m',e1,hk⟩:=zz q2
     have:=hK m' hk
     rw [<- e1,Yd hro a0'] at this
     refine ⟨by simpa using q3,?_⟩
     simpa [toV] using this
    split at h2
    ·rename_i c' l2
     split at h2
     ·rename_i hc
      subst hc
      obtain ⟨q1,q2⟩:=fin l2 h2
      simp only [toV]
      exact ⟨by rw [<- a4']; exact yX _ l2,by simpa using q1,q2⟩
     ·cases h2
    ·obtain ⟨q1,q2⟩:=fin [] h2
     simp only [toV,zj]
     exact ⟨fun v hv=>by simp at hv,by simpa using q1,by simpa using q2⟩
    ·rename_i s
     split at h2
     ·rename_i hc
      subst hc
      obtain ⟨q1,q2⟩:=fin (yu s) h2
      simp only [toV]
      refine ⟨a4'.symm,by simpa [yu] using q1,?_⟩
      rwa [zma] at q2
     ·cases h2
    ·cases h2
   ·cases h
  ·cases h
 ·cases h
theorem znR (mu:Bool) (x:S × Tk):ZC mu (ZC mu x) = ZC mu x:=by
 obtain ⟨s,tok⟩:=x
 unfold ZC
 cases tok with
 | none =>
  simp only
  cases h:!mu || qA s
  ·simp [qA]
  ·simp [h]
 | some te =>
  obtain ⟨t,e⟩:=te
  simp only
  cases h2:Nat.beq (tcl t) 2
  ·simp only [cond_false]
   cases h:!mu || qA s
   ·simp [qA]
   ·simp [h]
  ·simp [h2]
theorem zmg (mu:Bool) (x:S × Tk):Wk (pv (ZC mu x)) (pv x):=by
 obtain ⟨s,tok⟩:=x
 unfold ZC
 cases tok with
 | none =>
  simp only
  cases h:!mu || qA s
  ·exact .inr (.inr (by simp [pv,toV]))
  ·exact .inl rfl
 | some te =>
  obtain ⟨t,e⟩:=te
  simp only
  cases h2:Nat.beq (tcl t) 2
  ·simp only [cond_false]
   cases h:!mu || qA s
   ·exact .inr (.inr (by simp [pv,toV]))
   ·exact .inr (.inl rfl)
  ·exact .inl rfl
theorem zmh {mu:Bool} {n:Nat} {x:S × Tk} (h:ltV n (toV x.1) = true):ltV n (toV (ZC mu x).1) = true:=by
 rcases zmg mu x with q | q | q
 ·have:=congrArg Prod.fst q; simp only [pv] at this; rw [this]; exact h
 ·have:=congrArg Prod.fst q; simp only [pv] at this; rw [this]; exact h
 ·have:=congrArg Prod.fst q; simp only [pv] at this; rw [this]; rfl
theorem zp7 {mu:Bool} {x:S × Tk} {t:Nat} {e:TypeId} (h:(ZC mu x).2 = some (t,e)):tcl t = 2:=by
 obtain ⟨s,tok⟩:=x
 unfold ZC at h
 cases tok with
 | none =>
  simp only at h
  cases hq:!mu || qA s <;> rw [hq] at h <;> cases h
 | some te =>
  obtain ⟨t',e'⟩:=te
  simp only at h
  cases h2:Nat.beq (tcl t') 2
  ·rw [h2] at h
   simp only [cond_false] at h
   cases hq:!mu || qA s <;> rw [hq] at h <;> cases h
  ·rw [h2] at h
   cases h
   exact zvJ h2
theorem znS {x:S × Tk}:(ZC true x).2 ≠ none ∨ qA (ZC true x).1 = true:=by
 obtain ⟨s,tok⟩:=x
 unfold ZC
 cases tok with
 | none =>
  simp only [Bool.not_true,Bool.false_or]
  cases h:qA s
  ·exact .inr rfl
  ·exact .inr h
 | some te =>
  obtain ⟨t,e⟩:=te
  simp only [Bool.not_true,Bool.false_or]
  cases h2:Nat.beq (tcl t) 2
  ·simp only [cond_false]
   cases h:qA s
   ·exact .inr rfl
   ·exact .inr h
  ·exact .inl (by simp)
theorem zuJ:∀ s:S,qA s = true->(toV s).flat = true/\True:=by
 intro s
 suffices h:∀ s:S,qA s = true->(toV s).flat = true from fun hs=>⟨h s hs,trivial⟩
 intro s
 induction s using S.rec (motive_2:=fun cs=>zai cs = true->V.flatL (zj cs) = true) with
 | any=>intro; simp [toV,V.flat]
 | un=>intro; simp [toV,V.flat]
 | int=>intro; simp [toV,V.flat]
 | bool=>intro; simp [toV,V.flat]
 | str=>intro; simp [toV,V.flat]
 | agg cs ih=>intro h; simp only [qA] at h; simp only [toV,V.flat]; exact ih h
 | tup cs ih=>intro h; simp only [qA] at h; simp only [toV,V.flat]; exact ih h
 | loc=>intro; simp [toV,V.flat]
 | loco=>intro; simp [toV,V.flat]
 | elt cs off ih=>intro h; simp only [qA,List.isEmpty_iff] at h; subst h; simp [toV,zj,V.flat]
 | gel=>intro h; simp [qA] at h
 | nilp=>intro; simp [toV,V.flat]
 | lst=>intro h; simp [qA] at h
 | rows vs ih=>intro h; simp only [qA,List.isEmpty_iff] at h; subst h; simp [toV,zj,V.flat]
 | fn f a b iha ihb =>
  intro h; simp only [qA,zvI] at h
  simp only [toV,V.flat,zvI]; exact ⟨iha h.1,ihb h.2⟩
 | nilfn=>intro; simp [toV,V.flat]
 | iface t v ih=>intro h; simp only [qA] at h; simp only [toV,V.flat]; exact ih h
 | nilif=>intro; simp [toV,V.flat]
 | mref=>intro; simp [toV,V.flat]
 | nilm=>intro; simp [toV,V.flat]
 | ptr=>intro; simp [toV,V.flat]
 | ivd x=>intro; simp only [toV]; cases x <;> simp [zah,V.flat,V.flatL]
 | nil=>simp [zj,V.flatL]
 | cons c cs ih1 ih2 =>
  rename_i h; simp only [zai,zvI] at h
  simp only [zj,V.flatL,zvI]; exact ⟨ih1 h.1,ih2 h.2⟩
theorem zbk {s:S} (h:qA s = true):(toV s).flat = true:=(zuJ s h).1
theorem zhq:∀ {cs:List S},zai cs = true->V.flatL (zj cs) = true
 | [],_=>by simp [zj,V.flatL]
 | c :: cs,h=>by
  simp only [zai,zvI] at h
  simp only [zj,V.flatL,zvI]; exact ⟨zbk h.1,zhq h.2⟩
theorem zh2 {c:C} (h:Z7 c = true) (x:den c):qA (refl c x) = true:=by
 cases c <;> first | rfl | (simp [Z7] at h)
theorem QX {c:C} (h:Z7 c = true) (x:den c):(enc c x).flat = true:=by
 rw [<- qJ]; exact zbk (zh2 h x)
theorem Qd {c:C} (h:Z7 c = true) (l:List (den c)):V.flatL (l.map (enc c)) = true :=
 zf4 fun v hv=>by obtain ⟨x,_,rfl⟩:=List.mem_map.1 hv; exact QX h x
theorem zo9 {B:qr} (h:zbx B = true):V.flatL (yc B).cells = true:=by
 cases B with
 | cells cs ty=>exact zhq h
 | map mt kc vc l =>
  simp only [zbx,zvI] at h
  refine zf4 fun v hv=>?_
  obtain ⟨x,_,rfl⟩:=List.mem_map.1 hv
  simp [V.flat,V.flatL,QX h.1,QX h.2]
theorem ziW {P:Program} {n':Nat} {o:Oper} {st:St} {K K':St->Prop} (h:Yh P n' o st K') (hw:∀ st',K' st'->∃ sl',(∀ s,Wk (sl' s) (st'.sl s))/\K ⟨st'.nb,sl',st'.box⟩):Yh P n' o st K:=by
 intro F a w pr lam hF hs next Q hn
 refine h F a w pr lam hF hs next Q fun st' a' w' pr' lam' hk hs'=>?_
 obtain ⟨sl',h1,h2⟩:=hw st' hk
 exact hn _ a' w' pr' lam' h2 (zF.weak hs' h1)
theorem zh3 {o:Oper} {t:TypeId} {ss:Nat} {ix:Operand} {k:Mm->Option β} (ho:o.op = .indexAddr t (.tmp ss) ix) (hK:∀ m',k m' = some r->Kp (za ro m')) (h:zj3 (P:=P) ro m t ss (zG ro m ix) o.dst k = some r) :
  QN P o (za ro m) Kp:=by
 intro n' hd _
 unfold zj3 at h
 split at h
 ·rename_i c l tk e kk i hg hi
  split at h
  ·rename_i e' sz he
   obtain ⟨h1,h2⟩:=yp h
   simp only [zvI] at h1
   have a1:=zvJ h1.1
   have a2:=zvJ h1.2
   subst a2
   obtain ⟨e1,e2,rfl⟩:=Yb he
   rcases brS h2 with ⟨hb,h2⟩ | ⟨_,h2⟩
   ·obtain ⟨b1,b2⟩:=zal hb
    obtain ⟨m',q1,q2⟩:=zz h2
    have hs:(za ro m).env ss = .list (l.map (enc c)):=by show toV (zV ro m ss).1 = _; rw [hg]; simp [toV]
    have ht:(za ro m).tok ss = some (tk,e):=by show (zV ro m ss).2 = _; rw [hg]
    refine zkT (k:=kk) (i:=i) ho hs ht a1 (by rw [<- zq,hi]; simp [toV]) (yE e1) e2 (yX c l) b1 (by simpa using b2) hd ?_
    have:=hK m' q2
    rw [<- q1] at this
    simpa [toV] using this
   ·cases h2
  ·cases h
 ·cases h
theorem zh4 {o:Oper} {s:TypeId} {d0 fi:Nat} {k:Mm->Option β} (ho:o.op = .fieldAddr s (.tmp d0) fi) (hK:∀ m',k m' = some r->Kp (za ro m')) (h:zj4 (P:=P) ro m s d0 fi o.dst k = some r) :
  QN P o (za ro m) Kp:=by
 intro n' hd _
 unfold zj4 at h
 split at h
 ·rename_i i sz f u e fo t hg hf
  split at h
  ·rename_i n hn
   obtain ⟨h1,h2⟩:=yp h
   simp only [zvI,Bool.not_eq_true'] at h1
   have a1:n ≠ 0:=fun e=>by subst e; cases h1.1.1
   have a2:=zvK h1.1.2
   have a3:=zvJ h1.2
   obtain ⟨m',q1,q2⟩:=zz h2
   have hu:u - 3000000 + 3000000 = u:=by omega
   have hs:(za ro m).env d0 = .ptr (i.toNat * sz + f):=by show toV (zV ro m d0).1 = _; rw [hg]; simp [toV]
   have ht:(za ro m).tok d0 = some (u - 3000000 + 3000000,e):=by show (zV ro m d0).2 = _; rw [hg,hu]
   refine zkU ho hs ht a3 hf hn a1 hd ?_
   have:=hK m' q2
   rw [<- q1] at this
   rw [hu,Nat.add_assoc]
   simpa only [toV] using this
  ·cases h
 ·cases h
theorem zkm {o:Oper} {t:TypeId} {d0:Nat} {k:Mm->Option β} (ho:o.op = .load t (.tmp d0)) (hK:∀ m',k m' = some r->Kp (za ro m')) (h:znA (P:=P) ro m t d0 o.dst k = some r) :
  QN P o (za ro m) Kp:=by
 intro n' hd _
 unfold znA at h
 split at h
 ·rename_i i sz f u e0 hg
  split at h
  ·rename_i ss _
   split at h
   ·rename_i c l tk e n ag hs hn ha
    obtain ⟨h1,h2⟩:=yp h
    simp only [zvI] at h1
    obtain ⟨⟨⟨a1,a2⟩,a3⟩,a4⟩:=h1
    have a1':=zvJ a1
    have a2':=zvJ a2
    have a3':=zvJ a3
    subst a1'; subst a3'
    have a4':zA P e = some (csz c):=by
     split at a4
     ·rename_i z hz; rw [hz,zvJ a4]
     ·cases a4
    obtain ⟨x,hx,h3⟩:=bind_some h2
    obtain ⟨q1,q2,q3⟩:=zak hx
    have e1:(za ro m).env d0 = .ptr (i.toNat * csz c + f):=by show toV (zV ro m d0).1 = _; rw [hg]; simp [toV]
    have e2:(za ro m).tok d0 = some (tk + 3000000,e0):=by show (zV ro m d0).2 = _; rw [hg]
    have e3:(za ro m).env ss = .list (l.map (enc c)):=by show toV (zV ro m ss).1 = _; rw [hs]; simp [toV]
    have e4:(za ro m).tok ss = some (tk,e):=by show (zV ro m ss).2 = _; rw [hs]
    have e5:(l.map (enc c))[i.toNat]? = some (enc c x):=by rw [List.getElem?_map,q3]; rfl
    have hcl:(enc c x).cellsL = zj (Ze (refl c x)):=(Qt c x).symm
    split at h3
    ·obtain ⟨h4,h5⟩:=yp h3
     obtain ⟨m',p1,p2⟩:=zz h5
     refine zf5 ho e1 e2 a2' e3 e4 a4' (yX c l) e5 hn (.inl ⟨ha,?_,rfl⟩) hd ?_
     ·rw [hcl,y9]; exact zvK h4
     ·have:=hK m' p2
      rw [<- p1] at this
      rw [hcl]
      simpa only [toV,QF] using this
    ·split at h3
     ·rename_i y hy
      obtain ⟨m',p1,p2⟩:=zz h3
      refine zf5 ho e1 e2 a2' e3 e4 a4' (yX c l) e5 hn (.inr ⟨ha,by rw [hcl,Y9,hy]; rfl⟩) hd ?_
      have:=hK m' p2
      rw [<- p1] at this
      exact this
     ·cases h3
   ·cases h
  ·cases h
 ·cases h
theorem zfV (tk:Nat) {c:C} (l':List (den c)) (x:S × Tk):Wk (pv (zaA tk (.lst c l') x)) (qE tk (l'.map (enc c)) (pv x)):=by
 obtain ⟨s,tok⟩:=x
 cases tok with
 | none =>
  unfold zaA qE pv
  simp only
  cases hf:qA s with
  | true=>rw [if_pos (zbk hf)]; exact .inl rfl
  | false=>exact .inr (.inr (by simp [toV]))
 | some te =>
  obtain ⟨t,e⟩:=te
  unfold zaA qE pv
  simp only
  by_cases h1:t = tk
  ·subst h1
   simp only [Nat.beq_refl,cond_true,if_true]
   exact .inl (by simp [toV])
  ·have:Nat.beq t tk = false:=zey h1
   rw [this,if_neg h1]
   simp only [cond_false]
   by_cases h2:tcl t = 2
   ·rw [if_pos h2,h2]; exact .inl rfl
   ·have:Nat.beq (tcl t) 2 = false:=zey h2
    rw [this,if_neg h2]
    simp only [cond_false]
    cases hf:qA s with
    | true=>rw [if_pos (zbk hf)]; exact .inl rfl
    | false =>
     simp only [cond_false]
     by_cases h4:tcl t = 0
     ·rw [h4]
      simp only [Nat.beq_refl,cond_true]
      cases s with
      | lst c' l2 =>
       simp only
       cases hcf:Z7 c' with
       | false=>exact .inr (.inr (by simp [toV]))
       | true =>
        have htv:toV (S.lst c' l2) = .list (l2.map (enc c')):=by simp [toV]
        rw [htv]
        simp only [cond_true]
        have hfl:=Qd hcf l2
        by_cases hq:(V.list (l2.map (enc c'))).flat = true
        ·rw [if_pos hq]; exact .inl rfl
        ·rw [if_neg hq,if_pos trivial,if_pos hfl]; exact .inl rfl
      | _=>exact .inr (.inr (by simp [toV]))
     ·have:Nat.beq (tcl t) 0 = false:=zey h4
      rw [this]
      exact .inr (.inr (by simp [toV]))
theorem zp8 {c:C} {x x':den c} {f n:Nat} {y:S} (hy:zb6 y = some n) (h:zj5 c x f n y = some x') :
  enc c x' = zbD (enc c x) f n (toV y)/\(Go.Eng.isAgg (enc c x) = true ∨ (Go.Eng.isAgg (enc c x) = false/\Go.Eng.isAgg (toV y) = false/\f = 0/\n = 1)):=by
 unfold zj5 at h
 have he:=qJ c x
 split at h
 ·rename_i cs hc
  rw [hc] at he
  simp only [toV] at he
  rw [<- he,<- yy h]
  refine ⟨?_,.inl rfl⟩
  simp only [toV,zbD,qY,za3,za2,za4 hy]
 ·rename_i hne
  obtain ⟨h1,h2⟩:=yp h
  simp only [zvI] at h1
  have a1:=zvJ h1.1
  have a2:=zvJ h1.2
  split at h2
  ·cases h2
  ·rename_i hny
   have hag:Go.Eng.isAgg (enc c x) = false:=by
    rw [<- he]
    cases hr:refl c x with
    | agg cs=>exact absurd hr (hne cs)
    | gel g o=>simp only [toV]; split <;> rfl
    | ivd x=>simp only [toV]; cases x <;> rfl
    | _=>rfl
   have hagy:Go.Eng.isAgg (toV y) = false:=by
    cases y with
    | agg cs=>exact absurd rfl (hny cs)
    | gel g o=>simp only [toV]; split <;> rfl
    | ivd x=>simp only [toV]; cases x <;> rfl
    | _=>rfl
   refine ⟨?_,.inr ⟨hag,hagy,a1,a2⟩⟩
   rw [<- yy h2]
   cases hq:enc c x <;> rw [hq] at hag <;> first | rfl | (simp [Go.Eng.isAgg] at hag)
theorem zh5 {mu:Bool} (hro:QL mu ro) {o:Oper} {t:TypeId} {d0:Nat} {y:Operand} {k:Mm->Option β} (ho:o.op = .store t (.tmp d0) y) (hK:∀ m',k m' = some r->Kp (za ro m')) (h:zj6 (P:=P) ro m t d0 (zG ro m y) o.dst k = some r) :
  QN P o (za ro m) Kp:=by
 intro n' hd _
 unfold zj6 at h
 split at h
 ·rename_i i sz f u e0 hg hdst
  split at h
  ·rename_i ss _
   split at h
   ·rename_i c l tk e n n2 hs hn hy
    obtain ⟨h1,h2⟩:=yp h
    simp only [zvI] at h1
    obtain ⟨⟨⟨⟨⟨⟨⟨⟨⟨a1,a2⟩,a3⟩,a4⟩,a5⟩,a6⟩,a7⟩,a8⟩,a9⟩,a10⟩:=h1
    have a1':=zvJ a1
    have a2':=zvJ a2
    have a3':=zvJ a3
    have a5':=zvJ a5
    have a6':=zvK a6
    subst a1'; subst a3'; subst a5'
    have a4':zA P e = some (csz c):=by
     split at a4
     ·rename_i z hz; rw [hz,zvJ a4]
     ·cases a4
    obtain ⟨x,hx,h3⟩:=bind_some h2
    obtain ⟨q1,q2,q3⟩:=zak hx
    split at h3
    case h_2=>cases h3
    rename_i x' hx'
    obtain ⟨p1,p2⟩:=zp8 hy hx'
    have e1:(za ro m).env d0 = .ptr (i.toNat * csz c + f):=by show toV (zV ro m d0).1 = _; rw [hg]; simp [toV]
    have e2:(za ro m).tok d0 = some (tk + 3000000,e0):=by show (zV ro m d0).2 = _; rw [hg]
    have e3:(za ro m).env ss = .list (l.map (enc c)):=by show toV (zV ro m ss).1 = _; rw [hs]; simp [toV]
    have e4:(za ro m).tok ss = some (tk,e):=by show (zV ro m ss).2 = _; rw [hs]
    have e5:(l.map (enc c))[i.toNat]? = some (enc c x):=by rw [List.getElem?_map,q3]; rfl
    have hbf:∀ j B,(za ro m).box j = some B->V.flatL B.cells = true:=by
     intro j B hB
     change (yj ro m j).map yc = some B at hB
     cases hq:yj ro m j with
     | none=>rw [hq] at hB; cases hB
     | some B' =>
      rw [hq] at hB
      cases hB
      refine zo9 ?_
      unfold yj at hq
      cases hw:ro.ownB j with
      | false=>rw [hw] at hq; exact hro.boxes a9 j B' hw hq
      | true =>
       rw [hw] at hq
       simp only [cond_true] at hq
       cases hq2:m.bx[j]? with
       | none=>rw [hq2] at hq; cases hq
       | some ob =>
        rw [hq2] at hq
        simp only [Option.getD_some] at hq
        subst hq
        exact List.all_eq_true.1 a10 _ (List.mem_of_getElem? hq2)
    have main:=zkV (P:=P) (n':=n') (K:=fun st'=>st' = (za ro m).changed tk ((l.map (enc c)).set i.toNat (zbD (enc c x) f n2 (toV (zG ro m y))))) ho e1 e2 a2' e3 e4 a4' (yX c l) (Qd a8 l) e5 hn
     (zq ro m y).symm (zaj hy) (zbk a7) a6' p2 hbf hdst rfl
    refine ziW main fun st' hst'=>?_
    subst hst'
    refine ⟨(za ro ⟨m.sl.mapV (zaA tk (.lst c (zl7 l i x'))),m.bx⟩).sl,fun s=>?_,?_⟩
    ·have hrows:(l.map (enc c)).set i.toNat (zbD (enc c x) f n2 (toV (zG ro m y))) = (zl7 l i x').map (enc c):=by
      unfold zl7
      rw [List.map_set,p1]
     rw [hrows]
     show Wk (pv (zV ro ⟨m.sl.mapV (zaA tk (.lst c (zl7 l i x'))),m.bx⟩ s)) (qE tk _ (pv (zV ro m s)))
     unfold zV
     cases hw:ro.own s with
     | true =>
      simp only [cond_true]
      rw [T.get_mapV]
      cases m.sl.get s with
      | none =>
       simp only [Option.map_none,Option.getD_none]
       exact .inl (by simp [pv,qE,toV,V.flat])
      | some z =>
       simp only [Option.map_some,Option.getD_some]
       exact zfV tk _ z
     | false =>
      simp only [cond_false]
      rcases YH tk ((zl7 l i x').map (enc c)) (pv (ro.sl s)) with ⟨e7,q7,_⟩ | q7 | ⟨q7,_⟩
      ·exfalso
       have:=hro.tok s tk e7 q7
       omega
      ·have hfl:=hro.flat a9 s hw
       have htk:=hro.tok s
       revert q7 hfl htk
       generalize ro.sl s = z
       intro q7 hfl htk
       obtain ⟨zs,zt⟩:=z
       cases zt with
       | none =>
        rcases hfl with hfl | hfl
        ·exact absurd rfl hfl
        ·have hfz:=zbk hfl
         have:qE tk ((zl7 l i x').map (enc c)) (pv (zs,none)) = pv (zs,none):=by simp [pv,qE,hfz]
         rw [this]; exact .inl rfl
       | some te =>
        obtain ⟨t7,e7⟩:=te
        have h2:=htk t7 e7 rfl
        have hne:t7 ≠ tk:=fun e=>by subst e; omega
        have:qE tk ((zl7 l i x').map (enc c)) (pv (zs,some (t7,e7))) = pv (zs,some (t7,e7)):=by simp [pv,qE,hne,h2]
        rw [this]; exact .inl rfl
      ·rw [q7]; exact .inl rfl
    ·have:=hK _ h3
     exact this
   ·cases h
  ·cases h
 ·cases h
theorem zkn {mu:Bool} (hro:QL mu ro) {o:Oper} {t:TypeId} {xl xc:Operand} {k:Mm->Option β} (ho:o.op = .makeSlice t xl xc) (hK:∀ m',k m' = some r->Kp (za ro m')) (h:znB X ro m t (zG ro m xl) (zG ro m xc) o.dst k = some r) :
  QN P o (za ro m) Kp:=by
 intro n' hd _
 unfold znB at h
 split at h
 ·rename_i kl l kc n e hl hc he
  split at h
  ·rename_i c sz by' zv hcd hsz hby hz
   split at h
   ·rename_i z zn hz1 hz2
    obtain ⟨h1,h2⟩:=yp h
    simp only [zvI] at h1
    have a1:=zvJ h1.1.1
    have a2:=zvJ h1.1.2
    have a3:=zvJ h1.2
    subst a1
    obtain ⟨q,hq,h3⟩:=bind_some h2
    obtain ⟨hq1,hq2⟩:=zbB hq
    cases hq2
    obtain ⟨m',p1,p2⟩:=zz h3
    refine zf6 (tk:=o.dst.getD 0) (kl:=kl) (kc:=kc) ho (by rw [<- zq,hl]; simp only [toV]) (by rw [<- zq,hc]; simp only [toV]) (yE he) hsz hby (QW hz) (zaj hz2) hq1.1 hq1.2.1 hq1.2.2.1 hq1.2.2.2 a3 hd ?_
    have:=hK m' p2
    rw [<- p1,Yd hro (by omega)] at this
    simpa [toV,yy hz1] using this
   ·cases h
  ·cases h
 ·cases h
theorem zeH {γ:Type} {A B:Option γ} {r:γ} (h:zhf A B = some r):A = some r/\B = some r:=by
 unfold zhf at h
 split at h
 ·rename_i he
  exact ⟨he.trans h,h⟩
 ·cases h
theorem ziX {α γ:Type} {l:List α} {A B:Option γ} {r:γ} (h:ztm l A B = some r):B = some r/\(l = []->A = some r):=by
 unfold ztm at h
 split at h
 ·exact ⟨(zeH h).2,fun _=>(zeH h).1⟩
 ·exact ⟨h,fun he=>by cases he⟩
theorem zko {o:Oper} {op:BinOp} {t u:TypeId} {x:Operand} {k:Mm->Option β} (ho:o.op = .binOp op t x (.const (.slice none 0 0)) u) (hK:∀ m',k m' = some r->Kp (za ro m'))
  (h:znC (P:=P) ro m op t (zG ro m x) o.dst k = some (some r)):QN P o (za ro m) Kp:=by
 intro n' hd _
 unfold znC at h
 split at h
 ·rename_i c l e hx he
  simp only [zvL] at h
  obtain ⟨h1,h2⟩:=ziX h
  refine zhn (rows:=l.map (enc c)) ho (.inl ⟨rfl,rfl⟩) (yE he) (by rw [<- zq,hx]; simp only [toV]) hd fun b hb=>?_
  cases b with
  | false =>
   obtain ⟨m',p1,p2⟩:=zz h1
   rw [show V.bool false = toV (.bool false) from by simp only [toV],p1]
   exact hK m' p2
  | true =>
   have hl:l = []:=by
    apply Classical.byContradiction
    intro hne
    have:=hb (by simpa using hne)
    cases this
   obtain ⟨m',p1,p2⟩:=zz (h2 hl)
   rw [show V.bool true = toV (.bool true) from by simp only [toV],p1]
   exact hK m' p2
 ·rename_i c l e hx he
  simp only [zvL] at h
  obtain ⟨h1,h2⟩:=ziX h
  refine zhn (rows:=l.map (enc c)) ho (.inr ⟨rfl,rfl⟩) (yE he) (by rw [<- zq,hx]; simp only [toV]) hd fun b hb=>?_
  cases b with
  | true =>
   obtain ⟨m',p1,p2⟩:=zz h1
   rw [show V.bool true = toV (.bool true) from by simp only [toV],p1]
   exact hK m' p2
  | false =>
   have hl:l = []:=by
    apply Classical.byContradiction
    intro hne
    have:=hb (by simpa using hne)
    cases this
   obtain ⟨m',p1,p2⟩:=zz (h2 hl)
   rw [show V.bool false = toV (.bool false) from by simp only [toV],p1]
   exact hK m' p2
 ·cases h
theorem zdY:∀ {ss:List (zbg P)} {f:FuncId} {Q:zbg P},zfT ss f = some Q->Q.f = f
 | [],_,_,h=>by cases h
 | s :: ss,f,Q,h=>by
  simp only [zfT] at h
  cases hb:Nat.beq s.f f with
  | true=>rw [hb] at h; cases h; exact zvJ hb
  | false=>rw [hb] at h; exact zdY h
theorem znT {mu:Bool} (hro:QL mu ro) {o:Oper} {Q:zbg P} {fo:Operand} {args:Array Operand} {tys:Array TypeId} {first cap:List S} {k:Mm->Option β} (ho:o.op = .call { callee:=.value fo,args:=args,argTypes:=tys })
  (hfo:zG ro m fo = .fn (.func Q.f) first cap) (hK:∀ m',k m' = some r->Kp (za ro m')) (h:zuB ro m Q (first++args.toList.map (zG ro m)++cap) o.dst k = some r):QN P o (za ro m) Kp:=by
 intro n' hd _
 unfold zuB at h
 obtain ⟨h1,h2⟩:=yp h
 simp only [zvI,List.isEmpty_iff] at h1
 obtain ⟨a1,a2⟩:=h1
 have a2':=zvJ a2
 split at h2
 ·rename_i q hq
  obtain ⟨l,hl,h3⟩:=bind_some h2
  subst hl
  obtain ⟨hgo,hF⟩:=Q.sound _ l hq
  obtain ⟨m',p1,p2⟩:=zz h3
  have ea:zj first++args.toList.map (za ro m).eval++zj cap = zj (first++args.toList.map (zG ro m)++cap):=by rw [qY,qY,zcd]
  refine Zu (fr:=some (0,Q.e)) (tk:=some (o.dst.getD 0,Q.e)) (zqO (first:=zj first) (cap:=zj cap) ho (by rw [<- zq,hfo]; simp only [toV]) hgo (by rw [ea]; exact ZO _ (qh _ a1)) (by rw [ea]; exact hF)) (fun t e he=>by cases he; rw [a2']) hd ?_
  have:=hK m' p2
  rw [<- p1,Yd hro (by omega)] at this
  simpa [toV,St.fresh] using this
 ·cases h2
theorem zfW {mu:Bool} (hro:QL mu ro) (hf:ro.fl = true) {tk:Nat} (htk:tcl tk = 0) (rows:List V) {s:Nat} (hw:ro.own s = false):(∀ e,(ro.sl s).2 ≠ some (tk,e))/\Wk (pv (ro.sl s)) (qE tk rows (pv (ro.sl s))):=by
 have hfl:=hro.flat hf s hw
 have ht:=hro.tok s
 revert hfl ht
 generalize ro.sl s = z
 intro hfl ht
 obtain ⟨zs,zt⟩:=z
 cases zt with
 | none =>
  refine ⟨fun e h=>(by cases h),?_⟩
  rcases hfl with hfl | hfl
  ·exact absurd rfl hfl
  ·have hfz:=zbk hfl
   have:qE tk rows (pv (zs,none)) = pv (zs,none):=by simp [pv,qE,hfz]
   rw [this]; exact .inl rfl
 | some te =>
  obtain ⟨t7,e7⟩:=te
  have h2:=ht t7 e7 rfl
  have hne:t7 ≠ tk:=fun e=>by subst e; omega
  refine ⟨fun e h=>by cases h; exact hne rfl,?_⟩
  have:qE tk rows (pv (zs,some (t7,e7))) = pv (zs,some (t7,e7)):=by simp [pv,qE,hne,h2]
  rw [this]; exact .inl rfl
theorem zhr {mu:Bool} (hro:QL mu ro) (hf:ro.fl = true) (hb:m.bx.all (fun B=>match B with | some B=>zbx B | none=>true) = true):∀ j B,(za ro m).box j = some B->V.flatL B.cells = true:=by
 intro j B hB
 change (yj ro m j).map yc = some B at hB
 cases hq:yj ro m j with
 | none=>rw [hq] at hB; cases hB
 | some B' =>
  rw [hq] at hB
  cases hB
  refine zo9 ?_
  unfold yj at hq
  cases hw:ro.ownB j with
  | false=>rw [hw] at hq; exact hro.boxes hf j B' hw hq
  | true =>
   rw [hw] at hq
   simp only [cond_true] at hq
   cases hq2:m.bx[j]? with
   | none=>rw [hq2] at hq; cases hq
   | some ob =>
    rw [hq2] at hq
    simp only [Option.getD_some] at hq
    subst hq
    exact List.all_eq_true.1 hb _ (List.mem_of_getElem? hq2)
theorem zfg {mu:Bool} (hro:QL mu ro) {o:Oper} {Q:zcL P} {ss:Nat} {fo:Operand} {ys:List Operand} {args:Array Operand} {tys:Array TypeId} {k:Mm->Option β} (ho:o.op = .call { callee:=.value fo,args:=args,argTypes:=tys }) (ha:args.toList = .tmp ss :: ys)
  (hfo:zG ro m fo = .fn (.func Q.f) [] []) (hy:match Q.g with | none=>ys = [] | some g=>∃ y,ys = [y]/\zG ro m y = .fn (.func g) [] []) (hK:∀ m',k m' = some r->Kp (za ro m')) (h:zo3 ro m Q ss o.dst k = some r):QN P o (za ro m) Kp:=by
 intro n' hd _
 unfold zo3 at h
 split at h
 ·rename_i c l tk e hs
  split at h
  ·rename_i hc
   subst hc
   obtain ⟨h1,h2⟩:=yp h
   simp only [zvI] at h1
   obtain ⟨⟨⟨a1,a2⟩,a4⟩,a5⟩:=h1
   have a1':tcl tk = 0:=zvJ a1
   have a2':zA P e = some (csz Q.c):=by
    split at a2
    ·rename_i z hz; rw [hz,zvJ a2]
    ·cases a2
   obtain ⟨x,hx,h3⟩:=bind_some h2
   unfold zvo at hx
   split at hx
   case isFalse=>cases hx
   rename_i hlt
   simp only [zvL] at hx
   subst hx
   have e1:(za ro m).env ss = .list (l.map (enc Q.c)):=by show toV (zV ro m ss).1 = _; rw [hs]; simp [toV]
   have e2:(za ro m).tok ss = some (tk,e):=by show (zV ro m ss).2 = _; rw [hs]
   have ea:args = (Operand.tmp ss :: ys).toArray:=by obtain ⟨l⟩:=args; simpa using ha
   have ef:(za ro m).eval fo = .fn (.func Q.f) [] []:=by rw [<- zq,hfo]; simp [toV,zj]
   have eg:match Q.g with | none=>ys = [] | some g=>∃ y,ys = [y]/\(za ro m).eval y = .fn (.func g) [] []:=by
    split at hy
    ·exact hy
    ·obtain ⟨y,h1,h2⟩:=hy
     exact ⟨y,h1,by rw [<- zq,h2]; simp [toV,zj]⟩
   have main:=zp5 (P:=P) (n':=n') (K:=fun st'=>st' = ((za ro m).changed tk ((Q.srt l).map (enc Q.c))).put o.dst (.tup []) none) ho ea ef eg Q.go e1 e2 a1' a2' (yX Q.c l) (zhr hro a4 a5) Q.sound hlt hd rfl
   refine ziW main fun st' hst'=>?_
   subst hst'
   obtain ⟨m',q1,q2⟩:=zz h3
   have hp:=hK m' q2
   rw [<- q1] at hp
   have htup:toV (S.tup []) = .tup []:=by simp [toV,zj]
   rw [htup] at hp
   have hwk:∀ s,Wk ((za ro ⟨m.sl.mapV (zaA tk (.lst Q.c (Q.srt l))),m.bx⟩).sl s) (((za ro m).changed tk ((Q.srt l).map (enc Q.c))).sl s):=by
    intro s
    show Wk (pv (zV ro _ s)) (qE tk _ (pv (zV ro m s)))
    unfold zV
    cases hw:ro.own s with
    | true =>
     simp only [cond_true]
     rw [T.get_mapV]
     cases m.sl.get s with
     | none =>
      simp only [Option.map_none,Option.getD_none]
      exact .inl (by simp [pv,qE,toV,V.flat])
     | some z =>
      simp only [Option.map_some,Option.getD_some]
      exact zfV tk _ z
    | false =>
     simp only [cond_false]
     exact (zfW hro a4 a1' ((Q.srt l).map (enc Q.c)) hw).2
   generalize hm2:(⟨m.sl.mapV (zaA tk (.lst Q.c (Q.srt l))),m.bx⟩:Mm) = m2 at hp hwk
   have hnb:m2.bx = m.bx:=by rw [<- hm2]
   refine ⟨((za ro m2).put o.dst (.tup []) none).sl,fun s=>?_,?_⟩
   ·cases hdst:o.dst with
    | none=>exact hwk s
    | some d =>
     show Wk (if s = d then _ else _) (if s = d then _ else _)
     by_cases hsd:s = d
     ·rw [if_pos hsd,if_pos hsd]; exact .inl rfl
     ·rw [if_neg hsd,if_neg hsd]; exact hwk s
   ·refine (congrArg Kp ?_).mp hp
    have hb:(za ro m2).box = (za ro m).box:=by
     funext i
     show (yj ro m2 i).map yc = (yj ro m i).map yc
     unfold yj
     rw [hnb]
    have hn:(za ro m2).nb = (za ro m).nb:=by show m2.bx.length = m.bx.length; rw [hnb]
    cases hdst:o.dst with
    | none =>
     show za ro m2 = ⟨(za ro m).nb,(za ro m2).sl,(za ro m).box⟩
     rw [<- hb,<- hn]
    | some d =>
     show (za ro m2).put (some d) (.tup []) none = ⟨(za ro m).nb,((za ro m2).put (some d) (.tup []) none).sl,(za ro m).box⟩
     rw [<- hb,<- hn]
     rfl
  ·cases h
 ·cases h
theorem zdZ:∀ {ss:List (zl6 P)} {f:FuncId} {Q:zl6 P},zfS ss f = some Q->Q.f = f
 | [],_,_,h=>by cases h
 | s :: ss,f,Q,h=>by
  simp only [zfS] at h
  cases hb:Nat.beq s.f f with
  | true=>rw [hb] at h; cases h; exact zvJ hb
  | false=>rw [hb] at h; exact zdZ h
theorem zpa (tk:Nat) (x:S × Tk):Wk (pv (ZM tk x)) (Qi tk (pv x)):=by
 obtain ⟨s,t⟩:=x
 have hk:=zfV tk ([]:List (den .i64)) (s,t)
 unfold ZM Qi
 cases t with
 | none=>exact hk
 | some te =>
  obtain ⟨t,e⟩:=te
  simp only [pv] at hk ⊢
  by_cases h:t = tk
  ·subst h
   simp only [Nat.beq_refl,cond_true,if_true]
   exact .inl (by simp [toV])
  ·have:Nat.beq t tk = false:=by
    cases hq:Nat.beq t tk with
    | true=>exact absurd (zvJ hq) h
    | false=>rfl
   rw [this]
   simp only [cond_false,if_neg h]
   exact hk
theorem zmi:∀ (l:List S) (i:Nat) (x:S),zj (l.set i x) = (zj l).set i (toV x)
 | [],i,x=>by simp [zj]
 | y :: l,0,x=>by simp [zj]
 | y :: l,i + 1,x=>by simp [zj,zmi l i x]
theorem zd0 {mu:Bool} (hro:QL mu ro) (a4:ro.fl = true) {tk:Nat} (a1':tcl tk = 0):∀ s,Wk ((za ro ⟨m.sl.mapV (ZM tk),m.bx⟩).sl s) (((za ro m).dropped tk).sl s):=by
 intro s
 show Wk (pv (zV ro _ s)) (Qi tk (pv (zV ro m s)))
 unfold zV
 cases hw:ro.own s with
 | true =>
  simp only [cond_true]
  rw [T.get_mapV]
  cases m.sl.get s with
  | none =>
   simp only [Option.map_none,Option.getD_none]
   exact .inl (by simp [pv,Qi,qE,toV,V.flat])
  | some z =>
   simp only [Option.map_some,Option.getD_some]
   exact zpa tk z
 | false =>
  simp only [cond_false]
  obtain ⟨k1,k2⟩:=zfW hro a4 a1' [] hw
  have:Qi tk (pv (ro.sl s)) = qE tk [] (pv (ro.sl s)):=by
   unfold Qi
   split
   ·rename_i t e' he
    rw [if_neg]
    rintro rfl
    exact k1 e' he
   ·rfl
  rw [this]
  exact k2
theorem znU {mu:Bool} (hro:QL mu ro) {o:Oper} {Q:zl6 P} {fo:Operand} {args:Array Operand} {tys:Array TypeId} {cap:List S} {k:Mm->Option β} (ho:o.op = .call { callee:=.value fo,args:=args,argTypes:=tys })
  (hfo:zG ro m fo = .fn (.func Q.f) [] cap) (hK:∀ m',k m' = some r->Kp (za ro m')) (h:zuC ro m Q args.toList cap o.dst k = some r):QN P o (za ro m) Kp:=by
 intro n' hd _
 unfold zuC at h
 split at h
 case h_2=>cases h
 rename_i ss hp
 split at h
 case h_2=>cases h
 rename_i c l tk e hs
 obtain ⟨h1,h2⟩:=yp h
 simp only [zvI] at h1
 obtain ⟨⟨⟨⟨⟨⟨a1,a2⟩,a3⟩,a4⟩,a5⟩,a6⟩,a7⟩:=h1
 have a1':tcl tk = 0:=zvJ a1
 have a2':e = Q.e:=zvJ a2
 have a3':tcl (o.dst.getD 0) = 0:=zvJ a3
 subst a2'
 split at h2
 case h_2=>cases h2
 rename_i ins hins
 split at h2
 case h_2=>cases h2
 rename_i q hq
 subst h2
 obtain ⟨lr,outs,hk,hgo,hF,hno,hlen⟩:=Q.sound _ _ _ _ hq
 obtain ⟨b1,b2⟩:=zbi hins
 generalize hA:zct ro m tk args.toList Q.p (.lst c l) cap = A at hins hq hk hF b1 b2
 obtain ⟨d1,_,d3,_⟩:=zam (y8 A) [] (by simp)
 obtain ⟨l1,l2⟩:=ZG b1
 have hlen':(QE (y8 A) []).length = outs.length:=by rw [l1,hlen]; simp
 obtain ⟨m',p1,p2⟩:=zz hk
 have hKm:=hK m' p2
 have hwk:∀ s,Wk ((za ro ⟨m.sl.mapV (ZM tk),m.bx⟩).sl s) (((za ro m).dropped tk).sl s):=by
  intro s
  show Wk (pv (zV ro _ s)) (Qi tk (pv (zV ro m s)))
  unfold zV
  cases hw:ro.own s with
  | true =>
   simp only [cond_true]
   rw [T.get_mapV]
   cases m.sl.get s with
   | none =>
    simp only [Option.map_none,Option.getD_none]
    exact .inl (by simp [pv,Qi,qE,toV,V.flat])
   | some z =>
    simp only [Option.map_some,Option.getD_some]
    exact zpa tk z
  | false =>
   simp only [cond_false]
   obtain ⟨k1,k2⟩:=zfW hro a4 a1' [] hw
   have:Qi tk (pv (ro.sl s)) = qE tk [] (pv (ro.sl s)):=by
    unfold Qi
    split
    ·rename_i t e' he
     rw [if_neg]
     rintro rfl
     exact k1 e' he
    ·rfl
   rw [this]
   exact k2
 have hst1:za ro ⟨m.sl.mapV (ZM tk),m.bx⟩ = ⟨(za ro m).nb,(za ro ⟨m.sl.mapV (ZM tk),m.bx⟩).sl,(za ro m).box⟩:=rfl
 refine zmL (st:=za ro m) (tk:=tk) (ss:=ss) (rows:=l.map (enc c)) (cap:=zj cap) (st1:=za ro ⟨m.sl.mapV (ZM tk),m.bx⟩) (π:=QE (y8 A) []) (args':=zj (zaZ (zeA (QE (y8 A) [])) A)) (ins:=ins.map yc) (outs:=outs.map yc) (tn:=o.dst.getD 0)
  ho (by rw [<- zq,hfo]; simp [toV,zj]) hd hgo hp (by show toV (zV ro m ss).1 = _; rw [hs]; simp only [toV]) (by show (zV ro m ss).2 = _; rw [hs]) a1' (zhr hro a4 a5) a3' (fun h=>by rw [hst1]; exact zF.weak h hwk) ?_ (fun _=>rfl) d1 (zbj a7) ?_ b1 (by simp [hlen]) ?_ ?_ (zhq a6) hF ?_
 ·intro s t e' hq
  rcases hwk s with w1 | w1 | w1
  ·show (((za ro m).dropped tk).sl s).2 = _
   rw [<- w1]; exact hq
  ·have:((za ro ⟨m.sl.mapV (ZM tk),m.bx⟩).sl s).2 = some (t,e'):=hq
   rw [w1] at this; cases this
  ·have:((za ro ⟨m.sl.mapV (ZM tk),m.bx⟩).sl s).2 = some (t,e'):=hq
   rw [w1] at this; cases this
 ·rw [Qb]
  ·rw [<- hA]
   unfold zct
   rw [qY]
   congr 1
   rw [zmi,zcd]
   simp only [toV]
  ·intro i hi
   have:=zc7 _ i (d3 i hi)
   simp [List.getD,this]
 ·intro B hB
  obtain ⟨B',hB',rfl⟩:=List.mem_map.1 hB
  exact zdV (hno B' hB')
 ·simp only [V.noLoc]; exact yR (YP Q.c) lr
 ·rw [<- p1] at hKm
  have e1:=Yd (ro:=ro) (m:=⟨m.sl.mapV (ZM tk),zhe m.bx (QE (y8 A) []) outs⟩) hro (t:=o.dst.getD 0) (by omega)
  rw [e1,zci hlen' b2] at hKm
  simpa [toV] using hKm
theorem znV {mu:Bool} (hro:QL mu ro) {o:Oper} {t:TypeId} {ss:Nat} {y:Operand} {k:Mm->Option β} (ho:o.op = .slice t (.tmp ss) none (some y) none) (hK:∀ m',k m' = some r->Kp (za ro m')) (h:zuD (P:=P) ro m t ss (zG ro m y) o.dst k = some r) :
  QN P o (za ro m) Kp:=by
 intro n' hd _
 unfold zuD at h
 split at h
 case h_2=>cases h
 rename_i c l tk e ky i hs hy
 split at h
 case h_2=>cases h
 rename_i e' sz he
 obtain ⟨h1,h2⟩:=yp h
 simp only [zvI] at h1
 obtain ⟨⟨⟨⟨⟨a1,a2⟩,a3⟩,a4⟩,a5⟩,a6⟩:=h1
 have a1':=zvJ a1
 have a2':tcl tk = 0:=zvJ a2
 have a4':tcl (o.dst.getD 0) = 0:=zvJ a4
 subst a1'
 obtain ⟨e1,e2,rfl⟩:=Yb he
 obtain ⟨q,hq,h3⟩:=bind_some h2
 obtain ⟨⟨_,q1,q2⟩,rfl⟩:=Qa hq
 obtain ⟨m',p1,p2⟩:=zz h3
 have hKm:=hK m' p2
 have hwk:=zd0 (m:=m) hro a5 a2'
 have hst1:za ro ⟨m.sl.mapV (ZM tk),m.bx⟩ = ⟨(za ro m).nb,(za ro ⟨m.sl.mapV (ZM tk),m.bx⟩).sl,(za ro m).box⟩:=rfl
 refine zqI (st:=za ro m) (tk:=tk) (ss:=ss) (rows:=l.map (enc c)) (st1:=za ro ⟨m.sl.mapV (ZM tk),m.bx⟩) (tn:=o.dst.getD 0) (k:=ky) (i:=i) ho (by show toV (zV ro m ss).1 = _; rw [hs]; simp only [toV]) (by show (zV ro m ss).2 = _; rw [hs]) a2'
  (by rw [<- zq,hy]; simp only [toV]) (yE e1) e2 (yX c l) (Qd a3 l) q1 (by rw [List.length_map]; exact q2) (zhr hro a5 a6) a4' (fun h=>by rw [hst1]; exact zF.weak h hwk) ?_ (fun _=>rfl) hd ?_
 ·intro s t' e' hq'
  rcases hwk s with w1 | w1 | w1
  ·show (((za ro m).dropped tk).sl s).2 = _
   rw [<- w1]; exact hq'
  ·have:((za ro ⟨m.sl.mapV (ZM tk),m.bx⟩).sl s).2 = some (t',e'):=hq'
   rw [w1] at this; cases this
  ·have:((za ro ⟨m.sl.mapV (ZM tk),m.bx⟩).sl s).2 = some (t',e'):=hq'
   rw [w1] at this; cases this
 ·rw [<- p1] at hKm
  have e3:=Yd (ro:=ro) (m:=⟨m.sl.mapV (ZM tk),m.bx⟩) hro (t:=o.dst.getD 0) (by omega)
  rw [e3] at hKm
  have h0:(0:Int).toNat = 0:=rfl
  simpa [toV,List.map_take,h0] using hKm
theorem zmj {mu:Bool} (hro:QL mu ro) {o:Oper} {s t:TypeId} {ss:Nat} {k:Mm->Option β} (ho:o.op = .convert s t (.tmp ss)) (hK:∀ m',k m' = some r->Kp (za ro m')) (h:zrK (P:=P) ro m s t ss o.dst k = some (some r)) :
  QN P o (za ro m) Kp:=by
 intro n' hd _
 unfold zrK at h
 split at h
 case h_2=>cases h
 rename_i l0 tk e hs
 have a02:=(yp h).1
 have hh:=(yp h).2
 clear h
 simp only [zvI] at a02
 obtain ⟨a2,a0⟩:=a02
 split at hh
 case h_2=>cases hh
 rename_i x l
 simp only [zvL] at hh
 split at hh
 case h_2=>cases hh
 rename_i e' sz he hbt
 obtain ⟨h1,h2⟩:=yp hh
 simp only [zvI] at h1
 obtain ⟨⟨a1,a5⟩,a6⟩:=h1
 have a0':=zvJ a0
 have a1':=zvJ a1
 have a2':tcl tk = 0:=zvJ a2
 subst a0'
 subst a1'
 obtain ⟨e1,e2,rfl⟩:=Yb he
 obtain ⟨m',p1,p2⟩:=zz h2
 have hKm:=hK m' p2
 have hwk:=zd0 (m:=m) hro a5 a2'
 have hst1:za ro ⟨m.sl.mapV (ZM tk),m.bx⟩ = ⟨(za ro m).nb,(za ro ⟨m.sl.mapV (ZM tk),m.bx⟩).sl,(za ro m).box⟩:=rfl
 refine zpk (st:=za ro m) (tk:=tk) (ss:=ss) (rows:=(x :: l).map (enc .u8)) (st1:=za ro ⟨m.sl.mapV (ZM tk),m.bx⟩) ho (by show toV (zV ro m ss).1 = _; rw [hs]; simp only [toV]) (by show (zV ro m ss).2 = _; rw [hs]) a2'
  (yE e1) (Q4 hbt) e2 (yX .u8 (x :: l)) (Qd (by rfl) (x :: l)) (by simp) (zhr hro a5 a6) (fun h=>by rw [hst1]; exact zF.weak h hwk) ?_ (fun _=>rfl) hd ?_
 ·intro s t' e' hq'
  rcases hwk s with w1 | w1 | w1
  ·show (((za ro m).dropped tk).sl s).2 = _
   rw [<- w1]; exact hq'
  ·have:((za ro ⟨m.sl.mapV (ZM tk),m.bx⟩).sl s).2 = some (t',e'):=hq'
   rw [w1] at this; cases this
  ·have:((za ro ⟨m.sl.mapV (ZM tk),m.bx⟩).sl s).2 = some (t',e'):=hq'
   rw [w1] at this; cases this
 ·rw [<- p1] at hKm
  simpa only [toV] using hKm
theorem zh6 {mu:Bool} (hro:QL mu ro) {o:Oper} {ss:Nat} {x:Operand} {t u:TypeId} {k:Mm->Option β} (ho:o.op = .call { callee:=.builtin .append,args:=#[.tmp ss,x],argTypes:=#[t,u] }) (hK:∀ m',k m' = some r->Kp (za ro m'))
  (h:zj7 (P:=P) ro m ss (zG ro m x) t u o.dst k = some r):QN P o (za ro m) Kp:=by
 intro n' hd _
 unfold zj7 at h
 split at h
 case h_2=>cases h
 rename_i c l tk e e' c' y l2 hg ht hx
 split at h
 case h_2=>cases h
 rename_i sz by' zv hs hb hz
 split at h
 case h_2=>cases h
 rename_i zn hzn
 obtain ⟨h1,h2⟩:=yp h
 simp only [zvI,Bool.not_eq_true'] at h1
 obtain ⟨⟨⟨⟨⟨⟨a1,a0⟩,a2⟩,a3⟩,a4⟩,a5⟩,a6⟩:=h1
 have a0':=zh0 a0
 have a1':=zvJ a1
 have a3':=zvJ a3
 have a4':=zvJ a4
 have a6':tcl (o.dst.getD 0) = 0:=zvJ a6
 subst a1'
 subst a3'
 split at h2
 case isFalse=>cases h2
 rename_i hc
 subst hc
 obtain ⟨q,q1,q2⟩:=bind_some h2
 obtain ⟨q3,rfl⟩:=zmf q1
 obtain ⟨m',e1,hk⟩:=zz q2
 have hKm:=hK m' hk
 have hb0:by' ≠ 0:=fun e=>by subst e; cases a5
 have henv:(za ro m).env ss = .list (l.map (enc c')):=by show toV (zV ro m ss).1 = _; rw [hg]; simp [toV]
 have htok:(za ro m).tok ss = some (tk,e):=by show (zV ro m ss).2 = _; rw [hg]
 have hlen:((l.map (enc c')).length + ((y :: l2).map (enc c')).length) * by' <= 140737488355328:=by simpa using q3
 have hmax:(l.map (enc c')).length + ((y :: l2).map (enc c')).length <= maxLen:=by
  have:((l.map (enc c')).length + ((y :: l2).map (enc c')).length) * 1 <= ((l.map (enc c')).length + ((y :: l2).map (enc c')).length) * by':=Nat.mul_le_mul_left _ (Nat.one_le_iff_ne_zero.2 hb0)
  simp only [maxLen]; omega
 refine zfr (st:=za ro m) (tk:=tk) (ss:=ss) (rows:=l.map (enc c')) (rows2:=(y :: l2).map (enc c')) (tn:=o.dst.getD 0) ho henv htok a0' (yE ht) a2 hs hb (QW hz) (zaj hzn) (by rw [<- a4']; exact yX c' l)
  (fun w pr lam xv hxv=>Src.list (by rw [<- zq,hx] at hxv; simpa [toV] using hxv) (by rw [<- a4']; exact yX c' (y :: l2))) hlen hmax a6' (by simp) hd ?_
 rw [<- e1] at hKm
 have e3:=Yd (ro:=ro) (m:=⟨m.sl.mapV (zaY tk),m.bx⟩) hro (t:=o.dst.getD 0) (by omega)
 have e4:=Yd (ro:=ro) (m:=m) hro (t:=tk) a0'
 rw [e3,e4] at hKm
 simpa [toV] using hKm
theorem zmk {mu:Bool} (hro:QL mu ro) {o2 o3:Oper} {k:Mm->Option β} (hK:∀ m',k m' = some r->Kp (za ro m')) (h:zrL (P:=P) ro o2 o3 m k = some r):zqJ P o2 o3 (za ro m) Kp:=by
 unfold zrL at h
 split at h
 case h_2=>cases h
 rename_i c t ss y g2 g3 hd3 hd2 ho2
 obtain ⟨hcl,h⟩:=yp h
 split at h
 case h_2=>cases h
 rename_i cc l tk e ky i hs hy
 split at h
 case h_2=>cases h
 rename_i e' sz zv he hz
 split at h
 case h_2=>cases h
 rename_i z zn hzu hzc
 obtain ⟨h1,h2⟩:=yp h
 simp only [zvI] at h1
 obtain ⟨⟨⟨⟨⟨a1,a2⟩,a3⟩,a4⟩,a5⟩,a6⟩:=h1
 have a1':=zvJ a1
 have a2':tcl tk = 0:=zvJ a2
 have a3':=zvJ a3
 subst a1' a3'
 obtain ⟨e1,e2,e3⟩:=Yb he
 obtain ⟨q,hq,h3⟩:=bind_some h2
 unfold zvq at hq
 split at hq
 case isFalse=>cases hq
 rename_i hi
 cases hq
 obtain ⟨m',p1,p2⟩:=zz h3
 have hKm:=hK m' p2
 rw [<- p1] at hKm
 have hzV:=yy hzu
 refine ⟨⟨g2,g3⟩,?_⟩
 have s1:(za ro m).env ss = .list (l.map (enc cc)):=by show toV (zV ro m ss).1 = _; rw [hs]; simp only [toV]
 have s2:(za ro m).tok ss = some (tk,e):=by show (zV ro m ss).2 = _; rw [hs]
 have s3:(za ro m).eval y = .int ky i:=by rw [<- zq,hy]; simp only [toV]
 simp only [ho2,hd2,hd3,s1,s2,s3,e2,QW hz]
 refine ⟨hcl,a2',e1,⟨zaj hzc,by rw [hzV]; exact QX a4 z,by rw [e3]; exact yX cc l,Qd a4 l,hi.1,by rw [List.length_map]; exact hi.2⟩,zhr hro a5 a6,_,fun F a w pr lam hS=>?_,hKm⟩
 have hr:(l.map (enc cc)).take i.toNat++List.replicate ((l.map (enc cc)).length - i.toNat) (toV zv) = (l.take i.toNat++List.replicate (l.length - i.toNat) z).map (enc cc):=by
  rw [hzV]; simp [List.map_take]
 rw [hr] at hS
 have hst1:za ro ⟨m.sl.mapV (zaA tk (.lst cc (l.take i.toNat++List.replicate (l.length - i.toNat) z))),m.bx⟩ = ⟨(za ro m).nb,(za ro ⟨m.sl.mapV (zaA tk (.lst cc (l.take i.toNat++List.replicate (l.length - i.toNat) z))),m.bx⟩).sl,(za ro m).box⟩:=rfl
 rw [hst1]
 refine zF.weak hS fun s=>?_
 show Wk (pv (zV ro _ s)) (qE tk _ (pv (zV ro m s)))
 unfold zV
 cases hw:ro.own s with
 | true =>
  simp only [cond_true]
  rw [T.get_mapV]
  cases m.sl.get s with
  | none =>
   simp only [Option.map_none,Option.getD_none]
   exact .inl (by simp [pv,qE,toV,V.flat])
  | some z' =>
   simp only [Option.map_some,Option.getD_some]
   exact zfV tk _ z'
 | false =>
  simp only [cond_false]
  exact (zfW hro a5 a2' _ hw).2
theorem zp9 {a b:Option Nat} (h:ztk a b = true):a = b:=by
 cases a <;> cases b <;> simp_all [ztk]
theorem zaJ {f:FuncId} {g:Option FuncId}:∀ {l:List (zcL P)} {Q:zcL P},zca l f g = some Q->Q.f = f/\Q.g = g
 | [],Q,h=>by cases h
 | s :: l,Q,h=>by
  simp only [zca] at h
  cases hb:(Nat.beq s.f f && ztk s.g g) with
  | true =>
   rw [hb] at h
   simp only [cond_true,zvL] at h
   subst h
   simp only [zvI] at hb
   exact ⟨zvJ hb.1,zp9 hb.2⟩
  | false=>rw [hb] at h; exact zaJ h
theorem zc8 {x:Operand} {d0:Nat} (h:zl8 ro m x = some d0):x = .tmp d0:=by
 unfold zl8 at h
 split at h
 ·split at h
  ·cases h; rfl
  ·cases h
 ·cases h
theorem zqa {α β:Type} [d:DecidableEq α] {kin:α->Bool} {l l':List (α × β)} {k:α} (h:zuu kin l k = some l'):kin k = true/\(∀ e ∈ l,kin e.1 = true)/\l' = zqK l k:=by
 unfold zuu at h
 obtain ⟨h1,h2⟩:=yp h
 cases h2
 simp only [zvI,List.all_eq_true] at h1
 exact ⟨h1.1,h1.2,rfl⟩
theorem zh7 {o:Oper} {t t2:TypeId} {mx x:Operand} {args:Array Operand} {tys:Array TypeId} {k:Mm->Option β} (ho:o.op = .call { callee:=.builtin .delete,args:=args,argTypes:=tys }) (ha:args.toList = [mx,x]) (ht:tys.toList = [t,t2])
  (hK:∀ m',k m' = some r->Kp (za ro m')) (h:zj8 X ro m t (zG ro m mx) (zG ro m x) o.dst k = some r):QN P o (za ro m) Kp:=by
 have ea:args = #[mx,x]:=by obtain ⟨l⟩:=args; simpa using ha
 have et':tys = #[t,t2]:=by obtain ⟨l⟩:=tys; simpa using ht
 subst ea; subst et'
 unfold zj8 at h
 split at h
 ·rename_i i kt et hm hT hd0
  split at h
  ·rename_i mt kc vc l hB
   split at h
   ·rename_i ag ks d ag' ks' hck hd hkt
    split at h
    ·rename_i kk hk
     obtain ⟨h1,h2⟩:=yp h
     simp only [zvI] at h1
     obtain ⟨⟨⟨h1,h3⟩,h4⟩,hown⟩:=h1
     have h3:=eq_of_beq h3
     have h4:=zdR h4
     subst h3; subst h4
     obtain ⟨o',ho',h2⟩:=bind_some h2
     obtain ⟨g1,g2,rfl⟩:=zqa ho'
     have hb:(za ro m).box i = some ⟨zaa (enc kc) (enc vc) l,1000000000 + mt⟩:=by show (yj ro m i).map yc = _; rw [hB]; rfl
     have ek:=yy hk
     have hdel:=zmO (ev:=enc vc) (zb7 hd) l kk
     have em:(za ro m).eval mx = .mref i:=by rw [<- zq,hm]; simp [toV]
     have ex:(za ro m).eval x = enc kc kk:=by rw [<- zq,ek]
     intro n' _ _
     refine zkW (B:=⟨zaa (enc kc) (enc vc) l,1000000000 + mt⟩) ho em hb (Nat.le_add_right 1000000000 mt) hT hkt (X.keyed kt h1) (by rw [ex]; exact zay hck g1) (zbb _ fun e he=>zay hck (g2 e he)) hd0 ?_
     have:=hK _ h2
     rw [YQ hown (zcy hB hown)] at this
     dsimp only
     rw [ex,hdel]
     exact this
    ·cases h
   ·cases h
  ·cases h
 ·cases h
theorem zh8 {o:Oper} {t:TypeId} {mx:Operand} {i:Nat} {args:Array Operand} {tys:Array TypeId} {k:Mm->Option β} (ho:o.op = .call { callee:=.builtin .len,args:=args,argTypes:=tys }) (ha:args.toList = [mx]) (ht:tys.toList = [t]) (hm:zG ro m mx = .mref i)
  (hK:∀ m',k m' = some r->Kp (za ro m')) (h:zj9 (P:=P) ro m t i o.dst k = some r):QN P o (za ro m) Kp:=by
 have ea:args = #[mx]:=by obtain ⟨l⟩:=args; simpa using ha
 have et':tys = #[t]:=by obtain ⟨l⟩:=tys; simpa using ht
 subst ea; subst et'
 unfold zj9 at h
 split at h
 ·rename_i p mt kc vc l hT hB
  obtain ⟨kt,et⟩:=p
  have hb:(za ro m).box i = some ⟨zaa (enc kc) (enc vc) l,1000000000 + mt⟩:=by show (yj ro m i).map yc = _; rw [hB]; rfl
  have em:(za ro m).eval mx = .mref i:=by rw [<- zq,hm]; simp [toV]
  obtain ⟨m'',e',h'⟩:=zz h
  intro n' hd _
  have hq:=zmA (P:=P) (o:=o) ho em hb (Nat.le_add_right 1000000000 mt) hT
  refine Zu hq (tk:=none) (fun _ _ h=>by cases h) hd ?_
  have:=hK _ h'
  rw [<- e'] at this
  simpa [toV,zaa,St.fresh] using this
 ·cases h
theorem znW {mu:Bool} (hro:QL mu ro) {o:Oper} {k:Mm->Option β} (hK:∀ m',k m' = some r->Kp (za ro m')) (h:zuE X ro o m k = some (some r)):QN P o (za ro m) Kp:=by
 unfold zuE at h
 split at h
 ·rename_i t ss ix ho
  obtain ⟨_,h⟩:=yp h
  simp only [zvL] at h
  exact zh3 ho hK h
 ·rename_i s x fi ho
  split at h
  ·rename_i d0 hp
   have:=zc8 hp
   subst this
   simp only [zvL] at h
   exact zh4 ho hK h
  ·cases h
 ·rename_i t x ho
  split at h
  ·rename_i d0 hp
   have:=zc8 hp
   subst this
   simp only [zvL] at h
   exact zkm ho hK h
  ·cases h
 ·rename_i t x y ho
  split at h
  ·rename_i d0 hp
   have:=zc8 hp
   subst this
   simp only [zvL] at h
   exact zh5 hro ho hK h
  ·cases h
 ·rename_i fo args tys ho
  split at h
  ·rename_i f first cap hfo
   split at h
   ·rename_i Q hQ
    simp only [zvL] at h
    obtain rfl:=zdY hQ
    exact znT hro ho hfo hK h
   ·split at h
    ·rename_i Q hQ
     simp only [zvL] at h
     obtain rfl:=zdZ hQ
     exact znU hro ho hfo hK h
    split at h
    ·rename_i ss ha _
     split at h
     ·rename_i Q hQ
      simp only [zvL] at h
      obtain ⟨rfl,hg⟩:=zaJ hQ
      exact zfg hro ho ha hfo (by rw [hg]) hK h
     ·cases h
    ·rename_i ss y ha _
     split at h
     ·rename_i g hy
      split at h
      ·rename_i Q hQ
       simp only [zvL] at h
       obtain ⟨rfl,hg⟩:=zaJ hQ
       exact zfg hro ho ha hfo (by rw [hg]; exact ⟨y,rfl,hy⟩) hK h
      ·cases h
     ·cases h
    ·cases h
  ·cases h
 ·rename_i t ss y ho
  obtain ⟨_,h⟩:=yp h
  simp only [zvL] at h
  exact znV hro ho hK h
 ·rename_i args tys ho
  have hh:=(yp h).2
  clear h
  split at hh
  ·rename_i ss x t u ha ht
   have ea:args = #[.tmp ss,x]:=by obtain ⟨l⟩:=args; simpa using ha
   have et:tys = #[t,u]:=by obtain ⟨l⟩:=tys; simpa using ht
   subst ea; subst et
   simp only [zvL] at hh
   exact zh6 hro ho hK hh
  ·cases hh
 ·rename_i s t ss ho
  exact zmj hro ho hK h
 ·rename_i t l c ho
  simp only [zvL] at h
  exact zkn hro ho hK h
 ·rename_i op t x u ho
  exact zko ho hK h
 ·rename_i args tys ho
  split at h
  ·rename_i mx x t t2 ha ht
   simp only [zvL] at h
   exact zh7 (X:=X) ho ha ht hK h
  ·cases h
 ·rename_i args tys ho
  split at h
  ·rename_i mx t ha ht
   split at h
   ·rename_i i hm
    simp only [zvL] at h
    exact zh8 ho ha ht hm hK h
   ·cases h
  ·cases h
 ·cases h
theorem zkp {t:TypeId} {dst:Option Nat} {k:Mm->Option β} (hK:∀ m',k m' = some r->Kp (za ro m')) (h:znD X ro m t dst k = some r):zn8 (za ro m) t dst Kp:=by
 unfold znD at h
 split at h
 ·split at h
  ·obtain ⟨h3,h4⟩:=zcM hK h
   refine ⟨h3,?_⟩
   simp only [toV] at h4
   exact h4
  ·cases h
 ·cases h
theorem ziY {α β:Type} [d:DecidableEq α] {kin:α->Bool} {l:List (α × β)} {k:α} {o:Option β} (h:zth kin l k = some o):kin k = true/\(∀ e ∈ l,kin e.1 = true)/\o = zhO l k:=by
 unfold zth at h
 obtain ⟨h1,h2⟩:=yp h
 cases h2
 simp only [zvI,List.all_eq_true] at h1
 exact ⟨h1.1,h1.2,rfl⟩
theorem ziZ {α β:Type} [d:DecidableEq α] {kin:α->Bool} {l l':List (α × β)} {k:α} {v:β} (h:zti kin l k v = some l'):kin k = true/\(∀ e ∈ l,kin e.1 = true)/\l' = zpl l k v:=by
 unfold zti at h
 obtain ⟨h1,h2⟩:=yp h
 cases h2
 simp only [zvI,List.all_eq_true] at h1
 exact ⟨h1.1,h1.2,rfl⟩
theorem zh9 {t:TypeId} {mx x:S} {ok:Bool} {K:S->Option β} {K2:V->Prop} (hK:∀ s,K s = some r->K2 (toV s)) (h:zka X ro m t mx x ok K = some r):zdg P t (za ro m).box (toV mx) (toV x) ok K2:=by
 unfold zka at h
 split at h
 ·rename_i i kt et hT
  split at h
  ·rename_i mt kc vc l hB
   split at h
   ·rename_i ag ks d ag' ks' zv hck hd hkt hz
    split at h
    ·rename_i kk z hk hzv
     obtain ⟨h1,h2⟩:=yp h
     simp only [zvI] at h1
     obtain ⟨⟨h1,h3⟩,h4⟩:=h1
     have h3:=eq_of_beq h3
     have h4:=zdR h4
     subst h3; subst h4
     obtain ⟨o,ho,h2⟩:=bind_some h2
     obtain ⟨g1,g2,rfl⟩:=ziY ho
     have hb:(za ro m).box i = some ⟨zaa (enc kc) (enc vc) l,1000000000 + mt⟩:=by show (yj ro m i).map yc = _; rw [hB]; rfl
     have ek:=yy hk
     have ez:=yy hzv
     have hget:=zgg (ev:=enc vc) (zb7 hd) l kk
     simp only [toV,zdg,hT,hb,hkt,QW hz]
     refine ⟨Nat.le_add_right 1000000000 mt,X.keyed kt h1,by rw [ek]; exact zay hck g1,zbb _ fun e he=>zay hck (g2 e he),?_⟩
     have:=hK _ h2
     rw [ek,ez,hget]
     cases hq:zhO l kk with
     | none =>
      rw [hq] at this
      cases ok with
      | true=>simpa [toV,zj,qJ] using this
      | false=>simpa [toV,zj,qJ] using this
     | some y =>
      rw [hq] at this
      cases ok with
      | true=>simpa [toV,zj,qJ] using this
      | false=>simpa [toV,zj,qJ] using this
    ·cases h
   ·cases h
  ·cases h
 ·cases h
theorem zia {t:TypeId} {mx x y:S} {dst:Option Nat} {k:Mm->Option β} (hK:∀ m',k m' = some r->Kp (za ro m')) (h:zkb X ro m t mx x y dst k = some r):zbE P t (za ro m) (toV mx) (toV x) (toV y) dst Kp:=by
 unfold zkb at h
 split at h
 ·rename_i i kt et hT
  split at h
  ·rename_i mt kc vc l hB
   split at h
   ·rename_i ag ks d ag' ks' hck hd hkt
    split at h
    ·rename_i kk v hk hv
     obtain ⟨h1,h2⟩:=yp h
     simp only [zvI] at h1
     obtain ⟨⟨⟨h1,h3⟩,h4⟩,hown⟩:=h1
     have h3:=eq_of_beq h3
     have h4:=zdR h4
     subst h3; subst h4
     obtain ⟨o,ho,h2⟩:=bind_some h2
     obtain ⟨g1,g2,rfl⟩:=ziZ ho
     have hb:(za ro m).box i = some ⟨zaa (enc kc) (enc vc) l,1000000000 + mt⟩:=by show (yj ro m i).map yc = _; rw [hB]; rfl
     have ek:=yy hk
     have ev:=yy hv
     have hput:=zgh (ev:=enc vc) (zb7 hd) l kk v
     simp only [toV,zbE,hT,hb,hkt]
     refine ⟨Nat.le_add_right 1000000000 mt,X.keyed kt h1,by rw [ek]; exact zay hck g1,zbb _ fun e he=>zay hck (g2 e he),trivial,?_⟩
     have:=hK _ h2
     rw [YQ hown (zcy hB hown)] at this
     rw [ek,ev,hput]
     exact this
    ·cases h
   ·cases h
  ·cases h
 ·cases h
theorem zcz {mu:Bool} (hro:QL mu ro) {dr:Bool} {o:Oper} {k:Mm->Option β} (hK:∀ m',k m' = some r->Kp (za ro m')) (h:opX X ro dr o m k = some r):zcP P dr o (za ro m) Kp:=by
 unfold opX at h
 split at h
 ·rename_i q hq
  subst h
  cases dr with
  | true=>cases hq
  | false=>exact .inr ⟨rfl,znW (X:=X) hro hK hq⟩
 left
 split at h
 ·rename_i ho; simp only [Yo,ho]; rw [<- zq]; exact zho hK h
 ·rename_i e ho
  simp only [Yo,ho]
  split at h
  ·rename_i v hv; simp only [QW hv]; exact zho hK h
  ·cases h
 ·rename_i ho; simp only [Yo,ho]; rw [<- zq,<- zq]; exact zkl hK h
 ·rename_i args tys ho
  simp only [Yo,ho]
  split at h
  ·rename_i ss x t u ha ht; simp only [ha,ht]; rw [<- zq]; exact zh1 hro hK h
  ·cases h
 ·rename_i f args tys ho
  simp only [Yo,ho]
  rw [<- zq]
  split at h
  ·rename_i g first cap hf
   simp only [hf,toV,zfG]
   have:=zme (X:=X) (first:=first) (cap:=cap) hK h
   rw [qY,qY,zcd] at this
   exact this
  ·cases h
 ·rename_i ho; simp only [Yo,ho]; exact zkp (X:=X) hK h
 ·rename_i ho; simp only [Yo,ho]; rw [<- zq,<- zq,<- zq]; exact zia (X:=X) hK h
 ·rename_i t mx x ok ho
  simp only [Yo,ho,ZB]
  rw [<- zq,<- zq]
  refine zh9 (X:=X) (K2:=fun v=>zik dr o none/\Kp (zjc o (za ro m) v none)) (fun s hs=>?_) h
  obtain ⟨m',ht,e,hk⟩:=zff hro hs
  exact ⟨ht,e ▸ hK m' hk⟩
 ·rename_i n1 n2 n3 n4 n5 n6 n7 n8
  have hv:ZB P o (za ro m) (fun v tk=>zik dr o tk/\Kp (zjc o (za ro m) v tk)):=znO (K2p:=fun v tk=>zik dr o tk/\Kp (zjc o (za ro m) v tk)) (fun s tk hs=>by
   obtain ⟨m',ht,e,hk⟩:=zff hro hs
   exact ⟨ht,e ▸ hK m' hk⟩) h
  unfold Yo
  split
  ·rename_i ho; exact absurd ho (n1 _ _)
  ·rename_i ho; exact absurd ho (n2 _)
  ·rename_i ho; exact absurd ho (n3 _ _ _)
  ·rename_i ho; exact absurd ho (n4 _ _)
  ·rename_i t ho; simp [zrH,ho] at h
  ·rename_i t m' x y ho; simp [zrH,ho] at h
  ·rename_i ho; exact absurd ho (n5 _ _ _)
  ·exact hv
end
end Go.X
namespace Go.X
open Go.Eng
open Go.RowKit
variable {β:Type}
section
variable {P:Program} {X:zc6 P} {ro:RO} {r:β} {Kp:St->Prop}
theorem Za {m:Mm} {t:Nat} {b:Bool} (h:(zV ro m t).1 = .bool b):za ro (Y8 ro m (.tmp t) b) = za ro m:=by
 unfold Y8
 simp only
 cases ho:ro.own t with
 | false=>rfl
 | true =>
  simp only [cond_true]
  rw [zl9 ho]
  show (⟨_,upd _ t _,_⟩:St) = za ro m
  have:upd (za ro m).sl t (toV (S.bool b),(zV ro m t).2) = (za ro m).sl:=by
   funext s
   unfold upd
   split
   ·rename_i e; subst e; rw [<- h]; rfl
   ·rfl
  rw [this]
theorem zhs {m:Mm} {x:Operand} {b:Bool} (h:zG ro m x = .bool b):za ro (Y8 ro m x b) = za ro m:=by
 cases x with
 | tmp t=>exact Za h
 | const v=>rfl
 | global g=>rfl
 | func f=>rfl
theorem znX {m:Mm} {dr:Bool} {o:Oper} {os:List Oper} {q:zuF} {k:Mm->Option β} (hK:∀ m',k m' = some r->Kp (za ro m')) (hq:znE dr o os = some q) (h:zuG X ro m q k = some r) :
  dr = true/\∃ o3 o4 o5 o6,os = [o3,o4,o5,o6]/\zqv P o o3 o4 o5 o6 (za ro m) Kp:=by
 unfold znE at hq
 split at hq
 case h_2=>cases hq
 rename_i t s r' h2
 split at hq
 case h_2=>cases hq
 rename_i o3 o4 o5 o6
 split at hq
 case h_2=>cases hq
 rename_i t1 s1 r1 h4
 split at hq
 case h_2=>cases hq
 rename_i op xT a2 c yT h3
 split at hq
 case h_2=>cases hq
 rename_i a4 ix h5
 split at hq
 case h_2=>cases hq
 rename_i t2 s2 a5 a3 h6
 split at hq
 case h_2=>cases hq
 rename_i d2 d3 d4 d5 e2 e3 e4 e5 e6
 obtain ⟨hc,hq⟩:=yp hq
 cases hq
 simp only [zvI,Bool.not_eq_true',zcu] at hc
 obtain ⟨⟨⟨⟨⟨c0,⟨⟨⟨⟨u2,u3⟩,u4⟩,u5⟩,u6⟩⟩,⟨⟨⟨⟨⟨⟨⟨⟨⟨b1,b2⟩,b3⟩,b4⟩,b5⟩,b6⟩,b7⟩,b8⟩,b9⟩,b10⟩⟩,⟨⟨⟨⟨⟨k1,k2⟩,k3⟩,k4⟩,k5⟩,k6⟩⟩,⟨⟨⟨l1,l2⟩,l3⟩,l4⟩⟩,⟨⟨⟨n1,n2⟩,n3⟩,n4⟩⟩:=hc
 have gd:∀ {o:Oper},(match o.guard with | none=>true | some _=>false) = true->o.guard = none:=fun {o} h=>by
  cases hg:o.guard with
  | none=>rfl
  | some g=>rw [hg] at h; cases h
 have b1:=zvJ b1
 have b2:=zvJ b2
 have b3:=zvJ b3
 have b4:=zvJ b4
 have b5:=zvJ b5
 have b6:=zvJ b6
 have b7:=zvJ b7
 have b8:=zvJ b8
 have b9:=zvJ b9
 have b10:=zvJ b10
 subst b1; subst b2; subst b3; subst b4; subst b5; subst b6; subst b7; subst b8; subst b9; subst b10
 have nb:∀ {a d:Nat},Nat.beq a d = false->Operand.tmp a ≠ .tmp d:=fun {a d} h e=>by cases e; simp at h
 have nd:∀ {a d:Nat},Nat.beq a d = false->a ≠ d:=fun {a d} h e=>by cases e; simp at h
 refine ⟨c0,o3,o4,o5,o6,rfl,?_⟩
 unfold zuG at h
 split at h
 case h_2=>cases h
 rename_i i kt et hm hT
 split at h
 case h_2=>cases h
 rename_i mt kc l hB
 split at h
 case h_2=>cases h
 rename_i ag ks d ag' ks' zv hck hd hkt hz
 split at h
 case h_2=>cases h
 rename_i kk z hk hzv
 obtain ⟨h1,hh⟩:=yp h
 clear h
 simp only [zvI] at h1
 obtain ⟨⟨⟨h1,q3⟩,q4⟩,hown⟩:=h1
 have q3:=eq_of_beq q3
 have q4:=zdR q4
 subst q3; subst q4
 obtain ⟨oo,ho,h⟩:=bind_some hh
 clear hh
 obtain ⟨g1,g2,rfl⟩:=ziY ho
 obtain ⟨y,hy,h⟩:=bind_some h
 obtain ⟨l',hl',h⟩:=bind_some h
 obtain ⟨_,_,rfl⟩:=ziZ hl'
 obtain ⟨m1,f1,h⟩:=zz h
 obtain ⟨m2,f2,h⟩:=zz h
 obtain ⟨m3,f3,h⟩:=zz h
 obtain ⟨m4,f4,h⟩:=zz h
 have hfin:=hK _ h
 have hb:(za ro m).box i = some ⟨zaa (enc kc) (enc .i64) l,1000000000 + mt⟩:=by show (yj ro m i).map yc = _; rw [hB]; rfl
 have ek:(za ro m).eval (.tmp r1) = enc kc kk:=by rw [<- zq]; exact yy hk
 have em:(za ro m).eval (.tmp s2) = .mref i:=by rw [<- zq,hm]; simp [toV]
 have ez:toV zv = enc .i64 z:=yy hzv
 have hget:=zgg (ev:=enc .i64) (zb7 hd) l kk
 have hput:YD (zaa (enc kc) (enc .i64) l) (enc kc kk) (V.int .i64 y) = zaa (enc kc) (enc .i64) (zpl l kk y):=zgh (ev:=enc .i64) (zb7 hd) l kk y
 refine ⟨t2,kt,et,xT,yT,op,.tmp s2,.tmp r1,_,_,_,_,ag,ks,i,⟨zaa (enc kc) (enc .i64) l,1000000000 + mt⟩,.i64,(zhO l kk).getD z,c,y,toV zv,⟨⟨h2,e2,gd u2⟩,⟨h3,e3,gd u3⟩,⟨h4,e4,gd u4⟩,⟨h5,e5,gd u5⟩,⟨h6,e6,gd u6⟩⟩,⟨nd k1,nd k2,nd k3,nd k4,nd k5,nd k6⟩,⟨nb l1,nb l2,nb l3,nb l4⟩,⟨nb n1,nb n2,nb n3,nb n4⟩,
  ⟨?_,em,hb,Nat.le_add_right 1000000000 mt,hT,QW hz,?_,hkt,X.keyed kt h1,by rw [ek]; exact zay hck g1,zbb _ fun e he=>zay hck (g2 e he)⟩,?_⟩
 ·cases op
  case add =>
   change zD .i64 ((zhO l kk).getD z) c = some y at hy
   unfold zD at hy
   split at hy
   ·rename_i hin; cases hy; exact congrArg (fun z=>some (V.int .i64 z)) hin
   ·cases hy
  case sub =>
   change Z9 .i64 ((zhO l kk).getD z) c = some y at hy
   unfold Z9 at hy
   split at hy
   ·rename_i hin; cases hy; exact congrArg (fun z=>some (V.int .i64 z)) hin
   ·cases hy
  all_goals (change (none:Option Int) = some y at hy; cases hy)
 ·dsimp only
  rw [ek,hget,ez]
  cases zhO l kk <;> rfl
 ·dsimp only
  rw [ek,hput]
  rw [<- f4,<- f3,<- f2,<- f1,YQ hown (zcy hB hown)] at hfin
  simpa [toV,yc] using hfin
theorem zbl {mu:Bool} (hro:QL mu ro) {dr:Bool} {ds:List (Option Nat)} {k:Mm->Option β} (hK:∀ m',k m' = some r->Kp (za ro m')):∀ (os:List Oper) (m:Mm),znF X ro dr ds os m k = some r->Q7 P dr ds os (za ro m) Kp
 | [],m,h=>hK m h
 | o :: os,m,h=>by
  simp only [znF] at h
  simp only [Q7]
  split at h
  ·rename_i q hq
   exact .inr (znX hK hq h)
  left
  have hA:∀ m',za ro m' = za ro m->opX X ro dr o m' (fun m'=>znF X ro dr ds os m' k) = some r->zcP P dr o (za ro m) fun st'=>Q7 P dr ds os st' Kp:=by
   intro m' e h
   rw [<- e]
   exact zcz hro (fun m'' h'=>zbl hro hK os m'' h') h
  have hB:∀ m',za ro m' = za ro m->Zg ro m' o.dst .un none (fun m'=>znF X ro dr ds os m' k) = some r->Q7 P dr ds os ((za ro m).put o.dst .un none) Kp:=by
   intro m' e h
   obtain ⟨m'',e',h'⟩:=zz h
   rw [<- e]
   have:toV S.un = .un:=by simp [toV]
   rw [this] at e'
   rw [e']
   exact zbl hro hK os m'' h'
  unfold gdX at h
  unfold zje
  split at h
  ·rename_i hg
   simp only [hg]
   exact hA m rfl h
  ·rename_i j want hg
   simp only [hg]
   split at h
   ·rename_i d hd
    simp only [hd]
    have he:(za ro m).env d = toV (zV ro m d).1:=rfl
    rw [he]
    split at h
    ·rename_i b hb
     rw [hb]
     simp only [toV]
     refine ⟨fun hw=>?_,fun hw=>?_⟩
     ·rcases brS h with ⟨q,h⟩ | ⟨q,h⟩
      ·subst q
       have:want = true:=by simpa using hw
       subst this
       exact hA _ (Za hb) h
      ·subst q
       have:want = false:=by simpa using hw
       subst this
       exact hA _ (Za hb) h
     ·rcases brS h with ⟨q,h⟩ | ⟨q,h⟩
      ·subst q
       have:want = false:=by simpa using hw
       subst this
       exact hB _ (Za hb) h
      ·subst q
       have:want = true:=by simpa using hw
       subst this
       exact hB _ (Za hb) h
    ·rename_i hb
     rw [hb]
     simp only [toV]
     exact hB m rfl h
    ·cases h
   ·rename_i hne
    split
    ·rename_i d hd; exact absurd hd (hne d)
    ·exact hB m rfl h
theorem zfh {mu:Bool} (hro:QL mu ro) {k:Mm->Option β} (hK:∀ m',k m' = some r->Kp (za ro m')):∀ (l:List Oper) (m:Mm),zo5 X ro l m k = some r->zcS P l (za ro m) Kp
 | [],m,h=>by cases h
 | [o],m,h=>by cases h
 | [o2,o3],m,h=>zmk hro hK h
 | o :: o1 :: o2 :: os,m,h=>by
  unfold zo5 at h
  simp only at h
  unfold zcS
  simp only
  split at h
  ·rename_i hg
   exact ⟨hg,zcz hro (fun m' h'=>zfh hro hK (o1 :: o2 :: os) m' h') h⟩
  ·cases h
theorem zfi {o:Oper} {m:Mm} {k:Mm->Option β} (hK:∀ m',k m' = some r->Kp (za ro m')) (h:zo4 (P:=P) ro o m k = some r):zd8 P o (za ro m) Kp:=by
 unfold zo4 at h
 unfold zd8
 split at h
 ·rename_i x ho
  simp only [ho]
  obtain ⟨m1,f1,h⟩:=zz h
  have:=hK _ h
  rw [<- f1,zq,znI] at this
  exact this
 ·rename_i xT x y yT ho
  simp only [ho]
  rw [<- zq,<- zq]
  split at h
  ·rename_i k1 a k2 b h1 h2
   rw [h1,h2]
   simp only [toV]
   split at h
   ·rename_i hk
    obtain ⟨n,hn,h⟩:=bind_some h
    unfold zD at hn
    split at hn
    ·rename_i hin
     cases hn
     obtain ⟨m1,f1,h⟩:=zz h
     have:=hK _ h
     rw [<- f1] at this
     exact ⟨hk,hin,by simpa [toV] using this⟩
    ·cases hn
   ·cases h
  ·cases h
 ·rename_i xT x y yT ho
  simp only [ho]
  rw [<- zq,<- zq]
  split at h
  ·rename_i k1 a k2 b h1 h2
   rw [h1,h2]
   simp only [toV]
   split at h
   ·rename_i hk
    obtain ⟨n,hn,h⟩:=bind_some h
    unfold Z9 at hn
    split at hn
    ·rename_i hin
     cases hn
     obtain ⟨m1,f1,h⟩:=zz h
     have:=hK _ h
     rw [<- f1] at this
     exact ⟨hk,hin,by simpa [toV] using this⟩
    ·cases hn
   ·cases h
  ·cases h
 ·rename_i t x ix ho
  simp only [ho]
  rw [<- zq,<- zq]
  split at h
  ·rename_i c l k1 i h1 h2
   rw [h1,h2]
   simp only [toV]
   split at h
   ·rename_i en he
    obtain ⟨e,n⟩:=en
    obtain ⟨e1,e2,rfl⟩:=Yb he
    obtain ⟨y,g1,h⟩:=bind_some h
    obtain ⟨q1,q2,q3⟩:=zak g1
    obtain ⟨m1,f1,h⟩:=zz h
    have:=hK _ h
    rw [<- f1] at this
    simp only [e1,e2]
    refine ⟨yX c l,⟨q1,by simpa using q2⟩,?_⟩
    have hg:(l.map (enc c)).getD i.toNat .any = enc c y:=by simp [List.getD,q3]
    rw [hg]
    simpa only [toV,Qt] using this
   ·cases h
  ·cases h
 ·rename_i t x lo hi ho
  simp only [ho]
  rw [<- zq]
  split at h
  ·rename_i c l h1
   have hs:=zdW (r:=r) (K2p:=fun v tk=>Kp ((za ro m).put o.dst v tk)) (fun s tk hk=>by
    obtain ⟨m1,f1,hk⟩:=zz hk
    have:=hK _ hk
    rwa [<- f1] at this) h
   rw [h1]
   simp only [toV] at hs ⊢
   exact hs
  ·cases h
 ·cases h
theorem zml {o o':Oper} {m:Mm} {k:Mm->Option β} (hK:∀ m',k m' = some r->Kp (za ro m')) (h:zrM X ro o o' m k = some r):zgf P o o' (za ro m) Kp:=by
 unfold zrM at h
 unfold zgf
 split at h
 ·rename_i t x t' x' h1 h2
  simp only [h1,h2]
  rw [<- zq,<- zq]
  refine zce (r:=r) (Kp:=fun v=>YT P t' (za ro m).box (toV (zG ro m x')) fun u=>Kp (((za ro m).put o.dst v none).put o'.dst u none)) (fun s hs=>?_) h
  refine zce (r:=r) (Kp:=fun u=>Kp (((za ro m).put o.dst (toV s) none).put o'.dst u none)) (fun s' hs'=>?_) hs
  obtain ⟨m1,f1,h⟩:=zz hs'
  obtain ⟨m2,f2,h⟩:=zz h
  have:=hK _ h
  rwa [<- f2,<- f1] at this
 ·cases h
theorem zan {mu:Bool} (hro:QL mu ro) {ops:Array Oper} {k:Mm->Option β} (hK:∀ m',k m' = some r->Kp (za ro m')):∀ (l:List (Nat × Nat)) (m:Mm),zkc X ro ops (ops.toList.map (·.dst)) l m k = some r->zaN P ops l (za ro m) Kp
 | [],m,h=>hK m h
 | (i,t) :: l,m,h=>by
  simp only [zkc] at h
  simp only [zaN]
  split at h
  ·cases h
  rename_i o ho
  simp only [ho]
  match t,h with
  | 1,h=>exact zfi (fun m' h'=>zan hro hK l m' h') h
  | j + 2,h =>
   simp only at h ⊢
   split at h
   ·rename_i o' ho'
    simp only [ho']
    exact zml (fun m' h'=>zan hro hK l m' h') h
   ·cases h
  | 0,h =>
   simp only at h ⊢
   have hA:∀ m',za ro m' = za ro m->opX X ro false o m' (fun m'=>zkc X ro ops (ops.toList.map (·.dst)) l m' k) = some r->zcP P false o (za ro m) fun st'=>zaN P ops l st' Kp:=by
    intro m' e h
    rw [<- e]
    exact zcz hro (fun m'' h'=>zan hro hK l m'' h') h
   have hB:∀ m',za ro m' = za ro m->Zg ro m' o.dst .un none (fun m'=>zkc X ro ops (ops.toList.map (·.dst)) l m' k) = some r->zaN P ops l ((za ro m).put o.dst .un none) Kp:=by
    intro m' e h
    obtain ⟨m'',e',h'⟩:=zz h
    rw [<- e]
    have:toV S.un = .un:=by simp [toV]
    rw [this] at e'
    rw [e']
    exact zan hro hK l m'' h'
   unfold gdX at h
   unfold zje
   split at h
   ·rename_i hg
    simp only [hg]
    exact hA m rfl h
   ·rename_i j want hg
    simp only [hg]
    split at h
    ·rename_i d hd
     simp only [hd]
     have he:(za ro m).env d = toV (zV ro m d).1:=rfl
     rw [he]
     split at h
     ·rename_i b hb
      rw [hb]
      simp only [toV]
      refine ⟨fun hw=>?_,fun hw=>?_⟩
      ·rcases brS h with ⟨q,h⟩ | ⟨q,h⟩
       ·subst q
        have:want = true:=by simpa using hw
        subst this
        exact hA _ (Za hb) h
       ·subst q
        have:want = false:=by simpa using hw
        subst this
        exact hA _ (Za hb) h
      ·rcases brS h with ⟨q,h⟩ | ⟨q,h⟩
       ·subst q
        have:want = false:=by simpa using hw
        subst this
        exact hB _ (Za hb) h
       ·subst q
        have:want = true:=by simpa using hw
        subst this
        exact hB _ (Za hb) h
     ·rename_i hb
      rw [hb]
      simp only [toV]
      exact hB m rfl h
     ·cases h
    ·rename_i hne
     split
     ·rename_i d hd; exact absurd hd (hne d)
     ·exact hB m rfl h
theorem zi0 {γ:Type} {f:Nat->Option γ} {r:γ}:∀ {l:List Nat},ztn f l = some r->∀ j ∈ l,f j = some r
 | [],h,j,hj=>by simp at hj
 | [i],h,j,hj=>by
  simp only [List.mem_singleton] at hj
  subst hj
  exact h
 | i :: i' :: l,h,j,hj=>by
  unfold ztn at h
  obtain ⟨h1,h2⟩:=zeH h
  rcases List.mem_cons.1 hj with rfl | hj
  ·exact h1
  ·exact zi0 h2 j hj
theorem zaC {mu:Bool} (hro:QL mu ro) {ops:Array Oper} {k:Mm->Option β} (hK:∀ m',k m' = some r->Kp (za ro m')):∀ (fuel:Nat) (listed:Array Bool) (m:Mm),zdT X ro ops (ops.toList.map (·.dst)) fuel listed m k = some r->Q9 P ops fuel listed (za ro m) Kp
 | 0,listed,m,h=>by
  unfold zdT at h
  unfold Q9
  split at h
  ·rename_i hr; exact ⟨hr,hK _ h⟩
  ·cases h
 | fuel + 1,listed,m,h=>by
  unfold zdT at h
  unfold Q9
  split at h
  ·rename_i hr; rw [hr]; exact hK _ h
  ·rename_i i is hr
   rw [hr]
   dsimp only at h ⊢
   split at h
   ·rename_i j hj
    rw [hj]
    dsimp only
    split at h
    ·rename_i o ho
     rw [ho]
     exact zfi (fun m' h'=>zaC hro hK fuel _ m' h') h
    ·cases h
   ·rename_i hj
    rw [hj]
    dsimp only
    intro j hjm
    have h:=zi0 h j hjm
    split at h
    case h_2=>cases h
    rename_i o ho
    rw [ho]
    dsimp only
    have hA:∀ m',za ro m' = za ro m->opX X ro false o m' (fun m'=>zdT X ro ops (ops.toList.map (·.dst)) fuel (listed.setIfInBounds j true) m' k) = some r->zcP P false o (za ro m) fun st'=>Q9 P ops fuel (listed.setIfInBounds j true) st' Kp:=by
     intro m' e h
     rw [<- e]
     exact zcz hro (fun m'' h'=>zaC hro hK fuel _ m'' h') h
    have hB:∀ m',za ro m' = za ro m->Zg ro m' o.dst .un none (fun m'=>zdT X ro ops (ops.toList.map (·.dst)) fuel (listed.setIfInBounds j true) m' k) = some r->Q9 P ops fuel (listed.setIfInBounds j true) ((za ro m).put o.dst .un none) Kp:=by
     intro m' e h
     obtain ⟨m'',e',h'⟩:=zz h
     rw [<- e]
     have:toV S.un = .un:=by simp [toV]
     rw [this] at e'
     rw [e']
     exact zaC hro hK fuel _ m'' h'
    unfold gdX at h
    unfold zje
    split at h
    ·rename_i hg
     simp only [hg]
     exact hA m rfl h
    ·rename_i j want hg
     simp only [hg]
     split at h
     ·rename_i d hd
      simp only [hd]
      have he:(za ro m).env d = toV (zV ro m d).1:=rfl
      rw [he]
      split at h
      ·rename_i b hb
       rw [hb]
       simp only [toV]
       refine ⟨fun hw=>?_,fun hw=>?_⟩
       ·rcases brS h with ⟨q,h⟩ | ⟨q,h⟩
        ·subst q
         have:want = true:=by simpa using hw
         subst this
         exact hA _ (Za hb) h
        ·subst q
         have:want = false:=by simpa using hw
         subst this
         exact hA _ (Za hb) h
       ·rcases brS h with ⟨q,h⟩ | ⟨q,h⟩
        ·subst q
         have:want = false:=by simpa using hw
         subst this
         exact hB _ (Za hb) h
        ·subst q
         have:want = true:=by simpa using hw
         subst this
         exact hB _ (Za hb) h
      ·rename_i hb
       rw [hb]
       simp only [toV]
       exact hB m rfl h
      ·cases h
     ·rename_i hne
      split
      ·rename_i d hd; exact absurd hd (hne d)
      ·exact hB m rfl h
end
end Go.X
namespace Go.X
open Go.Eng
open Go.RowKit
theorem zc9 {σ ρ:Type} {F:σ->Option (Yt σ ρ)} {r:ρ}:∀ {n m:Nat} {s:σ},n <= m->zby F n s = some r->zby F m s = some r
 | 0,_,s,_,h=>by cases h
 | n + 1,0,s,hm,h=>by omega
 | n + 1,m + 1,s,hm,h=>by
  unfold zby at h ⊢
  split at h
  ·exact zc9 (by omega) h
  ·exact h
  ·cases h
theorem Q2 {σ ρ:Type} {F:σ->Option (Yt σ ρ)} {s:σ} {r:ρ}:qg F s = some r ↔ ∃ n,zby F n s = some r:=by
 unfold qg
 constructor
 ·intro h
  split at h
  ·rename_i hex
   cases h
   exact hex.choose_spec
  ·cases h
 ·rintro ⟨n,hn⟩
  have hex:∃ r n,zby F n s = some r:=⟨r,n,hn⟩
  rw [dif_pos hex]
  obtain ⟨n',hn'⟩:=hex.choose_spec
  have h1:=zc9 (Nat.le_max_left n n') hn
  have h2:=zc9 (Nat.le_max_right n n') hn'
  rw [h1] at h2
  exact h2.symm
theorem qk {σ ρ:Type} (F:σ->Option (Yt σ ρ)) (s:σ):qg F s = match F s with | some (.next s')=>qg F s' | some (.done r)=>some r | none=>none:=by
 apply Option.ext
 intro r
 rw [Q2]
 constructor
 ·rintro ⟨n,h⟩
  cases n with
  | zero=>cases h
  | succ n =>
   unfold zby at h
   split at h
   ·rename_i s' e; rw [e]; exact Q2.2 ⟨n,h⟩
   ·rename_i r' e; rw [e]; exact h
   ·cases h
 ·intro h
  split at h
  ·rename_i s' e
   obtain ⟨n,hn⟩:=Q2.1 h
   exact ⟨n + 1,by unfold zby; rw [e]; exact hn⟩
  ·rename_i r' e
   exact ⟨1,by unfold zby; rw [e]; exact h⟩
  ·cases h
theorem zht:∀ (l:List Nat) (a i:Nat),(l.foldl (fun a s=>a ||| (1 <<< s)) a).testBit i = (a.testBit i || decide (i ∈ l))
 | [],a,i=>by simp
 | s :: l,a,i=>by
  rw [List.foldl_cons,zht l]
  rw [Nat.testBit_or,Nat.one_shiftLeft,Nat.testBit_two_pow]
  by_cases h:s = i
  ·subst h; simp
  ·have:¬ i = s:=fun e=>h e.symm
   simp [h,this]
theorem zfj (l:List Nat) (i:Nat):(zkd l).testBit i = decide (i ∈ l):=by
 unfold zkd; rw [zht]; simp
theorem zqb {a b:Tk} (h:zuH a b = true):a = none ∨ a = b:=by
 cases a with
 | none=>exact .inl rfl
 | some p =>
  cases b with
  | none=>cases h
  | some q =>
   obtain ⟨t,e⟩:=p; obtain ⟨t',e'⟩:=q
   simp only [zuH,zvI] at h
   have h1:=zvJ h.1
   have h2:=zvJ h.2
   subst h1; subst h2; exact .inr rfl
theorem zmm {ro:RO} {sl:T (S × Tk)} {bx:List (Option qr)} {s0:Nat} {x:S × Tk} (s:Nat):zV ro ⟨sl.set s0 x,bx⟩ s = if s = s0/\ro.own s = true then x else zV ro ⟨sl,bx⟩ s:=by
 unfold zV
 cases ho:ro.own s with
 | false=>simp
 | true =>
  simp only [cond_true,and_true]
  rw [T.get_set]
  split <;> rfl
theorem zaD {ro:RO} {sl:T (S × Tk)} {bx:List (Option qr)} {i j:Nat} {B:qr} (hi:i < bx.length):yj ro ⟨sl,bx.set i (some B)⟩ j = if j = i/\ro.ownB j = true then some B else yj ro ⟨sl,bx⟩ j:=by
 unfold yj
 cases ho:ro.ownB j with
 | false=>simp
 | true =>
  simp only [cond_true,and_true]
  by_cases h:j = i
  ·subst h; simp [hi]
  ·rw [if_neg h,List.getElem?_set_ne (Ne.symm h)]
variable {β:Type}
section
variable {old:Nat->Option qr} {roS roT:RO} {mS:Mm} {n:Nat}
theorem zd1 {v:LV} {x:v.ty} {m1:Mm} (hr:zeC old roS mS v = some x) (hlen:m1.bx.length = n) (hbs:∀ i,qu [v] i = true->i < n) :
  (ZI old m1 v x).bx.length = n/\(∀ s,Wk (pv (zV roT m1 s)) (pv (zV roS mS s))->Wk (pv (zV roT (ZI old m1 v x) s)) (pv (zV roS mS s))) /\
  (∀ i,((yj roT m1 i).map yc = (yj roS mS i).map yc ∨ (qu [v] i = true/\roT.ownB i = true))->(yj roT (ZI old m1 v x) i).map yc = (yj roS mS i).map yc) /\
  (∀ k,(∀ s,ltV k (toV (zV roT m1 s).1) = true)->∀ s,ltV k (toV (zV roT (ZI old m1 v x) s).1) = true) /\
  (∀ k,(∀ i B,yj roT m1 i = some B->Yc k (yc B).cells = true)->∀ i B,yj roT (ZI old m1 v x) i = some B->Yc k (yc B).cells = true):=by
 cases v with
 | slot s0 c tk =>
  simp only [zeC] at hr
  obtain ⟨h1,h2⟩:=yp hr
  have e:=yy h2
  refine ⟨hlen,fun s hs=>?_,fun i hi=>?_,fun k hk s=>?_,fun k hk i B hB=>hk i B hB⟩
  ·simp only [ZI]
   rw [zmm]
   split
   ·rename_i hc
    obtain ⟨rfl,_⟩:=hc
    unfold pv
    simp only
    rw [qJ,<- e]
    rcases zqb h1 with q | q
    ·subst q; exact .inr (.inl rfl)
    ·subst q; exact .inl rfl
   ·exact hs
  ·rcases hi with hi | hi
   ·exact hi
   ·simp [qu] at hi
  ·simp only [ZI]
   rw [zmm]
   split
   ·exact zhl _ _ (by rw [qJ]; exact YP c x)
   ·exact hk s
 | box i0 c =>
  have hi0:i0 < n:=hbs i0 (by simp [qu])
  simp only [zeC] at hr
  split at hr
  ·rename_i cs ty hB
   obtain ⟨h1,h2⟩:=yp hr
   have ht:=zvJ h1
   have hcells:zj (Ze (refl c x)) = zj cs:=by
    rw [Qt]
    split at h2
    ·rename_i y hy
     cases h2
     have:=yy hy
     simp only [toV] at this
     rw [<- this]; rfl
    ·split at h2
     ·cases h2
     ·rename_i z hz _
      have:=yy h2
      rw [<- this]
      have hne:∀ ds,z ≠ .agg ds:=fun ds e=>hz ds (by rw [e])
      have hcl:(toV z).cellsL = [toV z]:=by
       cases z with
       | agg ds=>exact absurd rfl (hne ds)
       | gel g o=>simp only [toV]; split <;> rfl
       | ivd x=>simp only [toV]; exact zcw x
       | _=>rfl
      rw [hcl]; simp [zj]
     ·cases h2
   refine ⟨by simp [ZI,hlen],fun s hs=>hs,fun i hi=>?_,fun k hk s=>hk s,fun k hk i B hB=>?_⟩
   ·simp only [ZI]
    rw [zaD (by omega)]
    split
    ·rename_i hc
     obtain ⟨rfl,_⟩:=hc
     rw [hB]
     simp only [Option.map_some,yc,hcells,ht]
    ·rename_i hne
     rcases hi with hi | ⟨hi,ho⟩
     ·exact hi
     ·simp [qu] at hi
      exact absurd ⟨hi.symm,ho⟩ hne
   ·simp only [ZI] at hB
    rw [zaD (by omega)] at hB
    split at hB
    ·cases hB
     simp only [yc]
     refine Yj _ _ ?_
     rw [Qt]
     have:=YP c x
     cases he:enc c x <;> rw [he] at this <;> simp_all [V.noLoc,V.cellsL,V.noLocL]
    ·exact hk i B hB
  ·cases hr
 | mapb i0 kc vc =>
  have hi0:i0 < n:=hbs i0 (by simp [qu])
  simp only [zeC] at hr
  split at hr
  ·rename_i mt kc' vc' l hB
   obtain ⟨h1,h2⟩:=yp hr
   have ht:=zvJ h1
   split at h2
   ·rename_i hc
    obtain ⟨rfl,rfl⟩:=hc
    cases h2
    refine ⟨by simp [ZI,hlen],fun s hs=>hs,fun i hi=>?_,fun k hk s=>hk s,fun k hk i B hB=>?_⟩
    ·simp only [ZI]
     rw [zaD (by omega)]
     split
     ·rename_i hc
      obtain ⟨rfl,_⟩:=hc
      rw [hB]
      simp only [Option.map_some,yc,ht]
     ·rename_i hne
      rcases hi with hi | ⟨hi,ho⟩
      ·exact hi
      ·simp [qu] at hi
       exact absurd ⟨hi.symm,ho⟩ hne
    ·simp only [ZI] at hB
     rw [zaD (by omega)] at hB
     split at hB
     ·cases hB
      exact Yj _ _ (zhi l)
     ·exact hk i B hB
   ·cases h2
  ·cases hr
theorem zcj (v w:LV) (L:List LV) (i:Nat):qu (v :: w :: L) i = (qu [v] i || qu (w :: L) i):=by
 cases v <;> simp [qu]
theorem zhu:∀ {L:List LV} {x:zhV L} {m1:Mm},zcb old roS mS L = some x->m1.bx.length = n->(∀ i,qu L i = true->i < n) ->
  (Ya old m1 L x).bx.length = n/\((∀ s,Wk (pv (zV roT m1 s)) (pv (zV roS mS s)))->∀ s,Wk (pv (zV roT (Ya old m1 L x) s)) (pv (zV roS mS s))) /\
  (∀ i,((yj roT m1 i).map yc = (yj roS mS i).map yc ∨ (qu L i = true/\roT.ownB i = true))->(yj roT (Ya old m1 L x) i).map yc = (yj roS mS i).map yc) /\
  (∀ k,(∀ s,ltV k (toV (zV roT m1 s).1) = true)->∀ s,ltV k (toV (zV roT (Ya old m1 L x) s).1) = true) /\
  (∀ k,(∀ i B,yj roT m1 i = some B->Yc k (yc B).cells = true)->∀ i B,yj roT (Ya old m1 L x) i = some B->Yc k (yc B).cells = true)
 | [],x,m1,_,hlen,_=>⟨hlen,fun h=>h,fun i hi=>by
   rcases hi with hi | hi
   ·exact hi
   ·simp [qu] at hi,fun k h=>h,fun k h=>h⟩
 | [v],x,m1,hr,hlen,hb=>by
  obtain ⟨h1,h2,h3,h4,h5⟩:=zd1 (roT:=roT) hr hlen hb
  exact ⟨h1,fun h s=>h2 s (h s),h3,h4,h5⟩
 | v :: w :: L,x,m1,hr,hlen,hb=>by
  simp only [zcb] at hr
  split at hr
  ·rename_i y z hy hz
   cases hr
   obtain ⟨h1,h2,h3,h4,h5⟩:=zd1 (roT:=roT) (m1:=m1) hy hlen (fun i hi=>hb i (by rw [zcj,hi]; rfl))
   obtain ⟨g1,g2,g3,g4,g5⟩:=zhu (L:=w :: L) hz h1 (fun i hi=>hb i (by rw [zcj,hi]; simp))
   refine ⟨g1,fun h=>g2 fun s=>h2 s (h s),fun i hi=>g3 i ?_,fun k h=>g4 k (h4 k h),fun k h=>g5 k (h5 k h)⟩
   rcases hi with hi | ⟨hi,ho⟩
   ·exact .inl (h3 i (.inl hi))
   ·rw [zcj,Bool.or_eq_true] at hi
    rcases hi with hi | hi
    ·exact .inl (h3 i (.inr ⟨hi,ho⟩))
    ·exact .inr ⟨hi,ho⟩
  ·cases hr
end
theorem zF.carry {P:Program} {F:Fr} {a:Act} {w:World} {pr:Nat->Nat->Prop} {lam:Nat->Option Nat} {old:Nat->Option qr} {roS roT:RO} {mS m1:Mm} {n:Nat} {L:List LV} {x:zhV L}
  (h:zF P F (za roS mS) a w pr lam) (hr:zcb old roS mS L = some x) (hlen:m1.bx.length = n) (hnT:roT.nb <= n) (hL:∀ i,qu L i = true->i < n)
  (H1:∀ s,Wk (pv (zV roT m1 s)) (pv (zV roS mS s)))
  (H2:∀ i,i < n->(yj roT m1 i).map yc = (yj roS mS i).map yc ∨ (qu L i = true/\roT.ownB i = true))
  (E1:∀ s,ltV n (toV (zV roT m1 s).1) = true) (E2:∀ i B,yj roT m1 i = some B->Yc n (yc B).cells = true) (E3:∀ i b,F.lam0 i = some b->i < n) :
  ∃ lam',zF P F (za roT (Ya old m1 L x)) a w pr lam':=by
 obtain ⟨g1,g2,g3,g4,g5⟩:=zhu (roT:=roT) (m1:=m1) hr hlen hL
 have hw:=zF.weak h (nb':=n) (sl':=(za roT (Ya old m1 L x)).sl) (fun s=>g2 H1 s)
 have hd:=zF.drop hw (n:=n) (nb':=n) (fun s=>g4 n E1 s) (fun i B hi hB=>?_) E3
 ·refine ⟨_,(congrArg (fun st=>zF P F st a w pr _) ?_).mp hd⟩
  show (⟨n,_,_⟩:St) = za roT (Ya old m1 L x)
  unfold za
  rw [g1]
  congr 1
  funext i
  by_cases hi:i < n
  ·rw [if_pos hi]
   exact (g3 i (H2 i hi)).symm
  ·rw [if_neg hi]
   have:yj roT (Ya old m1 L x) i = none:=by
    unfold yj RO.ownB
    have hb:Nat.ble roT.nb i = true:=Nat.ble_eq_true_of_le (by omega)
    rw [hb]
    simp only [cond_true]
    rw [List.getElem?_eq_none (by omega)]; rfl
   rw [this]; rfl
 ·have hB':(yj roS mS i).map yc = some B:=hB
  rw [<- g3 i (H2 i hi)] at hB'
  cases hq:yj roT (Ya old m1 L x) i with
  | none=>rw [hq] at hB'; cases hB'
  | some B' =>
   rw [hq] at hB'
   cases hB'
   exact g5 n E2 i B' hq
theorem zF.below {P:Program} {F:Fr} {a:Act} {w:World} {pr:Nat->Nat->Prop} {lam:Nat->Option Nat} {ro:RO} {m:Mm} (h:zF P F (za ro m) a w pr lam) (hn:Nat.ble ro.nb m.bx.length = true) :
  (∀ s,ltV m.bx.length (toV (zV ro m s).1) = true)/\(∀ i B,yj ro m i = some B->Yc m.bx.length (yc B).cells = true)/\(∀ i b,F.lam0 i = some b->i < m.bx.length):=by
 have hl:∀ i,m.bx.length <= i->lam i = none:=by
  intro i hi
  refine h.nolam i ?_
  show (yj ro m i).map yc = none
  unfold yj RO.ownB
  have hb:Nat.ble ro.nb i = true:=Nat.ble_eq_true_of_le (Nat.le_trans (zvK hn) hi)
  rw [hb]
  simp only [cond_true]
  rw [List.getElem?_eq_none hi]; rfl
 refine ⟨fun s=>znP hl _ _ (h.env s),fun i B hB=>?_,fun i b hi=>?_⟩
 ·have hB':(za ro m).box i = some (yc B):=by show (yj ro m i).map yc = _; rw [hB]; rfl
  obtain ⟨b,q1,q2,_⟩:=h.box i _ hB'
  exact zrV hl q2
 ·rcases Nat.lt_or_ge i m.bx.length with q | q
  ·exact q
  ·have:=h.lamsub i b hi
   rw [hl i q] at this; cases this
end Go.X
namespace Go.X
open Go.Eng
open Go.RowKit
variable {β:Type}
section
variable {P:Program} {n':Nat}
theorem ztp {x y:Code} {st:St} {Q:Exit->St->Prop} (h:AWp P n' x st (ztE (fun st'=>AWp P n' y st' Q) Q)):AWp P n' (.seq x y) st Q:=by
 intro F a w pr lam hF hs
 refine wp_seq (wp_mono (h F a w pr lam hF hs) ?_)
 rintro e a' w' ⟨st',pr',lam',q,r⟩
 cases e with
 | normal=>exact q F a' w' pr' lam' hF r
 | exit id=>exact ⟨st',pr',lam',q,r⟩
 | goto l=>exact ⟨st',pr',lam',q,r⟩
 | ret=>exact ⟨st',pr',lam',q,r⟩
 | panic c=>exact ⟨st',pr',lam',q,r⟩
 | outgrown=>exact ⟨st',pr',lam',q,r⟩
theorem zqc {id:Nat} {x:Code} {st:St} {Q:Exit->St->Prop} (h:AWp P n' x st (zgc id Q)):AWp P n' (.block id x) st Q:=by
 intro F a w pr lam hF hs
 refine wp_block (wp_mono (h F a w pr lam hF hs) ?_)
 rintro e a' w' ⟨st',pr',lam',q,r⟩
 cases e with
 | exit id' =>
  simp only [zgc] at q
  simp only [Exit.inBlock]
  split at q
  ·rename_i hid; rw [if_pos hid]; exact ⟨st',pr',lam',q,r⟩
  ·rename_i hid; rw [if_neg hid]; exact ⟨st',pr',lam',q,r⟩
 | normal=>exact ⟨st',pr',lam',q,r⟩
 | goto l=>exact ⟨st',pr',lam',q,r⟩
 | ret=>exact ⟨st',pr',lam',q,r⟩
 | panic c=>exact ⟨st',pr',lam',q,r⟩
 | outgrown=>exact ⟨st',pr',lam',q,r⟩
theorem zr0 {c:Operand} {x y:Code} {st:St} {Q:Exit->St->Prop} {b:Bool} (hc:st.eval c = .bool b) (h1:b = true->AWp P n' x st Q) (h2:b = false->AWp P n' y st Q):AWp P n' (.cond c x y) st Q:=by
 intro F a w pr lam hF hs
 have hr:=hs.eval c
 rw [hc] at hr
 simp only [R] at hr
 exact wp_cond_split hr (fun ht=>h1 ht F a w pr lam hF hs) (fun hf=>h2 hf F a w pr lam hF hs)
end
theorem zcN {old:Nat->Option qr} {roI:RO} {mI m1:Mm} {e:EX} {k:Exit->Mm->Option β} {r:β}:∀ {es:List (EX × List LV)} {w:zrN es},zcv old roI mI e es = some w->zcc old m1 k es w = some r ->
  ∃ L,∃ x:zhV L,(∃ e',(e',L) ∈ es)/\zcb old roI mI L = some x/\k e.to (Ya old m1 L x) = some r
 | [],w,h,_=>by cases h
 | [(e0,L)],w,h,hk=>by
  simp only [zcv] at h
  obtain ⟨h1,h2⟩:=yp h
  have he:e0 = e:=by
   cases e0 <;> cases e <;> simp only [EX.beq,Bool.false_eq_true] at h1
   ·rw [zvJ h1]
   ·rfl
  subst he
  exact ⟨L,w,⟨e0,by simp⟩,h2,hk⟩
 | (e0,L) :: f :: es,w,h,hk=>by
  simp only [zcv] at h
  cases hb:e0.beq e with
  | true =>
   rw [hb] at h
   simp only [cond_true] at h
   have he:e0 = e:=by
    cases e0 <;> cases e <;> simp only [EX.beq,Bool.false_eq_true] at hb
    ·rw [zvJ hb]
    ·rfl
   subst he
   split at h
   ·rename_i x hx
    cases h
    simp only [zcc,Sum.elim_inl] at hk
    exact ⟨L,x,⟨e0,by simp⟩,hx,hk⟩
   ·cases h
  | false =>
   rw [hb] at h
   simp only [cond_false] at h
   split at h
   ·rename_i x hx
    cases h
    simp only [zcc,Sum.elim_inr] at hk
    obtain ⟨L',y,⟨e',q1⟩,q2,q3⟩:=zcN (es:=f :: es) hx hk
    exact ⟨L',y,⟨e',List.mem_cons_of_mem _ q1⟩,q2,q3⟩
   ·cases h
theorem EX.of_to {ex:Exit} {e:EX} (h:EX.of ex = some e):e.to = ex:=by
 cases ex <;> simp only [EX.of,zvL,reduceCtorEq] at h <;> subst h <;> rfl
theorem zhv:∀ (l:List Nat) (sl:T (S × Tk)) (s:Nat),(znG sl l).get s = if s ∈ l then some (.any,none) else sl.get s
 | [],sl,s=>by simp [znG]
 | x :: l,sl,s=>by
  simp only [znG]
  rw [zhv l,T.get_set]
  by_cases h1:s ∈ l
  ·simp [h1]
  ·by_cases h2:s = x
   ·subst h2; simp
   ·simp [h1,h2]
def okX (n':Nat):Code->Ann->Bool
 | .region id ops draw,a=>bif draw && a.isFull then ops.toList.all (Yp n') && Region.noSelect ops else bif draw && a.isSch then ops.toList.all (Yp n') && Region.noSelect ops else bif a.isSch then ops.toList.all (Yp n') else zaE n' [] (.region id ops draw)
 | .seq x y,a=>okX n' x a.l && okX n' y a.r
 | .cond _ x y,a=>okX n' x a.l && okX n' y a.r
 | .block _ b,a=>okX n' b a
 | .loop b,.loop _ _ _ _ a=>okX n' b a
 | _,_=>true
theorem Qe:∀ {L:List LV} {i:Nat},qu L i = true->i ∈ Qx L
 | [],i,h=>by simp [qu] at h
 | .slot _ _ _ :: L,i,h=>Qe (L:=L) h
 | .box j _ :: L,i,h=>by
  simp only [qu,Bool.or_eq_true] at h
  rcases h with h | h
  ·rw [zvJ h]; simp [Qx]
  ·simp [Qx,Qe h]
 | .mapb j _ _ :: L,i,h=>by
  simp only [qu,Bool.or_eq_true] at h
  rcases h with h | h
  ·rw [zvJ h]; simp [Qx]
  ·simp [Qx,Qe h]
section
variable {P:Program} {X:zc6 P}
theorem znY {ro:RO} {m:Mm} {mu:Bool} (hro:QL mu ro) (ops:Array Oper):ztF ops (za ro ⟨m.sl.mapV (zhW ((ops.toList.filter Q5).map (·.dst))),m.bx⟩):=by
 intro s t e ht h2 o ho hno hd
 have ht':(zV ro ⟨m.sl.mapV (zhW ((ops.toList.filter Q5).map (·.dst))),m.bx⟩ s).2 = some (t,e):=ht
 unfold zV at ht'
 cases hw:ro.own s with
 | false =>
  rw [hw] at ht'
  simp only [cond_false] at ht'
  rw [hro.tok s t e ht'] at h2
  omega
 | true =>
  rw [hw] at ht'
  simp only [cond_true,T.get_mapV] at ht'
  cases hg:m.sl.get s with
  | none=>rw [hg] at ht'; cases ht'
  | some x =>
   rw [hg] at ht'
   simp only [Option.map_some,Option.getD_some] at ht'
   unfold zhW at ht'
   cases hx:x.2 with
   | none=>rw [hx] at ht'; simp only at ht'; rw [hx] at ht'; cases ht'
   | some te =>
    obtain ⟨t',e'⟩:=te
    rw [hx] at ht'
    simp only at ht'
    cases hb:(Nat.blt (tcl t') 2 && inD ((ops.toList.filter Q5).map (·.dst)) t') with
    | true=>rw [hb] at ht'; cases ht'
    | false =>
     rw [hb] at ht'
     simp only [cond_false] at ht'
     rw [hx] at ht'
     cases ht'
     rw [Bool.and_eq_false_iff] at hb
     rcases hb with hb | hb
     ·have:Nat.blt (tcl t) 2 = true:=Nat.ble_eq_true_of_le h2
      rw [this] at hb; cases hb
     ·have:inD ((ops.toList.filter Q5).map (·.dst)) t = true:=by
       unfold inD
       rw [List.any_eq_true]
       exact ⟨some (t % 1000000),List.mem_map.2 ⟨o,List.mem_filter.2 ⟨ho,hno⟩,hd⟩,Nat.beq_refl _⟩
      rw [this] at hb; cases hb
theorem ztq (ds:List (Option Nat)) (x:S × Tk):Wk (pv (zhW ds x)) (pv x):=by
 unfold zhW
 split
 ·generalize (Nat.blt _ 2 && _:Bool) = b
  cases b with
  | true=>exact .inr (.inl rfl)
  | false=>exact .inl rfl
 ·exact .inl rfl
theorem zqd {ro:RO} {m:Mm} (ds:List (Option Nat)) (s:Nat):Wk ((za ro ⟨m.sl.mapV (zhW ds),m.bx⟩).sl s) ((za ro m).sl s):=by
 show Wk (pv (zV ro ⟨m.sl.mapV (zhW ds),m.bx⟩ s)) (pv (zV ro m s))
 unfold zV
 cases hw:ro.own s with
 | false=>exact .inl rfl
 | true =>
  simp only [cond_true,T.get_mapV]
  cases hg:m.sl.get s with
  | none=>exact .inl rfl
  | some x=>exact ztq ds x
theorem Zq (hm:P.follows .mixedOrders = true) {n':Nat}:∀ (c:Code) (a:Ann) (ro:RO) (hro:QL (!Nat.beq X.wr 0) ro) (m:Mm) {β:Type} (k:Exit->Mm->Option β) (r:β) (Kp:Exit->St->Prop),okX n' c a = true ->
  (∀ ex m',k ex m' = some r->Kp ex (za ro m'))->za1 X c a ro m k = some r->AWp P n' c (za ro m) Kp
 | .skip,_,ro,hro,m,β,k,r,Kp,_,hK,h=>fun F a w pr lam _ hs=>wp_skip ⟨_,pr,lam,hK _ _ h,hs⟩
 | .label _,_,ro,hro,m,β,k,r,Kp,_,hK,h=>fun F a w pr lam _ hs=>wp_label ⟨_,pr,lam,hK _ _ h,hs⟩
 | .exit id,_,ro,hro,m,β,k,r,Kp,_,hK,h=>fun F a w pr lam _ hs=>wp_exit ⟨_,pr,lam,hK _ _ h,hs⟩
 | .ret,_,ro,hro,m,β,k,r,Kp,_,hK,h=>fun F a w pr lam _ hs=>wp_ret ⟨_,pr,lam,hK _ _ h,hs⟩
 | .region id ops dr,a,ro,hro,m,β,k,r,Kp,hok,hK,h=>by
  cases hful:(dr && a.isFull) with
  | true =>
   simp only [okX,hful,cond_true,zvI] at hok
   simp only [za1,hful,cond_true] at h
   rw [zvI] at hful
   obtain ⟨rfl,_⟩:=hful
   exact AWp.full hm hok.1 hok.2 (zaC hro (fun m' h'=>hK _ _ h') _ _ m h)
  | false =>
  simp only [okX,hful,cond_false] at hok
  simp only [za1,hful,cond_false] at h
  clear hful
  cases hsch:(dr && a.isSch) with
  | true =>
   simp only [hsch,cond_true,zvI] at hok
   simp only [hsch,cond_true] at h
   rw [zvI] at hsch
   obtain ⟨rfl,_⟩:=hsch
   split at h
   ·rename_i l hl
    exact AWp.sched hm hok.1 hok.2 hl (zan hro (fun m' h'=>hK _ _ h') l m h)
   ·cases h
  | false =>
  simp only [hsch,cond_false] at hok
  simp only [hsch,cond_false] at h
  cases hsc:a.isSch with
  | true =>
   rw [hsc] at hok h hsch
   simp only [cond_true] at hok h
   simp only [Bool.and_true] at hsch
   subst hsch
   exact AWp.clr hok (zfh hro (fun m' h'=>hK _ _ h') _ m h)
  | false =>
  rw [hsc] at hok h
  simp only [cond_false] at hok h
  clear hsch hsc
  cases dr with
  | false =>
   refine ZF hm (.region id ops false) _ _ hok ?_
   show (if ([]:List Nat).contains id = true then _ else zqG P false ops (za ro m) (Kp .normal))
   rw [if_neg (by simp)]
   exact ⟨(fun h=>by cases h),zbl hro (fun m' h'=>hK _ _ h') _ _ h⟩
  | true =>
   have hv:Q7 P true (ops.toList.map (·.dst)) ops.toList (za ro ⟨m.sl.mapV (zhW ((ops.toList.filter Q5).map (·.dst))),m.bx⟩) (Kp .normal):=zbl hro (fun m' h'=>hK _ _ h') _ _ h
   have hn:=znY (m:=m) hro ops
   have hw:=zqd (ro:=ro) (m:=m) ((ops.toList.filter Q5).map (·.dst))
   generalize hm1:za ro ⟨m.sl.mapV (zhW ((ops.toList.filter Q5).map (·.dst))),m.bx⟩ = st1 at hv hn hw
   have hc:AWp P n' (.region id ops true) st1 Kp:=by
    refine ZF hm (.region id ops true) _ _ hok ?_
    show (if ([]:List Nat).contains id = true then _ else zqG P true ops st1 (Kp .normal))
    rw [if_neg (by simp)]
    exact ⟨fun _=>hn,hv⟩
   intro F a w pr lam hF hs
   refine hc F a w pr lam hF ?_
   have:=zF.weak hs (nb':=st1.nb) (sl':=st1.sl) hw
   have hb:st1.box = (za ro m).box:=by rw [<- hm1]; rfl
   rw [<- hb] at this
   exact this
 | .seq x y,a,ro,hro,m,β,k,r,Kp,hok,hK,h=>by
  simp only [okX,zvI] at hok
  refine ztp (Zq hm x a.l ro hro m _ r _ hok.1 ?_ h)
  intro ex m' h'
  cases ex with
  | normal=>exact Zq hm y a.r ro hro m' k r Kp hok.2 hK h'
  | exit id=>exact hK _ _ h'
  | goto l=>exact hK _ _ h'
  | ret=>exact hK _ _ h'
  | panic c=>exact hK _ _ h'
  | outgrown=>exact hK _ _ h'
 | .cond c x y,a,ro,hro,m,β,k,r,Kp,hok,hK,h=>by
  simp only [okX,zvI] at hok
  simp only [za1] at h
  split at h
  ·rename_i b hb
   have he:(za ro m).eval c = .bool b:=by rw [<- zq,hb]; simp [toV]
   refine zr0 he (fun hbt=>?_) (fun hbf=>?_)
   ·subst hbt
    have:=Zq hm x a.l ro hro (Y8 ro m c true) k r Kp hok.1 hK h
    rwa [zhs hb] at this
   ·subst hbf
    have:=Zq hm y a.r ro hro (Y8 ro m c false) k r Kp hok.2 hK h
    rwa [zhs hb] at this
  ·cases h
 | .block id x,a,ro,hro,m,β,k,r,Kp,hok,hK,h=>by
  refine zqc (Zq hm x a ro hro m _ r _ hok ?_ h)
  intro ex m' h'
  cases ex with
  | exit id' =>
   simp only at h'
   simp only [zgc]
   cases hb:Nat.beq id' id with
   | true=>rw [hb] at h'; rw [if_pos (zvJ hb)]; exact hK _ _ h'
   | false =>
    rw [hb] at h'
    rw [if_neg (fun e=>by subst e; simp at hb)]
    exact hK _ _ h'
  | normal=>exact hK _ _ h'
  | goto l=>exact hK _ _ h'
  | ret=>exact hK _ _ h'
  | panic c=>exact hK _ _ h'
  | outgrown=>exact hK _ _ h'
 | .loop x,.loop ds bs L es a,ro,hro,m,β,k,r,Kp,hok,hK,h=>by
  simp only [za1] at h
  obtain ⟨h0,h⟩:=yp h
  simp only [zvI] at h0
  obtain ⟨⟨⟨⟨⟨⟨⟨c1,c2⟩,c3⟩,c4⟩,c5⟩,c6⟩,c7⟩,c8⟩:=h0
  split at h
  case h_2=>cases h
  rename_i v0 hv0
  obtain ⟨out,hit,hw⟩:=bind_some h
  obtain ⟨N,hN⟩:=Q2.1 hit
  have d1:∀ s ∈ ds,ro.own s = true:=List.all_eq_true.1 c1
  have d2:∀ i ∈ bs,ro.ownB i = true:=List.all_eq_true.1 c2
  have d3:∀ i ∈ bs,i < m.bx.length:=fun i hi=>zh0 (List.all_eq_true.1 c3 i hi)
  have d4:∀ i ∈ bs,qu L i = true:=List.all_eq_true.1 c4
  have d5:∀ e ∈ es,∀ i ∈ bs,qu e.2 i = true:=fun e he=>List.all_eq_true.1 (List.all_eq_true.1 c5 e he)
  have d6:ro.nb <= m.bx.length:=zvK c6
  have ownI:∀ s,(Ym (!Nat.beq X.wr 0) ro m ds bs).own s = decide (s ∈ ds):=fun s=>by
   unfold RO.own Ym; simp only [cond_false]; exact zfj ds s
  have ownBI:∀ i,i < m.bx.length->(Ym (!Nat.beq X.wr 0) ro m ds bs).ownB i = decide (i ∈ bs):=fun i hi=>by
   unfold RO.ownB Ym
   have:Nat.ble m.bx.length i = false:=by
    cases hb:Nat.ble m.bx.length i
    ·rfl
    ·have:=zvK hb; omega
   rw [this]; simp only [cond_false]; exact zfj bs i
  have ownBI':∀ i,m.bx.length <= i->(Ym (!Nat.beq X.wr 0) ro m ds bs).ownB i = true:=fun i hi=>by
   unfold RO.ownB Ym
   rw [Nat.ble_eq_true_of_le hi]; rfl
  have hroI:QL (!Nat.beq X.wr 0) (Ym (!Nat.beq X.wr 0) ro m ds bs):=by
   refine ⟨fun s=>znR _ _,fun s t e h=>zp7 h,fun hfl s _=>?_,fun hfl i B hi hB=>?_⟩
   ·have hfl':(!Nat.beq X.wr 0) = true:=by
     have:((!Nat.beq X.wr 0) && _) = true:=hfl
     rw [zvI] at this; exact this.1
    show (ZC (!Nat.beq X.wr 0) (zV ro m s)).2 ≠ none ∨ qA (ZC (!Nat.beq X.wr 0) (zV ro m s)).1 = true
    rw [hfl']
    exact znS
   ·have hfl':((List.range m.bx.length).all fun i=>match yj ro m i with | some B=>zbx B | none=>true) = true:=by
     have:((!Nat.beq X.wr 0) && _) = true:=hfl
     rw [zvI] at this; exact this.2
    have hil:i < m.bx.length:=by
     rcases Nat.lt_or_ge i m.bx.length with q | q
     ·exact q
     ·rw [ownBI' i q] at hi; cases hi
    have:=List.all_eq_true.1 hfl' i (List.mem_range.2 hil)
    have hB':yj ro m i = some B:=hB
    rw [hB'] at this
    exact this
  intro F ac w pr lam hF hs
  obtain ⟨E1,E2,E3⟩:=zF.below hs c6
  have f1:∀ i,qu L i = true->i < m.bx.length:=fun i hi=>d3 i (zkk.1 (List.all_eq_true.1 c7 i (Qe hi)))
  have f2:∀ e ∈ es,∀ i,qu e.2 i = true->i < m.bx.length:=fun e he i hi=>d3 i (zkk.1 (List.all_eq_true.1 (List.all_eq_true.1 c8 e he) i (Qe hi)))
  have hlen0:(⟨.nil,List.replicate m.bx.length none⟩:Mm).bx.length = m.bx.length:=by simp
  have getS0:∀ s,zV (Ym (!Nat.beq X.wr 0) ro m ds bs) ⟨.nil,List.replicate m.bx.length none⟩ s = if s ∈ ds then (.any,none) else ZC (!Nat.beq X.wr 0) (zV ro m s):=by
   intro s
   rw [zV,ownI]
   by_cases hs:s ∈ ds
   ·simp [hs,T.get_nil]
   ·simp only [hs,decide_false,cond_false,if_false]
    rfl
  have getB0:∀ i,i < m.bx.length->i ∉ bs->yj (Ym (!Nat.beq X.wr 0) ro m ds bs) ⟨.nil,List.replicate m.bx.length none⟩ i = yj ro m i:=by
   intro i hi hb
   rw [yj,ownBI i hi]
   simp only [hb,decide_false,cond_false]
   rfl
  have E1':∀ s,ltV m.bx.length (toV (zV (Ym (!Nat.beq X.wr 0) ro m ds bs) ⟨.nil,List.replicate m.bx.length none⟩ s).1) = true:=by
   intro s
   rw [getS0]
   split
   ·simp [toV,ltV]
   ·exact zmh (E1 s)
  have E2':∀ i B,yj (Ym (!Nat.beq X.wr 0) ro m ds bs) ⟨.nil,List.replicate m.bx.length none⟩ i = some B->Yc m.bx.length (yc B).cells = true:=by
   intro i B hB
   rcases Nat.lt_or_ge i m.bx.length with hi | hi
   ·by_cases hb:i ∈ bs
    ·rw [yj,ownBI i hi] at hB
     simp [hb,hi] at hB
    ·rw [getB0 i hi hb] at hB
     exact E2 i B hB
   ·rw [yj,ownBI' i hi] at hB
    simp [Nat.not_lt.2 hi] at hB
  have enter:∀ (roS:RO) (mS:Mm) (v:zhV L) (a':Act) (w':World) (pr':Nat->Nat->Prop) (lam':Nat->Option Nat),zcb (yj ro m) roS mS L = some v->zF P F (za roS mS) a' w' pr' lam' ->
    (∀ s,s ∉ ds->Wk (pv (ZC (!Nat.beq X.wr 0) (zV ro m s))) (pv (zV roS mS s)))->(∀ i,i < m.bx.length->i ∉ bs->(yj roS mS i).map yc = (yj ro m i).map yc) ->
    ∃ lam'',zF P F (za (Ym (!Nat.beq X.wr 0) ro m ds bs) (Ya (yj ro m) ⟨.nil,List.replicate m.bx.length none⟩ L v)) a' w' pr' lam'':=by
   intro roS mS v a' w' pr' lam' hr hs' hw1 hw2
   refine zF.carry hs' hr hlen0 (Nat.le_refl _) f1 (fun s=>?_) (fun i hi=>?_) E1' E2' E3
   ·rw [getS0]
    split
    ·exact .inr (.inr (by simp [pv,toV]))
    ·exact hw1 s ‹_›
   ·by_cases hb:i ∈ bs
    ·exact .inr ⟨d4 i hb,by rw [ownBI i hi]; simp [hb]⟩
    ·rw [getB0 i hi hb]
     exact .inl (hw2 i hi hb).symm
  obtain ⟨lam0,hs0⟩:=enter ro m v0 ac w pr lam hv0 hs (fun s _=>zmg _ _) (fun i _ _=>rfl)
  have insS:∀ (mI:Mm) s,s ∉ ds->zV (Ym (!Nat.beq X.wr 0) ro m ds bs) mI s = ZC (!Nat.beq X.wr 0) (zV ro m s):=by
   intro mI s hsd
   rw [zV,ownI]
   simp only [hsd,decide_false,cond_false]
   rfl
  have insB:∀ (mI:Mm) i,i < m.bx.length->i ∉ bs->yj (Ym (!Nat.beq X.wr 0) ro m ds bs) mI i = yj ro m i:=by
   intro mI i hi hb
   rw [yj,ownBI i hi]
   simp only [hb,decide_false,cond_false]
   rfl
  refine zmH (fun j a' w'=>∃ v pr' lam',zby _ j v = some out/\zF P F (za (Ym (!Nat.beq X.wr 0) ro m ds bs) (Ya (yj ro m) ⟨.nil,List.replicate m.bx.length none⟩ L v)) a' w' pr' lam') ?_ N ac w ⟨v0,pr,lam0,hN,hs0⟩
  rintro j a' w' ⟨v,pr',lam',hj,hsv⟩
  cases j with
  | zero=>cases hj
  | succ j =>
   unfold zby at hj
   split at hj
   ·rename_i v' hF'
    have hbody:=Zq hm x a _ hroI _ _ _ (fun ex st'=>∃ m',st' = za (Ym (!Nat.beq X.wr 0) ro m ds bs) m'/\ex = .normal/\zcb (yj ro m) (Ym (!Nat.beq X.wr 0) ro m ds bs) m' L = some v') hok (fun ex m' h'=>?_) hF'
    ·refine wp_mono (hbody F a' w' pr' lam' hF hsv) ?_
     rintro ex a'' w'' ⟨st',pr'',lam'',⟨m',rfl,rfl,hr⟩,hs'⟩
     obtain ⟨lam3,hs3⟩:=enter _ m' v' a'' w'' pr'' lam'' hr hs' (fun s hsd=>by rw [insS m' s hsd]; exact .inl rfl) (fun i hi hb=>by rw [insB m' i hi hb])
     exact ⟨j,by omega,v',pr'',lam3,hj,hs3⟩
    ·cases ex with
     | normal =>
      simp only at h'
      split at h'
      ·rename_i w2 hw2; cases h'; exact ⟨m',rfl,rfl,hw2⟩
      ·cases h'
     | exit id =>
      simp only at h'
      split at h'
      ·split at h' <;> cases h'
      ·cases h'
     | ret =>
      simp only at h'
      split at h'
      ·split at h' <;> cases h'
      ·cases h'
     | goto l=>simp [EX.of] at h'
     | panic l=>simp [EX.of] at h'
     | outgrown=>simp [EX.of] at h'
   ·rename_i out' hF'
    cases hj
    have hbody:=Zq hm x a _ hroI _ _ _ (fun ex st'=>∃ m' e,st' = za (Ym (!Nat.beq X.wr 0) ro m ds bs) m'/\EX.of ex = some e/\zcv (yj ro m) (Ym (!Nat.beq X.wr 0) ro m ds bs) m' e es = some out) hok (fun ex m' h'=>?_) hF'
    ·refine wp_mono (hbody F a' w' pr' lam' hF hsv) ?_
     rintro ex a'' w'' ⟨st',pr'',lam'',⟨m',e,rfl,he,hr⟩,hs'⟩
     obtain ⟨L',y,⟨e',hmem⟩,hr',hk'⟩:=zcN hr hw
     have getS1:∀ s,zV ro ⟨znG (m.sl.mapV (ZC (!Nat.beq X.wr 0))) ds,m.bx⟩ s = if s ∈ ds then (.any,none) else ZC (!Nat.beq X.wr 0) (zV ro m s):=by
      intro s
      unfold zV
      by_cases hsd:s ∈ ds
      ·rw [d1 s hsd,if_pos hsd]
       simp [zhv,hsd]
      ·rw [if_neg hsd]
       cases ho:ro.own s
       ·exact (hro.idem s).symm
       ·simp only [cond_true]
        rw [zhv,if_neg hsd,T.get_mapV]
        cases m.sl.get s
        ·simp [ZC,qA]
        ·rfl
     obtain ⟨lam3,hs3⟩:=zF.carry (roT:=ro) (m1:=⟨znG (m.sl.mapV (ZC (!Nat.beq X.wr 0))) ds,m.bx⟩) (n:=m.bx.length) hs' hr' rfl d6 (f2 _ hmem) (fun s=>by
       rw [getS1]
       split
       ·exact .inr (.inr (by simp [pv,toV]))
       ·rw [insS m' s ‹_›]; exact .inl rfl) (fun i hi=>by
       by_cases hb:i ∈ bs
       ·exact .inr ⟨d5 _ hmem i hb,d2 i hb⟩
       ·rw [insB m' i hi hb]; exact .inl rfl) (fun s=>by
       rw [getS1]
       split
       ·simp [toV,ltV]
       ·exact zmh (E1 s)) E2 E3
     have hfin:=hK _ _ hk'
     rw [EX.of_to he] at hfin
     cases ex with
     | normal=>simp [EX.of] at he
     | exit id=>exact ⟨_,pr'',lam3,hfin,hs3⟩
     | ret=>exact ⟨_,pr'',lam3,hfin,hs3⟩
     | goto l=>simp [EX.of] at he
     | panic l=>simp [EX.of] at he
     | outgrown=>simp [EX.of] at he
    ·cases ex with
     | normal =>
      simp only at h'
      split at h' <;> cases h'
     | exit id =>
      simp only at h'
      split at h'
      ·rename_i e he
       split at h'
       ·rename_i w2 hw2; cases h'; exact ⟨m',e,rfl,he,hw2⟩
       ·cases h'
      ·cases h'
     | ret =>
      simp only at h'
      split at h'
      ·rename_i e he
       split at h'
       ·rename_i w2 hw2; cases h'; exact ⟨m',e,rfl,he,hw2⟩
       ·cases h'
      ·cases h'
     | goto l=>simp [EX.of] at h'
     | panic l=>simp [EX.of] at h'
     | outgrown=>simp [EX.of] at h'
   ·cases hj
 | .loop _,.no,ro,hro,m,β,k,r,Kp,_,_,h=>by cases h
 | .loop _,.two _ _,ro,hro,m,β,k,r,Kp,_,_,h=>by cases h
 | .rangeFunc _ _ _ _,a,ro,hro,m,β,k,r,Kp,_,_,h=>by cases a <;> cases h
 | .scope _,a,ro,hro,m,β,k,r,Kp,_,_,h=>by cases a <;> cases h
 | .goto _,a,ro,hro,m,β,k,r,Kp,_,_,h=>by cases a <;> cases h
 | .refuse _,a,ro,hro,m,β,k,r,Kp,_,_,h=>by cases a <;> cases h
end
end Go.X
namespace Go.X
open Go.Eng
open Go.RowKit
variable {β:Type}
section
variable {P:Program}
theorem zhw:∀ (args:List S) (n s:Nat),(Qs n args).get s = if n <= s then (args[s - n]?).map (·,some (2000000,0)) else none
 | [],n,s=>by simp [Qs,T.get_nil]
 | a :: args,n,s=>by
  simp only [Qs]
  rw [T.get_set,zhw args (n + 1) s]
  by_cases h:s = n
  ·subst h; simp
  ·rw [if_neg h]
   by_cases h1:n + 1 <= s
   ·rw [if_pos h1,if_pos (by omega)]
    have:s - n = s - (n + 1) + 1:=by omega
    rw [this,List.getElem?_cons_succ]
   ·rw [if_neg h1,if_neg (by omega)]
theorem zi1 {F:Fr} {a:Act} {w:World} {pr:Nat->Nat->Prop} {lam:Nat->Option Nat} {args:List S} {ins:List qr} (h:zF P F (St.init (zj args) (ins.map yc)) a w pr lam) :
  zF P F (za qK ⟨Qs 0 args,ins.map some⟩) a w pr lam:=by
 have hw:=zF.weak h (nb':=ins.length) (sl':=(za qK ⟨Qs 0 args,ins.map some⟩).sl) (fun s=>?_)
 ·refine (congrArg (fun st=>zF P F st a w pr lam) ?_).mp hw
  show (⟨ins.length,_,_⟩:St) = za _ _
  unfold za
  congr 1
  ·simp
  ·funext i
   show (ins.map yc)[i]? = (yj qK ⟨Qs 0 args,ins.map some⟩ i).map yc
   have:yj qK ⟨Qs 0 args,ins.map some⟩ i = ((ins.map some)[i]?).getD none:=rfl
   rw [this,List.getElem?_map,List.getElem?_map]
   cases ins[i]? <;> rfl
 ·show Wk (pv (zV qK ⟨Qs 0 args,ins.map some⟩ s)) ((zj args).getD s .un,some (2000000,0))
  have:zV qK ⟨Qs 0 args,ins.map some⟩ s = ((Qs 0 args).get s).getD (.any,none):=rfl
  rw [this,zhw]
  simp only [Nat.zero_le,if_true,Nat.sub_zero]
  cases hq:args[s]? with
  | none=>exact .inr (.inr (by simp [pv,toV]))
  | some x =>
   refine .inl ?_
   simp only [Option.map_some,Option.getD_some,pv,List.getD,Y9,hq]
theorem zi2 {m:Mm}:∀ {rs:List ResultVar} {vs:List S},znH (P:=P) m rs = some vs->zaF (za qK m) P rs = some (zj vs)
 | [],vs,h=>by simp only [znH,zvL] at h; subst h; simp [zaF,zj]
 | r :: rs,vs,h=>by
  simp only [znH] at h
  simp only [zaF]
  split at h
  ·rename_i v vs' h1 h2
   cases h
   rw [zi2 h2]
   have:zcQ (za qK m) P r = some (toV v):=by
    cases r with
    | tmp t =>
     simp only [zvL] at h1
     subst h1; rfl
    | cell a t =>
     simp only at h1
     have he:(za qK m).env a = toV (zV qK m a).1:=rfl
     simp only [zcQ]
     rw [he]
     split at h1
     ·rename_i i off hl
      rw [hl]
      simp only [toV]
      split at h1
      ·rename_i cs ty hB ha
       have hb:(za qK m).box i = some ⟨zj cs,ty⟩:=by show (yj qK m i).map yc = _; rw [hB]; rfl
       simp only [hb,ha]
       split at h1
       ·rename_i n hn
        obtain ⟨q1,q2⟩:=yp h1
        simp only [zvI] at q1
        cases q2
        simp only [hn]
        rw [if_pos ⟨zh0 q1.1,by rw [y9]; exact zvK q1.2⟩]
        simp [toV,QF]
       ·cases h1
      ·rename_i cs ty hB ha
       have hb:(za qK m).box i = some ⟨zj cs,ty⟩:=by show (yj qK m i).map yc = _; rw [hB]; rfl
       simp only [hb,ha]
       cases hq:Nat.blt ty 1000000000 with
       | false=>rw [hq] at h1; cases h1
       | true =>
        rw [hq] at h1
        simp only [cond_true] at h1
        rw [if_pos (zh0 hq),Y9,h1]; rfl
      ·cases h1
     ·cases h1
   rw [this]
   simp [zj]
  ·cases h
theorem zhx {m:Mm}:∀ {n i:Nat} {outs:List qr},zhg m i n = some outs->outs.length = n/\(∀ B ∈ outs,zb9 B = true)/\∀ j B,outs[j]? = some B->yj qK m (i + j) = some B
 | 0,i,outs,h=>by
  simp only [zhg,zvL] at h; subst h
  exact ⟨rfl,by simp,fun j B hj=>by simp at hj⟩
 | n + 1,i,outs,h=>by
  simp only [zhg] at h
  split at h
  ·rename_i B bs h1 h2
   obtain ⟨q1,q2⟩:=yp h
   cases q2
   obtain ⟨a1,a2,a3⟩:=zhx h2
   refine ⟨by simp [a1],fun B' hB'=>?_,fun j B' hj=>?_⟩
   ·simp at hB'
    rcases hB' with rfl | hB'
    ·exact q1
    ·exact a2 B' hB'
   ·cases j with
    | zero=>simp at hj; subst hj; exact h1
    | succ j =>
     have:=a3 j B' (by simpa using hj)
     rwa [show i + 1 + j = i + (j + 1) from by omega] at this
  ·cases h
theorem zpb {X:zc6 P} (hm:P.follows .mixedOrders = true) {f:FuncId} {fn:Func} {c:Code} {a:Ann} (hf:P.funcs[f]? = some fn) (hb:fn.body = some c) (hok:okX fn.ntmps c a = true) {args:List S} {ins:List qr}
  (hsz:args.length <= fn.ntmps) {K:S->List qr->Option β} {r:β} {vres:V} {vouts:List Box} (h:zrO X fn.results.toList c a args ins K = some r)
  (hK:∀ res outs,K res outs = some r->outs.length = ins.length->toV res = vres/\outs.map yc = vouts) (hnl:vres.noLoc = true) (hno:∀ B ∈ vouts,V.noLocL B.cells = true) (hl:vouts.length <= ins.length) :
  Go.Eng.Fn P f (zj args) (ins.map yc) vres vouts:=by
 refine Fn.of_AWp hf hb (by rw [y9]; exact hsz) hnl hno (by simpa using hl) ?_
 have hc:=Zq (X:=X) hm c a qK ⟨fun s=>by simp [qK,ZC,qA],fun s t e h=>(by cases h),fun _ s _=>.inr rfl,fun _ i B hi=>(by cases hi)⟩ _ _ r (zuS P fn.results.toList vres vouts) hok ?_ h
 ·intro F ac w pr lam hF hs
  exact hc F ac w pr lam hF (zi1 hs)
 ·intro ex m' hk
  have key:(∃ vs outs,znH (P:=P) m' fn.results.toList = some vs/\zhg m' 0 ins.length = some outs/\K (match vs with | [v]=>v | vs=>.tup vs) outs = some r)->zk2 (za qK m') P fn.results.toList = some vres/\(∀ i B,vouts[i]? = some B->(za qK m').box i = some B):=by
   rintro ⟨vs,outs,h1,h2,h3⟩
   obtain ⟨q1,q2,q3⟩:=zhx h2
   obtain ⟨e1,e2⟩:=hK _ _ h3 q1
   refine ⟨?_,fun i B hB=>?_⟩
   ·unfold zk2
    rw [zi2 h1,<- e1]
    match vs with
    | []=>simp [zj,toV]
    | [v]=>simp [zj]
    | v :: w :: vs=>simp [zj,toV]
   ·rw [<- e2,List.getElem?_map] at hB
    cases ho:outs[i]? with
    | none=>rw [ho] at hB; cases hB
    | some B' =>
     rw [ho] at hB
     cases hB
     show (yj qK m' i).map yc = _
     have:=q3 i B' ho
     rw [Nat.zero_add] at this
     rw [this]; rfl
  have hk':(ex = .ret ∨ ex = .normal)/\∃ vs outs,znH (P:=P) m' fn.results.toList = some vs/\zhg m' 0 ins.length = some outs/\K (match vs with | [v]=>v | vs=>.tup vs) outs = some r:=by
   split at hk
   ·rename_i v outs hex h1 h2
    obtain ⟨_,hk⟩:=yp hk
    refine ⟨?_,_,_,h1,h2,hk⟩
    cases ex <;> simp at hex ⊢
   ·rename_i vs outs hne hex h1 h2
    obtain ⟨_,hk⟩:=yp hk
    refine ⟨?_,_,_,h1,h2,?_⟩
    ·cases ex <;> simp at hex ⊢
    ·match vs,hne with
     | [],_=>exact hk
     | [v],hne=>exact absurd rfl (hne v)
     | v :: w :: vs,_=>exact hk
   ·cases hk
  obtain ⟨hex,hk'⟩:=hk'
  rcases hex with rfl | rfl
  ·exact key hk'
  ·exact key hk'
end
@[reducible] def Zk:List C->Type
 | []=>Unit
 | [c]=>den c
 | c :: d :: cs=>den c × Zk (d :: cs)
def Yz:(cs:List C)->List S->Option (Zk cs)
 | [],[]=>some ()
 | [c],[s]=>qW c s
 | c :: d :: cs,s :: ss=>(match qW c s,Yz (d :: cs) ss with | some x,some y=>some (x,y) | _,_=>none)
 | _,_=>none
def ZA:(cs:List C)->Zk cs->List S
 | [],_=>[]
 | [c],x=>[refl c x]
 | c :: d :: cs,x=>refl c x.1 :: ZA (d :: cs) x.2
def zib:(cs:List C)->Zk cs->List V
 | [],_=>[]
 | [c],x=>[enc c x]
 | c :: d :: cs,x=>enc c x.1 :: zib (d :: cs) x.2
theorem za6:∀ (cs:List C) (x:Zk cs),zj (ZA cs x) = zib cs x
 | [],_=>by simp [ZA,zib,zj]
 | [c],x=>by simp [ZA,zib,zj,qJ]
 | c :: d :: cs,x=>by simp [ZA,zib,zj,qJ,za6 (d :: cs) x.2]
theorem YR:∀ {cs:List C} {ss:List S} {x:Zk cs},Yz cs ss = some x->zj ss = zib cs x
 | [],[],x,h=>by simp [zib,zj]
 | [],_ :: _,x,h=>by simp [Yz] at h
 | [c],[],x,h=>by simp [Yz] at h
 | [c],[s],x,h=>by
  simp only [Yz] at h
  simp [zib,zj,yy h]
 | [c],_ :: _ :: _,x,h=>by simp [Yz] at h
 | c :: d :: cs,[],x,h=>by simp [Yz] at h
 | c :: d :: cs,s :: ss,x,h=>by
  simp only [Yz] at h
  split at h
  ·rename_i y z hy hz
   cases h
   simp [zib,zj,yy hy,YR hz]
  ·cases h
theorem zfk:∀ (cs:List C) (x:Zk cs),qX (ZA cs x) = true
 | [],_=>rfl
 | [c],x=>by simp [ZA,qX,zaB]
 | c :: d :: cs,x=>by simp [ZA,qX,zaB,zfk (d :: cs) x.2]
def znZ (rs:List C) (x:Zk rs):S:=match ZA rs x with
 | [v]=>v
 | vs=>.tup vs
def zd2 (rs:List C) (x:Zk rs):V:=toV (znZ rs x)
def zcA (rs:List C) (s:S):Option (Zk rs):=match rs with
 | [c]=>qW c s
 | rs=>(match s with | .tup vs=>Yz rs vs | _=>none)
theorem zfl:∀ {rs:List C} {s:S} {x:Zk rs},zcA rs s = some x->toV s = zd2 rs x
 | [c],s,x,h=>by
  simp only [zcA] at h
  show toV s = toV (refl c x)
  rw [qJ]; exact yy h
 | [],s,x,h=>by
  simp only [zcA] at h
  split at h
  ·rename_i vs
   have e:=YR h
   simp only [toV,e,zib]
   show _ = toV (.tup [])
   simp [toV,zj]
  ·cases h
 | c :: d :: rs,s,x,h=>by
  simp only [zcA] at h
  split at h
  ·rename_i vs
   have e:=YR h
   rw [<- za6] at e
   have hq:znZ (c :: d :: rs) x = .tup (ZA (c :: d :: rs) x):=by
    unfold znZ
    cases rs <;> simp [ZA]
   unfold zd2
   rw [hq]
   simp only [toV,e]
  ·cases h
theorem zda (rs:List C) (x:Zk rs):yM (znZ rs x) = true:=by
 unfold znZ
 have h:=zfk rs x
 split
 ·rename_i v e
  rw [e] at h
  simpa [qX] using h
 ·rename_i e; simpa [yM] using h
theorem zfm (rs:List C) (x:Zk rs):(zd2 rs x).noLoc = true:=zdU _ (zda rs x)
inductive AK where
 | d (c:C)
 | f (g:FuncId) (caps:List Nat)
 | l (i off:Nat)
 | m (g:FuncId)
 | e
def qR:List AK->List C
 | []=>[]
 | .d c :: ak=>c :: qR ak
 | _ :: ak=>qR ak
def zr1:List Nat->List S
 | []=>[]
 | i :: is=>.loc i 0 :: zr1 is
def yH:List AK->List S->List S
 | [],_=>[]
 | .d _ :: ak,s :: ss=>s :: yH ak ss
 | .d _ :: ak,[]=>[]
 | .f g caps :: ak,ss=>.fn (.func g) [] (zr1 caps) :: yH ak ss
 | .l i off :: ak,ss=>.loc i off :: yH ak ss
 | .m g :: ak,ss=>.fn (.func g) [.agg []] [] :: yH ak ss
 | .e :: ak,ss=>.agg [] :: yH ak ss
def zeI:List Nat->List S->Bool
 | [],[]=>true
 | i :: is,.loc j o :: ss=>Nat.beq i j && Nat.beq o 0 && zeI is ss
 | _,_=>false
def qS:List AK->List S->Option (List S)
 | [],[]=>some []
 | .d _ :: ak,s :: ss=>(match qS ak ss with | some ds=>some (s :: ds) | none=>none)
 | .f g caps :: ak,.fn (.func g') [] cs :: ss=>bif Nat.beq g g' && zeI caps cs then qS ak ss else none
 | .l i off :: ak,.loc i' off' :: ss=>bif Nat.beq i i' && Nat.beq off off' then qS ak ss else none
 | .m g :: ak,.fn (.func g') [.agg []] [] :: ss=>bif Nat.beq g g' then qS ak ss else none
 | .e :: ak,.agg [] :: ss=>qS ak ss
 | _,_=>none
theorem zfn:∀ {is:List Nat} {ss:List S},zeI is ss = true->ss = zr1 is
 | [],[],_=>rfl
 | [],_ :: _,h=>by simp [zeI] at h
 | _ :: _,[],h=>by simp [zeI] at h
 | i :: is,s :: ss,h=>by
  cases s <;> simp only [zeI,zvI,Bool.false_eq_true] at h
  rename_i j o
  obtain ⟨⟨h1,h2⟩,h3⟩:=h
  rw [zvJ h1,zvJ h2,zfn h3]
  rfl
theorem ZD:∀ {ak:List AK} {ss ds:List S},qS ak ss = some ds->ss = yH ak ds
 | [],[],ds,h=>by simp only [qS,zvL] at h; subst h; rfl
 | [],_ :: _,ds,h=>by simp [qS] at h
 | .d c :: ak,[],ds,h=>by simp [qS] at h
 | .d c :: ak,s :: ss,ds,h=>by
  simp only [qS] at h
  split at h
  ·rename_i ds' hd; cases h; simp only [yH]; rw [<- ZD hd]
  ·cases h
 | .f g caps :: ak,[],ds,h=>by simp [qS] at h
 | .l i off :: ak,[],ds,h=>by simp [qS] at h
 | .f g caps :: ak,s :: ss,ds,h=>by
  cases s with
  | fn f first cap =>
   cases f with
   | func g' =>
    cases first with
    | nil =>
     simp only [qS] at h
     obtain ⟨h1,h2⟩:=yp h
     simp only [zvI] at h1
     simp only [yH]
     rw [<- ZD h2,zvJ h1.1,zfn h1.2]
    | cons=>simp [qS] at h
   | _=>simp [qS] at h
  | _=>simp [qS] at h
 | .l i off :: ak,s :: ss,ds,h=>by
  cases s with
  | loc i' off' =>
   simp only [qS] at h
   obtain ⟨h1,h2⟩:=yp h
   simp only [zvI] at h1
   simp only [yH]
   rw [<- ZD h2,zvJ h1.1,zvJ h1.2]
  | _=>simp [qS] at h
 | .m g :: ak,[],ds,h=>by simp [qS] at h
 | .e :: ak,[],ds,h=>by simp [qS] at h
 | .m g :: ak,s :: ss,ds,h=>by
  unfold qS at h
  split at h
  all_goals first | (simp at *; done) | skip
  ·rename_i heq1 heq2
   cases heq1
   cases heq2
   obtain ⟨h1,h2⟩:=yp h
   simp only [yH]
   rw [<- ZD h2,zvJ h1]
 | .e :: ak,s :: ss,ds,h=>by
  unfold qS at h
  split at h
  all_goals first | (simp at *; done) | skip
  ·rename_i heq1 heq2
   cases heq1
   cases heq2
   simp only [yH]
   rw [<- ZD h]
theorem YS:∀ (ak:List AK) (ss:List S),(yH ak ss).length <= ak.length
 | [],_=>by simp [yH]
 | .d c :: ak,[]=>by simp [yH]
 | .d c :: ak,s :: ss=>by simp [yH]; exact YS ak ss
 | .f g caps :: ak,ss=>by simp [yH]; exact YS ak ss
 | .l i o :: ak,ss=>by simp [yH]; exact YS ak ss
 | .m g :: ak,ss=>by simp [yH]; exact YS ak ss
 | .e :: ak,ss=>by simp [yH]; exact YS ak ss
theorem Zr:∀ (ak:List AK) {ss ds:List S},zj ss = zj ds->zj (yH ak ss) = zj (yH ak ds)
 | [],_,_,_=>rfl
 | .d c :: ak,[],[],_=>rfl
 | .d c :: ak,[],_ :: _,h=>by simp [zj] at h
 | .d c :: ak,_ :: _,[],h=>by simp [zj] at h
 | .d c :: ak,s :: ss,d :: ds,h=>by
  simp only [zj,List.cons.injEq] at h
  simp only [yH,zj,h.1,Zr ak h.2]
 | .f g caps :: ak,ss,ds,h=>by simp only [yH,zj,Zr ak h]
 | .l i off :: ak,ss,ds,h=>by simp only [yH,zj,Zr ak h]
 | .m g :: ak,ss,ds,h=>by simp only [yH,zj,Zr ak h]
 | .e :: ak,ss,ds,h=>by simp only [yH,zj,Zr ak h]
abbrev BK:=List (C × TypeId)
@[reducible] def bkC (b:BK):List C:=b.map (·.1)
def Qf:(b:BK)->Zk (bkC b)->List qr
 | [],_=>[]
 | [c],x=>[.cells (Ze (refl c.1 x)) c.2]
 | c :: d :: b,x=>.cells (Ze (refl c.1 x.1)) c.2 :: Qf (d :: b) x.2
def zkq (c:C) (ty:TypeId):qr->Option (den c)
 | .cells cs ty'=>bif Nat.beq ty' ty then (match qW c (.agg cs) with
  | some y=>some y
  | none=>(match cs with
   | [.agg _]=>none
   | [x]=>qW c x
   | _=>none)) else none
 | _=>none
def Qy:(b:BK)->List qr->Option (Zk (bkC b))
 | [],[]=>some ()
 | [c],[B]=>zkq c.1 c.2 B
 | c :: d :: b,B :: Bs=>(match zkq c.1 c.2 B,Qy (d :: b) Bs with | some x,some y=>some (x,y) | _,_=>none)
 | _,_=>none
theorem zfo {c:C} {ty:TypeId} {B:qr} {x:den c} (h:zkq c ty B = some x):yc B = yc (.cells (Ze (refl c x)) ty):=by
 cases B with
 | map=>cases h
 | cells cs ty' =>
  simp only [zkq] at h
  obtain ⟨h1,h2⟩:=yp h
  have ht:=zvJ h1
  subst ht
  simp only [yc]
  congr 1
  rw [Qt]
  split at h2
  ·rename_i y hy
   cases h2
   have:=yy hy
   simp only [toV] at this
   rw [<- this]; rfl
  ·split at h2
   ·cases h2
   ·rename_i z hz _
    have:=yy h2
    rw [<- this]
    have hne:∀ ds,z ≠ .agg ds:=fun ds e=>hz ds (by rw [e])
    have hcl:(toV z).cellsL = [toV z]:=by
     cases z with
     | agg ds=>exact absurd rfl (hne ds)
     | gel g o=>simp only [toV]; split <;> rfl
     | ivd x=>simp only [toV]; exact zcw x
     | _=>rfl
    rw [hcl]; simp [zj]
   ·cases h2
theorem zbm:∀ {b:BK} {Bs:List qr} {x:Zk (bkC b)},Qy b Bs = some x->Bs.map yc = (Qf b x).map yc
 | [],[],x,h=>rfl
 | [],_ :: _,x,h=>by simp [Qy] at h
 | [c],[],x,h=>by simp [Qy] at h
 | [c],[B],x,h=>by
  simp only [Qy] at h
  simp only [Qf,List.map_cons,List.map_nil,zfo h]
 | [c],_ :: _ :: _,x,h=>by simp [Qy] at h
 | c :: d :: b,[],x,h=>by simp [Qy] at h
 | c :: d :: b,B :: Bs,x,h=>by
  simp only [Qy] at h
  split at h
  ·rename_i y z hy hz
   cases h
   simp only [Qf,List.map_cons,zfo hy]
   congr 1
   exact zbm hz
  ·cases h
theorem Qz:∀ (b:BK) (x:Zk (bkC b)),(Qf b x).length = b.length
 | [],_=>rfl
 | [c],_=>rfl
 | c :: d :: b,x=>by simp [Qf,Qz (d :: b) x.2]
theorem zd3 {s:S} (h:yM s = true):qX (Ze s) = true:=by
 cases s <;> simp_all [Ze,yM,qX]
theorem zbn:∀ (b:BK) (x:Zk (bkC b)),∀ B ∈ Qf b x,zb9 B = true
 | [],_=>by simp [Qf]
 | [c],x=>by
  intro B hB
  simp [Qf] at hB; subst hB
  exact zd3 (zaB _ _)
 | c :: d :: b,x=>by
  intro B hB
  simp only [Qf,List.mem_cons] at hB
  rcases hB with rfl | hB
  ·exact zd3 (zaB _ _)
  ·exact zbn (d :: b) x.2 B hB
def FnT (P:Program) (f:FuncId) (ak:List AK) (rs:List C) (g:Zk (qR ak)->Option (Zk rs)):Prop :=
 ∀ x r,g x = some r->Go.Eng.Fn P f (zj (yH ak (ZA _ x))) [] (zd2 rs r) []
def FnB (P:Program) (f:FuncId) (ak:List AK) (b:BK) (rs:List C) (g:Zk (qR ak)->Zk (bkC b)->Option (Zk rs × Zk (bkC b))):Prop :=
 ∀ x y r y',g x y = some (r,y')->Go.Eng.Fn P f (zj (yH ak (ZA _ x))) ((Qf b y).map yc) (zd2 rs r) ((Qf b y').map yc)
def zb.t {P:Program} (f:FuncId) (ak:List AK) (rs:List C) (g:Zk (qR ak)->Option (Zk rs)) (hgo:zbO P f = true) (h:FnT P f ak rs g):zb P where
 f:=f
 run:=fun args ins K=>match ins with
  | []=>(match qS ak args with
   | some ds=>(match Yz (qR ak) ds with
    | some x=>some ((g x).bind fun r=>K (znZ rs r) [])
    | none=>none)
   | none=>none)
  | _=>none
 sound:=by
  intro β args ins K r hr
  split at hr
  ·split at hr
   ·rename_i ds hd
    split at hr
    ·rename_i x hx
     simp only [zvL] at hr
     obtain ⟨y,h1,h2⟩:=bind_some hr
     refine ⟨_,_,h2,hgo,?_,zda rs y,by simp,rfl⟩
     have hF:=h x y h1
     have e:=YR hx
     rw [<- za6] at e
     rw [<- Zr ak e,<- ZD hd] at hF
     exact hF
    ·cases hr
   ·cases hr
  ·cases hr
def zb.b {P:Program} (f:FuncId) (ak:List AK) (b:BK) (rs:List C) (g:Zk (qR ak)->Zk (bkC b)->Option (Zk rs × Zk (bkC b))) (hgo:zbO P f = true) (h:FnB P f ak b rs g):zb P where
 f:=f
 run:=fun args ins K=>match qS ak args,Qy b ins with
  | some ds,some y=>(match Yz (qR ak) ds with
    | some x=>some ((g x y).bind fun r=>K (znZ rs r.1) (Qf b r.2))
    | none=>none)
  | _,_=>none
 sound:=by
  intro β args ins K r hr
  split at hr
  ·rename_i ds y hd hy
   split at hr
   ·rename_i x hx
    simp only [zvL] at hr
    obtain ⟨z,h1,h2⟩:=bind_some hr
    have hb:=zbm hy
    refine ⟨_,_,h2,hgo,?_,zda rs _,zbn b _,?_⟩
    ·have hF:=h x y z.1 z.2 h1
     have e:=YR hx
     rw [<- za6] at e
     rw [<- Zr ak e,<- ZD hd,<- hb] at hF
     exact hF
    ·rw [Qz,<- Qz b y]
     have:=congrArg List.length hb
     simpa using this.symm
   ·cases hr
  ·cases hr
theorem FnT.of {P:Program} {X:zc6 P} (hm:P.follows .mixedOrders = true) {f:FuncId} {fn:Func} {c:Code} {ak:List AK} {rs:List C} {g:Zk (qR ak)->Option (Zk rs)} (a:Ann)
  (hf:P.funcs[f]? = some fn) (hb:fn.body = some c) (hok:okX fn.ntmps c a = true) (hsz:ak.length <= fn.ntmps)
  (h:∀ x,zrO X fn.results.toList c a (yH ak (ZA _ x)) [] (fun res _=>zcA rs res) = g x):FnT P f ak rs g:=by
 intro x r hr
 exact zpb (X:=X) hm hf hb hok (Nat.le_trans (YS _ _) hsz) ((h x).trans hr) (fun res outs hk ho=>⟨zfl hk,by
  have:outs = []:=zvO ho
  rw [this]; rfl⟩) (zfm rs r) (by simp) (Nat.le_refl _)
theorem FnB.of {P:Program} {X:zc6 P} (hm:P.follows .mixedOrders = true) {f:FuncId} {fn:Func} {c:Code} {ak:List AK} {b:BK} {rs:List C} {g:Zk (qR ak)->Zk (bkC b)->Option (Zk rs × Zk (bkC b))} (a:Ann)
  (hf:P.funcs[f]? = some fn) (hb:fn.body = some c) (hok:okX fn.ntmps c a = true) (hsz:ak.length <= fn.ntmps)
  (h:∀ x y,zrO X fn.results.toList c a (yH ak (ZA _ x)) (Qf b y) (fun res outs=>match zcA rs res,Qy b outs with | some r,some z=>some (r,z) | _,_=>none) = g x y):FnB P f ak b rs g:=by
 intro x y r y' hr
 refine zpb (X:=X) hm hf hb hok (Nat.le_trans (YS _ _) hsz) ((h x y).trans hr) (fun res outs hk ho=>?_) (zfm rs r) ?_ (by simp [Qz])
 ·split at hk
  ·rename_i r' z h1 h2
   cases hk
   exact ⟨zfl h1,zbm h2⟩
  ·cases hk
 ·intro B hB
  obtain ⟨B',hB',rfl⟩:=List.mem_map.1 hB
  exact zdV (zbn b y' B' hB')
def zhy (P:Program) (f:FuncId) (ak:List AK) (c:C) (e:TypeId) (g:Zk (qR ak)->Option (List (den c))):Prop :=
 ∀ x l,g x = some l->FnO P f (zj (yH ak (ZA _ x))) (.list (l.map (enc c))) e
def zbg.t {P:Program} (f:FuncId) (ak:List AK) (c:C) (e:TypeId) (g:Zk (qR ak)->Option (List (den c))) (hgo:zbO P f = true) (h:zhy P f ak c e g):zbg P where
 f:=f
 c:=c
 e:=e
 run:=fun args=>match qS ak args with
  | some ds=>(match Yz (qR ak) ds with
   | some x=>some (g x)
   | none=>none)
  | none=>none
 sound:=by
  intro args l hr
  split at hr
  ·rename_i ds hd
   split at hr
   ·rename_i x hx
    simp only [zvL] at hr
    have hF:=h x l hr
    have e:=YR hx
    rw [<- za6] at e
    rw [<- Zr ak e,<- ZD hd] at hF
    exact ⟨hgo,hF⟩
   ·cases hr
  ·cases hr
theorem zhy.of {P:Program} {X:zc6 P} (hm:P.follows .mixedOrders = true) {f:FuncId} {fn:Func} {c:Code} {ak:List AK} {cc:C} {e:TypeId} {g:Zk (qR ak)->Option (List (den cc))} (a:Ann)
  (hf:P.funcs[f]? = some fn) (hb:fn.body = some c) (hok:okX fn.ntmps c a = true) (hsz:ak.length <= fn.ntmps)
  (h:∀ x,zvr X fn.results.toList c a (yH ak (ZA _ x)) cc e = g x):zhy P f ak cc e g:=by
 intro x l hr
 have hb':=(h x).trans hr
 refine FnO.of_AWp hf hb (by rw [y9]; exact Nat.le_trans (YS _ _) hsz) (by simp only [V.noLoc]; exact yR (YP cc) l) ?_
 have hc:=Zq (X:=X) hm c a qK ⟨fun s=>by simp [qK,ZC,qA],fun s t e h=>(by cases h),fun _ s _=>.inr rfl,fun _ i B hi=>(by cases hi)⟩ _ _ l (zuT P fn.results.toList (.list (l.map (enc cc))) e) hok ?_ hb'
 ·intro F ac w pr lam hF hs
  exact hc F ac w pr lam hF (zi1 (ins:=[]) hs)
 ·intro ex m' hk
  have key:(ex = .ret ∨ ex = .normal)/\∃ s t,fn.results.toList = [.tmp s]/\(za qK m').env s = .list (l.map (enc cc))/\(za qK m').tok s = some (t,e)/\tcl t = 0:=by
   split at hk
   ·rename_i s hex hrs
    refine ⟨by cases ex <;> simp at hex ⊢,s,?_⟩
    split at hk
    ·rename_i c' l' t e' hs
     obtain ⟨h1,h2⟩:=yp hk
     simp only [zvI] at h1
     have b1:=zvJ h1.1
     have b2:=zvJ h1.2
     subst b2
     split at h2
     ·rename_i hcc
      subst hcc
      cases h2
      exact ⟨t,hrs,by show toV (zV qK m' s).1 = _; rw [hs]; simp only [toV],by show (zV qK m' s).2 = _; rw [hs],b1⟩
     ·cases h2
    ·rename_i t e' hs
     obtain ⟨h1,h2⟩:=yp hk
     simp only [zvI] at h1
     have b1:=zvJ h1.1
     have b2:=zvJ h1.2
     subst b2
     cases h2
     exact ⟨t,hrs,by show toV (zV qK m' s).1 = _; rw [hs]; simp [toV,zj],by show (zV qK m' s).2 = _; rw [hs],b1⟩
    ·cases hk
   ·cases hk
  obtain ⟨hex,key⟩:=key
  rcases hex with rfl | rfl
  ·exact key
  ·exact key
end Go.X
