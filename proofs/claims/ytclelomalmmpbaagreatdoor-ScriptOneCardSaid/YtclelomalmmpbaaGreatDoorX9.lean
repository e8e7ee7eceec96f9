import Derived.Test.YtclelomalmmpbaaGreatDoorX3
open Bool renaming and_eq_true -> zvL
open Nat renaming eq_of_beq_eq_true -> zvM
open Nat renaming le_of_ble_eq_true -> zvN
open Option.some renaming injEq -> zvO
open List renaming eq_nil_of_length_eq_zero -> zvR
set_option linter.unusedSimpArgs false
set_option linter.unusedVariables false
namespace Go.X
open Go.Eng
open Go.RowKit
variable {β:Type}
section
variable {P:Program} {code:TypeId->Option C} {ro:RO} {m:Mm} {r:β} {K:S->Option β} {Kp:V->Prop} {K2:S->Tk->Option β} {K2p:V->Tk->Prop}
theorem zku {s:TypeId} {i:Nat} {x:S} (hK:∀ s,K s = some r->Kp (toV s)) (h:znR P s i x K = some r):zcL P s i (toV x) Kp:=by
 unfold znR at h
 unfold zcL
 split at h
 ·rename_i off t cs hf
  simp only [hf,toV]
  split at h
  ·rename_i n ha hs
   simp only [ha,hs]
   have:=hK _ h
   simpa only [toV,Yz] using this
  ·rename_i ha
   simp only [ha]
   split at h
   ·rename_i c hc
    simp only [Z9,hc,Option.map_some]
    exact hK _ h
   ·cases h
  ·cases h
 ·cases h
theorem Qn {i:Int} {n:Nat} (h:inB i n = true):0 <= i/\i < (n:Int):=by
 simpa [inB] using h
theorem zkv {t:TypeId} {x i:S} (hK:∀ s,K s = some r->Kp (toV s)) (h:znS P code t x i K = some r):YO P t (toV x) (toV i) Kp:=by
 have hK':∀ s v,K s = some r->toV s = v->Kp v:=fun s v h e=>e ▸ hK s h
 unfold znS at h
 split at h
 ·rename_i c l k i
  split at h
  ·rename_i en he
   obtain ⟨e,n⟩:=en
   obtain ⟨e1,e2,rfl⟩:=Zg he
   obtain ⟨y,h1,h2⟩:=bind_some h
   obtain ⟨q1,q2,q3⟩:=Qm h1
   simp only [toV,YO,e1,e2]
   refine ⟨yq c l,⟨q1,by simpa using q2⟩,hK' _ _ h2 ?_⟩
   have hg:(l.map (enc c)).getD i.toNat .any = enc c y:=by simp [List.getD,q3]
   rw [hg]
   simp only [toV]
   rw [Yl]
  ·cases h
 ·split at h
  ·rename_i len e ha
   split at h
   ·rename_i n hs
    split at h
    ·have h0:=(zS h).1
     have h9:=(zS h).2
     clear h
     simp only [zvL] at h0
     have hn:=zvM h0.1
     subst hn
     rcases brS h9 with ⟨h1,h2⟩ | ⟨_,h2⟩
     ·simp only [toV,YO,ha,hs]
      exact ⟨Qn h1,hK' _ _ h2 (by simp [toV])⟩
     ·cases h2
    ·rcases brS h with ⟨h1,h2⟩ | ⟨_,h2⟩
     ·simp only [toV,YO,ha,hs]
      exact ⟨Qn h1,hK' _ _ h2 (by simp [toV])⟩
     ·cases h2
   ·cases h
  ·cases h
 ·split at h
  ·rename_i len e ha
   split at h
   ·rename_i n hs
    rcases brS h with ⟨h1,h2⟩ | ⟨_,h2⟩
    ·simp only [toV,YO,ha,hs]
     exact ⟨Qn h1,hK' _ _ h2 (by simp [toV])⟩
    ·cases h2
   ·cases h
  ·cases h
 ·split at h
  ·rename_i len e ha
   split at h
   ·rename_i n vs hs hv
    rcases brS h with ⟨h1,h2⟩ | ⟨_,h2⟩
    ·simp only [toV,hv,YO,ha,hs]
     exact ⟨Qn h1,hK' _ _ h2 (by simp [toV,hv])⟩
    ·cases h2
   ·cases h
  ·cases h
 ·cases h
theorem zkw {t:TypeId} {x i:S} (hK:∀ s,K s = some r->Kp (toV s)) (h:znT P code t x i K = some r):zao P t (toV x) (toV i) Kp:=by
 have hK':∀ s v,K s = some r->toV s = v->Kp v:=fun s v h e=>e ▸ hK s h
 unfold znT at h
 split at h
 ·rename_i s k i
  split at h
  ·rename_i hb
   obtain ⟨y,h1,h2⟩:=bind_some h
   simp only [toV,zao,hb]
   unfold zaI at h1
   cases hx:idx s i with
   | none=>rw [hx] at h1; cases h1
   | some z =>
    rw [hx] at h1
    cases h1
    obtain ⟨q1,q2,q3⟩:=Qm hx
    refine ⟨⟨q1,q2⟩,hK' _ _ h2 ?_⟩
    simp [toV,List.getD,q3]
  ·cases h
 ·rename_i cs k i
  split at h
  ·rename_i len e ha
   split at h
   ·rename_i n hs1 hs2
    split at h
    ·rename_i c k' hac
     have h0:=(zS h).1
     have h9:=(zS h).2
     clear h
     have hn:=zvM h0
     subst hn
     rcases brS h9 with ⟨h1,h2⟩ | ⟨_,h2⟩
     ·simp only [toV,zao,ha,hs1,hs2]
      refine ⟨Qn h1,?_⟩
      split at h2
      ·rename_i l hl
       obtain ⟨y,h3,h4⟩:=bind_some h2
       obtain ⟨q1,q2,q3⟩:=Qm h3
       have hget:(zg cs)[i.toNat * 1]? = some (enc c y):=by rw [zam hl,List.getElem?_map,Nat.mul_one,q3]; rfl
       rw [hget]
       simp only
       rw [<- y6]
       exact hK _ h4
      ·cases h2
     ·cases h2
    ·rcases brS h with ⟨h1,h2⟩ | ⟨_,h2⟩
     ·simp only [toV,zao,ha,hs1,hs2]
      refine ⟨Qn h1,?_⟩
      split at h2
      ·rename_i c hc
       simp only [Z9,hc,Option.map_some]
       exact hK _ h2
      ·cases h2
     ·cases h2
   ·cases h
  ·cases h
 ·cases h
theorem zo9 {place:Nat->Option (Nat × Nat)}:∀ {parts:List (Nat × S)} {cells out:List S},zmj place cells parts = some out->zeH place (zg cells) (parts.map fun x=>(x.1,toV x.2)) = some (zg out)
 | [],cells,out,h=>by simp only [zmj,zvO] at h; subst h; rfl
 | (i,v) :: rest,cells,out,h=>by
  simp only [zmj] at h
  simp only [List.map_cons,zeH]
  split at h
  ·rename_i off size n hp hc
   obtain ⟨h1,h2⟩:=zS h
   simp only [zvL] at h1
   have e1:=zvM h1.1
   have e2:=zvN h1.2
   subst e1
   simp only [hp,Ql hc]
   rw [if_neg (by rw [yK]; omega)]
   have:=zo9 h2
   rw [qf,qf,zak,zaj,zal hc] at this
   exact this
  ·cases h
theorem YS {t:TypeId} {s:S} (h:zbw P t = some s):zeroT P t = some (toV s):=by
 unfold zbw at h
 unfold zeroT
 cases hz:(P.info? t).bind (·.zero) with
 | none=>rw [hz] at h; cases h
 | some z=>rw [hz] at h; cases h; simp [zeu]
theorem zkx {t:TypeId} {parts:List (Nat × Operand)} (hK:∀ s,K s = some r->Kp (toV s)) (h:znU P ro m t parts K = some r):zfu P t (za ro m) parts Kp:=by
 unfold znU at h
 unfold zfu
 split at h
 ·rename_i zv place hz hp
  simp only [YS hz,hp]
  split at h
  ·rename_i n hc
   split at h
   ·rename_i out hf
    have:=zo9 hf
    rw [zal hc] at this
    have e:(parts.map fun x=>(x.1,evalX ro m x.2)).map (fun x=>(x.1,toV x.2)) = parts.map fun x=>(x.1,(za ro m).eval x.2):=by
     rw [List.map_map]
     exact List.map_congr_left fun x _=>by simp [zh]
    rw [e] at this
    refine ⟨by rw [Ql hc]; rfl,?_⟩
    rw [this]
    have:=hK _ h
    simpa only [toV] using this
   ·cases h
  ·cases h
 ·cases h
theorem zmr {n:Nat}:∀ {ss:List S},zkd n ss = true->yL n (zg ss)
 | [],_=>by intro v hv; simp [zg] at hv
 | s :: ss,h=>by
  simp only [zkd,zvL] at h
  intro v hv
  simp only [zg,List.mem_cons] at hv
  rcases hv with rfl | hv
  ·have h1:=h.1
   split at h1
   ·rename_i k hk
    rw [Ql hk,zvM h1]
   ·cases h1
  ·exact zmr h.2 v hv
theorem zh1 {t:TypeId} {len:Nat} {parts:List (Nat × Operand)} {dst:Option Nat} (hK:∀ s tk,K2 s tk = some r->K2p (toV s) tk) (h:zke P code ro m t len parts dst K2 = some r) :
  zcM P t (za ro m) len parts dst K2p:=by
 have hK':∀ s tk v,K2 s tk = some r->toV s = v->K2p v tk:=fun s tk v h e=>e ▸ hK s tk h
 have e:zg (parts.map fun x=>evalX ro m x.2) = parts.map fun x=>(za ro m).eval x.2:=by
  rw [Ze,List.map_map]
  exact List.map_congr_left fun x _=>zh ro m x.2
 unfold zke at h
 unfold zcM
 split at h
 ·rename_i e' he
  simp only [he]
  split at h
  ·rename_i sz zv hs hz
   simp only [hs,YS hz]
   split at h
   ·rename_i zn hzn
    obtain ⟨h1,h2⟩:=zS h
    simp only [zvL,Bool.not_eq_true'] at h1
    obtain ⟨⟨⟨⟨a1,a2⟩,a3⟩,a4⟩,a5⟩:=h1
    have a1':sz ≠ 0:=fun e=>by subst e; cases a1
    have a2':=zvM a2
    subst a2'
    refine ⟨⟨a1',Ql hzn,zvM a3,zvN a4,a5⟩,?_⟩
    split at h2
    ·rename_i c hc
     split at h2
     ·rename_i l hl
      obtain ⟨h3,h4⟩:=zS h2
      have h3':=zvM h3
      have hq:=zam hl
      rw [e] at hq
      rw [hq]
      refine ⟨by rw [<- h3']; exact yq c l,hK' _ _ _ h4 (by simp [toV])⟩
     ·cases h2
    ·obtain ⟨h3,h4⟩:=zS h2
     rw [<- e]
     exact ⟨zmr h3,hK' _ _ _ h4 (by simp [toV])⟩
   ·cases h
  ·cases h
 ·cases h
theorem zn8 {x:S} (hK:∀ s,K s = some r->Kp (toV s)) (h:zuo x K = some r):zif (toV x) Kp:=by
 have hK':∀ s v,K s = some r->toV s = v->Kp v:=fun s v h e=>e ▸ hK s h
 unfold zuo at h
 split at h
 ·simp only [toV,zif]; exact hK' _ _ h (by simp [toV])
 ·simp only [toV,zif]; exact hK' _ _ h (by simp [toV])
 ·split at h
  ·rename_i vs hv
   simp only [toV,hv,zif]; exact hK' _ _ h (by simp [toV,hv])
  ·cases h
 ·cases h
theorem zn9 {t:TypeId} {x:S} (hK:∀ s,K s = some r->Kp (toV s)) (h:zup P t x K = some r):zig P t (toV x) Kp:=by
 have hK':∀ s v,K s = some r->toV s = v->Kp v:=fun s v h e=>e ▸ hK s h
 unfold zup at h
 split at h
 ·split at h
  ·rename_i e he
   simp only [toV,zig,he]; exact hK' _ _ h (by simp [toV])
  ·cases h
 ·split at h
  ·rename_i e he
   simp only [toV,zig,he]; exact hK' _ _ h (by simp [toV,yK])
  ·cases h
 ·split at h
  ·rename_i he
   simp only [toV,zig,he]; exact hK' _ _ h (by simp [toV])
  ·cases h
 ·cases h
theorem zhk {b:Builtin} {args:List S} {tys:List TypeId} (hK:∀ s,K s = some r->Kp (toV s)) (h:zhc P b args tys K = some r):YV P b (zg args) tys Kp:=by
 have hK':∀ s v,K s = some r->toV s = v->Kp v:=fun s v h e=>e ▸ hK s h
 unfold zhc at h
 split at h
 ·simp only [zg,YV]; exact zn9 hK h
 ·obtain ⟨h1,h2⟩:=za5 h
  simp only [zg,toV,YV]; exact ⟨h1,hK' _ _ h2 (by simp [toV])⟩
 ·obtain ⟨h1,h2⟩:=za5 h
  simp only [zg,toV,YV]; exact ⟨h1,hK' _ _ h2 (by simp [toV])⟩
 ·cases h
theorem zh2 {o:Oper} {x:Operand} (hK:∀ s tk,K2 s tk = some r->K2p (toV s) tk) (h:zkf P code ro m o x K2 = some r):zcN P o (za ro m) x K2p:=by
 have hK':∀ s tk v,K2 s tk = some r->toV s = v->K2p v tk:=fun s tk v h e=>e ▸ hK s tk h
 unfold zkf at h
 unfold zcN
 split at h
 ·split at h
  ·rename_i e he
   simp only [he]
   split at h
   ·exact hK' _ _ _ h (by simp [toV])
   ·exact hK' _ _ _ h (by simp [toV,zg])
  ·rename_i he
   simp only [he]
   exact hK' _ _ _ h (by simp [toV,zg])
 ·rename_i hne
  split
  ·exact absurd rfl hne
  ·have:=hK _ _ h
   rwa [zh,zn4] at this
theorem zms {c a b:S} (hK:∀ s,K s = some r->Kp (toV s)) (h:zr0 c a b K = some r):∃ t,toV c = .bool t/\Kp (zop t (toV a) (toV b)):=by
 have hK':∀ s v,K s = some r->toV s = v->Kp v:=fun s v h e=>e ▸ hK s h
 unfold zr0 at h
 split at h
 ·rename_i t
  refine ⟨t,by simp [toV],?_⟩
  rw [zkM]
  split at h
  ·exact hK' _ _ h (by cases t <;> simp [toV])
  ·obtain ⟨h1,h2⟩:=za5 h
   subst h1
   exact hK' _ _ h2 (by cases t <;> simp [toV])
  ·exact hK' _ _ h (by cases t <;> simp [toV])
  ·rcases brS h with ⟨h1,h2⟩ | ⟨h1,h2⟩
   ·subst h1; exact hK _ h2
   ·subst h1; exact hK _ h2
 ·cases h
theorem zoa {o:Oper} (hK:∀ s tk,K2 s tk = some r->K2p (toV s) tk) (h:zr1 P code ro m o K2 = some r):qG P o (za ro m) K2p:=by
 have hK1:∀ s,K2 s none = some r->K2p (toV s) none:=fun s=>hK s none
 unfold zr1 at h
 split at h
 ·rename_i x ho
  have:=hK _ _ h
  rw [zh,zn4] at this
  simp only [qG,ho]; exact this
 ·rename_i ho; simp only [qG,ho]; exact zh2 hK h
 ·rename_i c x y ho
  obtain ⟨t,h1,h2⟩:=zms (Kp:=(K2p · none)) hK1 h
  simp only [qG,ho]
  rw [<- zh,<- zh,<- zh,h1]
  exact h2
 ·rename_i ho; simp only [qG,ho]; rw [<- zh]; exact zbA (Kp:=(K2p · none)) hK1 h
 ·rename_i ho; simp only [qG,ho]; rw [<- zh,<- zh]; exact zn7 (Kp:=(K2p · none)) hK1 h
 ·rename_i ho; simp only [qG,ho]; rw [<- zh]; exact zp2 (Kp:=(K2p · none)) hK1 h
 ·rename_i ho; simp only [qG,ho]; rw [<- zh]; exact zmq (Kp:=(K2p · none)) hK1 h
 ·rename_i t x ho
  obtain ⟨h1,h2⟩:=zS h
  have:=hK1 _ h2
  simp only [toV] at this
  simp only [qG,ho]; rw [<- zh]; exact ⟨h1,this⟩
 ·rename_i f first cap ho
  have:=hK1 _ h
  simp only [toV,zbz] at this
  simp only [qG,ho]; exact this
 ·rename_i ho; simp only [qG,ho]; rw [<- zh]; exact zh0 hK h
 ·rename_i ho; simp only [qG,ho]; rw [<- zh]; exact zkt (Kp:=(K2p · none)) hK1 h
 ·rename_i ho; simp only [qG,ho]; rw [<- zh]; exact zku (Kp:=(K2p · none)) hK1 h
 ·rename_i ho; simp only [qG,ho]; rw [<- zh,<- zh]; exact zkv (Kp:=(K2p · none)) hK1 h
 ·rename_i ho; simp only [qG,ho]; rw [<- zh,<- zh]; exact zkw (Kp:=(K2p · none)) hK1 h
 ·rename_i x i ho
  simp only [qG,ho]; rw [<- zh]
  split at h
  ·rename_i vs hx
   rw [hx]
   split at h
   ·rename_i v hv
    simp only [toV,Z9,hv,Option.map_some]
    exact hK1 _ h
   ·cases h
  ·cases h
 ·rename_i ho; simp only [qG,ho]; exact zkx (Kp:=(K2p · none)) hK1 h
 ·rename_i ho; simp only [qG,ho]; exact zh1 hK h
 ·rename_i ho; simp only [qG,ho]; rw [<- zh]; exact zn8 (Kp:=(K2p · none)) hK1 h
 ·rename_i b args tys ho
  simp only [qG,ho]; rw [<- zbz]; exact zhk (Kp:=(K2p · none)) hK1 h
 ·cases h
end
end Go.X
namespace Go.X
open Go.Eng
open Go.RowKit
def pv (x:S × Tk):V × Tk:=(toV x.1,x.2)
mutual
def ltV (n:Nat):V->Bool
 | .loc i _=>decide (i < n)
 | .mref i=>decide (i < n)
 | .agg cs=>qY n cs
 | .tup cs=>qY n cs
 | .elt cs _=>qY n cs
 | .list rows=>qY n rows
 | .fn _ a b=>qY n a && qY n b
 | .iface _ v=>ltV n v
 | _=>true
def qY (n:Nat):List V->Bool
 | []=>true
 | c :: cs=>ltV n c && qY n cs
end
mutual
theorem zhl (n:Nat):∀ v:V,v.noLoc = true->ltV n v = true
 | .loc _ _,h=>by simp [V.noLoc] at h
 | .mref _,h=>by simp [V.noLoc] at h
 | .agg cs,h=>by simp only [V.noLoc] at h; simp only [ltV]; exact Zn n cs h
 | .tup cs,h=>by simp only [V.noLoc] at h; simp only [ltV]; exact Zn n cs h
 | .elt cs _,h=>by simp only [V.noLoc] at h; simp only [ltV]; exact Zn n cs h
 | .list cs,h=>by simp only [V.noLoc] at h; simp only [ltV]; exact Zn n cs h
 | .fn _ a b,h=>by
  simp only [V.noLoc,zvL] at h
  simp only [ltV,zvL]; exact ⟨Zn n a h.1,Zn n b h.2⟩
 | .iface _ v,h=>by simp only [V.noLoc] at h; simp only [ltV]; exact zhl n v h
 | .any,_=>rfl
 | .un,_=>rfl
 | .int _ _,_=>rfl
 | .bool _,_=>rfl
 | .str _,_=>rfl
 | .nilp,_=>rfl
 | .nilfn,_=>rfl
 | .nilif,_=>rfl
 | .nilm,_=>rfl
 | .ptr _,_=>rfl
theorem Zn (n:Nat):∀ cs:List V,V.noLocL cs = true->qY n cs = true
 | [],_=>rfl
 | c :: cs,h=>by
  simp only [V.noLocL,zvL] at h
  simp only [qY,zvL]; exact ⟨zhl n c h.1,Zn n cs h.2⟩
end
section
variable {w:World} {pr:Nat->Nat->Prop} {lam lam':Nat->Option Nat} {n:Nat}
mutual
theorem zob (hl:∀ i,n <= i->lam i = none):∀ (v:V) (x:Value),R ⟨w,pr,lam⟩ v x->ltV n v = true
 | .loc i _,_,q=>by
  simp only [R] at q
  obtain ⟨b,e,_⟩:=q
  simp only [ltV,decide_eq_true_eq]
  rcases Nat.lt_or_ge i n with h | h
  ·exact h
  ·exact absurd (hl i h) (by rw [show lam i = some b from e]; simp)
 | .mref i,_,q=>by
  simp only [R] at q
  obtain ⟨b,e,_⟩:=q
  simp only [ltV,decide_eq_true_eq]
  rcases Nat.lt_or_ge i n with h | h
  ·exact h
  ·exact absurd (hl i h) (by rw [show lam i = some b from e]; simp)
 | .agg cs,_,q=>by
  simp only [R] at q; obtain ⟨xs,_,q,_⟩:=q
  simp only [ltV]; exact ziX hl cs xs q
 | .tup cs,_,q=>by
  simp only [R] at q; obtain ⟨xs,_,q⟩:=q
  simp only [ltV]; exact ziX hl cs xs q
 | .elt cs _,_,q=>by
  simp only [R] at q; obtain ⟨b,o,_,q⟩:=q
  simp only [ltV]; exact ztx hl b o cs q
 | .list rows,_,q=>by
  simp only [R] at q; obtain ⟨base,cap,_,_,_,q⟩:=q
  simp only [ltV]
  rcases q with ⟨q,_⟩ | ⟨b,o,k,_,q⟩
  ·subst q; rfl
  ·exact zty hl b k o rows q
 | .fn _ a c,_,q=>by
  simp only [R] at q; obtain ⟨xs,ys,_,q1,q2⟩:=q
  simp only [ltV,zvL]; exact ⟨ziX hl a xs q1,ziX hl c ys q2⟩
 | .iface _ v,_,q=>by
  simp only [R] at q; obtain ⟨y,_,q⟩:=q
  simp only [ltV]; exact zob hl v y q
 | .any,_,_=>rfl
 | .un,_,_=>rfl
 | .int _ _,_,_=>rfl
 | .bool _,_,_=>rfl
 | .str _,_,_=>rfl
 | .nilp,_,_=>rfl
 | .nilfn,_,_=>rfl
 | .nilif,_,_=>rfl
 | .nilm,_,_=>rfl
 | .ptr _,_,_=>rfl
theorem ziX (hl:∀ i,n <= i->lam i = none):∀ (cs:List V) (xs:List Value),RL ⟨w,pr,lam⟩ cs xs->qY n cs = true
 | [],_,_=>rfl
 | c :: cs,_,q=>by
  simp only [RL] at q; obtain ⟨y,ys,_,q1,q2⟩:=q
  simp only [qY,zvL]; exact ⟨zob hl c y q1,ziX hl cs ys q2⟩
theorem ztx (hl:∀ i,n <= i->lam i = none) (b:Nat):∀ (o:Nat) (cs:List V),RC ⟨w,pr,lam⟩ b o cs->qY n cs = true
 | _,[],_=>rfl
 | o,c :: cs,q=>by
  simp only [RC] at q; obtain ⟨⟨y,_,_,q1⟩,q2⟩:=q
  simp only [qY,zvL]; exact ⟨zob hl c y q1,ztx hl b (o + 1) cs q2⟩
theorem zty (hl:∀ i,n <= i->lam i = none) (b k:Nat):∀ (o:Nat) (cs:List V),RR ⟨w,pr,lam⟩ b k o cs->qY n cs = true
 | _,[],_=>rfl
 | o,c :: cs,q=>by
  simp only [RR] at q; obtain ⟨⟨y,q1,_⟩,q2⟩:=q
  simp only [qY,zvL]; exact ⟨zob hl c y q1,zty hl b k (o + k) cs q2⟩
end
mutual
theorem ze2 (hl:∀ i,i < n->lam' i = lam i):∀ (v:V) (x:Value),ltV n v = true->R ⟨w,pr,lam⟩ v x->R ⟨w,pr,lam'⟩ v x
 | .loc i _,_,h,q=>by
  simp only [ltV,decide_eq_true_eq] at h
  simp only [R] at q ⊢
  obtain ⟨b,e,q⟩:=q
  exact ⟨b,(hl i h).trans e,q⟩
 | .mref i,_,h,q=>by
  simp only [ltV,decide_eq_true_eq] at h
  simp only [R] at q ⊢
  obtain ⟨b,e,q⟩:=q
  exact ⟨b,(hl i h).trans e,q⟩
 | .agg cs,_,h,q=>by
  simp only [ltV] at h; simp only [R] at q ⊢
  obtain ⟨xs,e,q,q1⟩:=q
  exact ⟨xs,e,zev hl cs xs h q,q1⟩
 | .tup cs,_,h,q=>by
  simp only [ltV] at h; simp only [R] at q ⊢
  obtain ⟨xs,e,q⟩:=q
  exact ⟨xs,e,zev hl cs xs h q⟩
 | .elt cs _,_,h,q=>by
  simp only [ltV] at h; simp only [R] at q ⊢
  obtain ⟨b,o,e,q⟩:=q
  exact ⟨b,o,e,zsb hl b o cs h q⟩
 | .list rows,_,h,q=>by
  simp only [ltV] at h; simp only [R] at q ⊢
  obtain ⟨base,cap,e1,e2,e3,q⟩:=q
  refine ⟨base,cap,e1,e2,e3,?_⟩
  rcases q with q | ⟨b,o,k,e4,q⟩
  ·exact .inl q
  ·exact .inr ⟨b,o,k,e4,zsc hl b k o rows h q⟩
 | .fn _ a c,_,h,q=>by
  simp only [ltV,zvL] at h; simp only [R] at q ⊢
  obtain ⟨xs,ys,e,q1,q2⟩:=q
  exact ⟨xs,ys,e,zev hl a xs h.1 q1,zev hl c ys h.2 q2⟩
 | .iface _ v,_,h,q=>by
  simp only [ltV] at h; simp only [R] at q ⊢
  obtain ⟨y,e,q⟩:=q
  exact ⟨y,e,ze2 hl v y h q⟩
 | .any,_,_,_=>by simp [R]
 | .un,_,_,q=>by simpa [R] using q
 | .int _ _,_,_,q=>by simpa [R] using q
 | .bool _,_,_,q=>by simpa [R] using q
 | .str _,_,_,q=>by simpa [R] using q
 | .nilp,_,_,q=>by simpa [R] using q
 | .nilfn,_,_,q=>by simpa [R] using q
 | .nilif,_,_,q=>by simpa [R] using q
 | .nilm,_,_,q=>by simpa [R] using q
 | .ptr _,_,_,q=>by simpa [R] using q
theorem zev (hl:∀ i,i < n->lam' i = lam i):∀ (cs:List V) (xs:List Value),qY n cs = true->RL ⟨w,pr,lam⟩ cs xs->RL ⟨w,pr,lam'⟩ cs xs
 | [],_,_,q=>by simpa [RL] using q
 | c :: cs,_,h,q=>by
  simp only [qY,zvL] at h; simp only [RL] at q ⊢
  obtain ⟨y,ys,e,q1,q2⟩:=q
  exact ⟨y,ys,e,ze2 hl c y h.1 q1,zev hl cs ys h.2 q2⟩
theorem zsb (hl:∀ i,i < n->lam' i = lam i) (b:Nat):∀ (o:Nat) (cs:List V),qY n cs = true->RC ⟨w,pr,lam⟩ b o cs->RC ⟨w,pr,lam'⟩ b o cs
 | _,[],_,_=>by simp [RC]
 | o,c :: cs,h,q=>by
  simp only [qY,zvL] at h; simp only [RC] at q ⊢
  obtain ⟨⟨y,e1,e2,q1⟩,q2⟩:=q
  exact ⟨⟨y,e1,e2,ze2 hl c y h.1 q1⟩,zsb hl b (o + 1) cs h.2 q2⟩
theorem zsc (hl:∀ i,i < n->lam' i = lam i) (b k:Nat):∀ (o:Nat) (cs:List V),qY n cs = true->RR ⟨w,pr,lam⟩ b k o cs->RR ⟨w,pr,lam'⟩ b k o cs
 | _,[],_,_=>by simp [RR]
 | o,c :: cs,h,q=>by
  simp only [qY,zvL] at h; simp only [RR] at q ⊢
  obtain ⟨⟨y,q1,e⟩,q2⟩:=q
  exact ⟨⟨y,ze2 hl c y h.1 q1,e⟩,zsc hl b k (o + k) cs h.2 q2⟩
end
theorem ztz (hl:∀ i,n <= i->lam i = none):∀ (cs:List V) (es:List MapEntry),RM ⟨w,pr,lam⟩ cs es->qY n cs = true
 | [],_,_=>rfl
 | c :: cs,_,q=>by
  simp only [RM] at q
  obtain ⟨k,v,e,es',rfl,_,h3,h4,h5⟩:=q
  simp only [qY,ltV,zvL,Bool.and_true]
  exact ⟨⟨zob hl _ _ h3,zob hl _ _ h4⟩,ztz hl cs es' h5⟩
theorem zsd (hl:∀ i,i < n->lam' i = lam i):∀ (cs:List V) (es:List MapEntry),qY n cs = true->RM ⟨w,pr,lam⟩ cs es->RM ⟨w,pr,lam'⟩ cs es
 | [],_,_,q=>by simpa [RM] using q
 | c :: cs,_,h,q=>by
  simp only [RM] at q ⊢
  obtain ⟨k,v,e,es',rfl,h2,h3,h4,h5⟩:=q
  simp only [qY,ltV,zvL,Bool.and_true] at h
  exact ⟨k,v,e,es',rfl,h2,ze2 hl _ _ h.1.1 h3,ze2 hl _ _ h.1.2 h4,zsd hl cs es' h.2 h5⟩
theorem zse {b:Nat} {B:Box} (hl:∀ i,n <= i->lam i = none) (h:Zu ⟨w,pr,lam⟩ b B):qY n B.cells = true:=by
 rcases Nat.lt_or_ge B.ty ZX with q | q
 ·obtain ⟨cur,_,h2,_⟩:=h.cells q
  exact ziX hl _ _ h2
 ·obtain ⟨es,clock,_,h2,_⟩:=h.map q
  exact ztz hl _ _ h2
theorem zp4 {b:Nat} {B:Box} (hl:∀ i,i < n->lam' i = lam i) (hn:qY n B.cells = true) (h:Zu ⟨w,pr,lam⟩ b B):Zu ⟨w,pr,lam'⟩ b B:=by
 refine ⟨fun ht=>?_,fun ht=>?_⟩
 ·obtain ⟨cur,h1,h2,h3⟩:=h.cells ht
  exact ⟨cur,h1,zev hl _ _ hn h2,h3⟩
 ·obtain ⟨es,clock,h1,h2,h3⟩:=h.map ht
  exact ⟨es,clock,h1,zsd hl _ _ hn h2,h3⟩
end
def Wk (x' x:V × Tk):Prop:=x' = x ∨ x' = (x.1,none) ∨ x' = (.any,none)
theorem zl.weak {P:Program} {F:Fr} {st:St} {a:Act} {w:World} {pr:Nat->Nat->Prop} {lam:Nat->Option Nat} (h:zl P F st a w pr lam) {nb':Nat} {sl':Nat->V × Tk} (hw:∀ s,Wk (sl' s) (st.sl s)) :
  zl P F ⟨nb',sl',st.box⟩ a w pr lam:=by
 have ht:∀ s t e,(sl' s).2 = some (t,e)->st.tok s = some (t,e):=by
  intro s t e hs
  rcases hw s with q | q | q <;> rw [q] at hs
  ·exact hs
  ·cases hs
  ·cases hs
 refine ⟨h.size,h.defers,fun s=>?_,fun s t e hs=>h.own s t e (ht s t e hs),fun s s' t t' e e' g hs hs'=>h.coh s s' t t' e e' g (ht _ _ _ hs) (ht _ _ _ hs'),h.box,h.inj,fun i B b s t e hB hl hs=>h.apart i B b s t e hB hl (ht _ _ _ hs),h.nolam,h.prlt,h.keep,h.prsub,h.prnew,h.lamsub,
  fun s s' t e e' hs hs'=>h.coh2 s s' t e e' (ht _ _ _ hs) (ht _ _ _ hs'),fun s t e hs hc=>?_,fun s s' t e e' b o g hs hs'=>h.ptr s s' t e e' b o g (ht _ _ _ hs) (ht _ _ _ hs')⟩
 rotate_right
 ·have ho:=h.old s t e (ht _ _ _ hs) hc
  show R _ (sl' s).1 _
  change (sl' s).2 = some (t,e) at hs
  rcases hw s with q | q | q
  ·rw [q]; exact ho
  ·rw [q] at hs; cases hs
  ·rw [q] at hs; cases hs
 show R _ (sl' s).1 _
 rcases hw s with q | q | q <;> rw [q]
 ·exact h.env s
 ·exact h.env s
 ·simp [R]
theorem zl.drop {P:Program} {F:Fr} {st:St} {a:Act} {w:World} {pr:Nat->Nat->Prop} {lam:Nat->Option Nat} (h:zl P F st a w pr lam) {n nb':Nat} (h1:∀ s,ltV n (st.sl s).1 = true)
  (h2:∀ i B,i < n->st.box i = some B->qY n B.cells = true) (h3:∀ i b,F.lam0 i = some b->i < n) :
  zl P F ⟨nb',st.sl,fun i=>if i < n then st.box i else none⟩ a w pr (fun i=>if i < n then lam i else none):=by
 have hl:∀ i,i < n->(fun i=>if i < n then lam i else none) i = lam i:=fun i hi=>if_pos hi
 have hbx:∀ i B,(if i < n then st.box i else none) = some B->i < n/\st.box i = some B:=by
  intro i B hB
  split at hB
  ·exact ⟨‹_›,hB⟩
  ·cases hB
 have hlx:∀ i b,(if i < n then lam i else none) = some b->lam i = some b:=by
  intro i b hB
  split at hB
  ·exact hB
  ·cases hB
 refine ⟨h.size,h.defers,fun s=>ze2 hl _ _ (h1 s) (h.env s),h.own,h.coh,fun i B hB=>?_,fun i j B B' b hB hB' q q'=>?_,fun i B b s t e hB q hs=>?_,fun i hi=>?_,h.prlt,h.keep,h.prsub,h.prnew,fun i b hi=>?_,h.coh2,fun s t e hs hc=>ze2 hl _ _ (h1 s) (h.old s t e hs hc),h.ptr⟩
 ·obtain ⟨q1,q2⟩:=hbx i B hB
  obtain ⟨b,r1,r2,r3,r4⟩:=h.box i B q2
  exact ⟨b,by rw [<- r1]; exact if_pos q1,zp4 hl (h2 i B q1 q2) r2,r3,r4⟩
 ·exact h.inj i j B B' b (hbx i B hB).2 (hbx j B' hB').2 (hlx _ _ q) (hlx _ _ q')
 ·exact h.apart i B b s t e (hbx i B hB).2 (hlx _ _ q) hs
 ·show (if i < n then lam i else none) = none
  by_cases q:i < n
  ·rw [if_pos q]
   have hi':(if i < n then st.box i else none) = none:=hi
   rw [if_pos q] at hi'
   exact h.nolam i hi'
  ·rw [if_neg q]
 ·show (if i < n then lam i else none) = some b
  rw [if_pos (h3 i b hi)]
  exact h.lamsub i b hi
end Go.X
namespace Go.X
open Go.Eng
open Go.RowKit
theorem zsf {tk:Nat} {rows':List V} {x:V × Option (Nat × TypeId)} (h:∀ e,x.2 ≠ some (tk,e)):Wk (yX tk rows' x) x:=by
 rcases ZJ tk rows' x with ⟨e,q,_⟩ | q | ⟨q,_⟩
 ·exact absurd q (h e)
 ·exact .inr (.inr q)
 ·exact .inl q
open Classical in
theorem zl.bear {P:Program} {F:Fr} {st:St} {a:Act} {w:World} {pr:Nat->Nat->Prop} {lam:Nat->Option Nat} (h:zl P F st a w pr lam) {ss tk:Nat} {e:TypeId} {rows:List V} (hs:st.env ss = .list rows) (ht:st.tok ss = some (tk,e)) (hcl:tcl tk = 0) :
  zl P F ⟨st.nb,fun s=>if ∃ e',(st.sl s).2 = some (tk,e') then (.list rows,(st.sl s).2) else st.sl s,st.box⟩ a w pr lam:=by
 have htok:∀ s,(⟨st.nb,fun s=>if ∃ e',(st.sl s).2 = some (tk,e') then (.list rows,(st.sl s).2) else st.sl s,st.box⟩:St).tok s = st.tok s:=by
  intro s
  show (if _ then _ else _:V × Option (Nat × TypeId)).2 = (st.sl s).2
  split <;> rfl
 refine ⟨h.size,h.defers,fun s=>?_,fun s t e hq=>h.own s t e (htok s ▸ hq),fun s s' t t' e e' g h1 h2=>h.coh s s' t t' e e' g (htok s ▸ h1) (htok s' ▸ h2),h.box,h.inj,fun i B b s t e hB hl hq=>h.apart i B b s t e hB hl (htok s ▸ hq),h.nolam,h.prlt,h.keep,h.prsub,h.prnew,h.lamsub,
  fun s s' t e e' h1 h2=>h.coh2 s s' t e e' (htok s ▸ h1) (htok s' ▸ h2),fun s t e' hq h2=>?_,fun s s' t e e' b o g h1 h2=>h.ptr s s' t e e' b o g (htok s ▸ h1) (htok s' ▸ h2)⟩
 ·show R _ (if _ then _ else _:V × Option (Nat × TypeId)).1 _
  split
  ·rename_i hex
   obtain ⟨e',hq⟩:=hex
   have hv:=h.coh2 s ss tk e' e hq ht hcl
   have:=h.env ss
   rw [hs,<- hv] at this
   exact this
  ·exact h.env s
 ·show R _ (if _ then _ else _:V × Option (Nat × TypeId)).1 _
  rw [htok s] at hq
  rw [if_neg]
  ·exact h.old s t e' hq h2
  ·rintro ⟨e'',hq'⟩
   have hq2:(st.sl s).2 = some (t,e'):=hq
   rw [hq2] at hq'
   cases hq'
   omega
open Classical in
theorem zoc {st:St} {tk:Nat} (s:Nat):Wk ((st.changed tk []).sl s) ((⟨st.nb,fun s=>if ∃ e',(st.sl s).2 = some (tk,e') then (.list [],(st.sl s).2) else st.sl s,st.box⟩:St).sl s):=by
 show Wk (yX tk [] (st.sl s)) (if _ then _ else _)
 split
 ·rename_i hex
  obtain ⟨e',hq⟩:=hex
  refine .inl ?_
  unfold yX
  rw [hq]
  simp
 ·rename_i hex
  exact zsf fun e' hq=>hex ⟨e',hq⟩
theorem zhm {P:Program} (w:World) (d:Nat) (t e:TypeId) (a:Option Addr) (l c:Nat) (h:P.underlying t = some (.slice e)):(Op.equalIn (d + 1) t (.slice a l c) (.slice none 0 0)).run P w = .ok a.isNone w:=by
 cases a <;> simp [Op.equalIn,run_underlying h]
theorem zdB {P:Program} (w:World) (t e:TypeId) (a:Option Addr) (l c:Nat) (h:P.underlying t = some (.slice e)):(Op.equal t (.slice a l c) (.slice none 0 0)).run P w = .ok a.isNone w:=zhm w 9999 t e a l c h
theorem zhn {P:Program} {n':Nat} {o:Oper} {st:St} {K:St->Prop} {op:BinOp} {t u e:TypeId} {x:Operand} {rows:List V} {w:Bool} (ho:o.op = .binOp op t x (.const (.slice none 0 0)) u) (hop:(op = .eql/\w = false) ∨ (op = .neq/\w = true)) (hT:P.underlying t = some (.slice e))
  (hx:st.eval x = .list rows) (hd:∀ d,o.dst = some d->d < n') (hk:∀ b:Bool,(rows ≠ []->b = w)->K (st.put o.dst (.bool b) none)):Zl P n' o st K:=by
 intro F a w0 pr lam hF h next Q hn
 subst hF
 have h1:=h.eval x
 rw [hx] at h1
 simp only [R] at h1
 obtain ⟨base,cap,e1,_,_,hb⟩:=h1
 have key:∃ b:Bool,(rows ≠ []->b = w)/\(execOp a.eval o).run P w0 = .ok (.value (.bool b)) w0:=by
  have hbase:rows ≠ []->base.isNone = false:=by
   intro hr
   rcases hb with ⟨h1,_⟩ | ⟨b,o',k,rfl,_⟩
   ·exact absurd h1 hr
   ·rfl
  rcases hop with ⟨rfl,rfl⟩ | ⟨rfl,rfl⟩
  ·refine ⟨base.isNone,hbase,?_⟩
   have he:=zdB w0 t e base rows.length cap hT
   have e2:a.eval (.const (.slice none 0 0)) = .slice none 0 0:=rfl
   simp [execOp,ho,e1,e2,eqGuard,binOp,he]
  ·refine ⟨!base.isNone,fun hr=>by rw [hbase hr]; rfl,?_⟩
   have he:=zdB w0 t e base rows.length cap hT
   have e2:a.eval (.const (.slice none 0 0)) = .slice none 0 0:=rfl
   simp [execOp,ho,e1,e2,eqGuard,binOp,he]
 obtain ⟨b,h2,hr⟩:=key
 unfold Oper.wp
 rw [hr,Oper.upon_value]
 exact hn _ _ w0 pr lam (hk b h2) (h.put hd (by simp [R]) trivial)
theorem zp5 {P:Program} {n':Nat} {o:Oper} {st:St} {K:St->Prop} {α:Type} {enc:α->V} {sz:Nat} {srt:List α->List α} {d:List α} {f:FuncId} {g:Option FuncId} {ss tk:Nat} {e:TypeId} {c:Operand} {ys:List Operand} {args:Array Operand} {tys:Array TypeId}
  (ho:o.op = .call { callee:=.value c,args:=args,argTypes:=tys }) (ha:args = (Operand.tmp ss :: ys).toArray) (hc:st.eval c = .fn (.func f) [] []) (hy:match g with | none=>ys = [] | some g=>∃ y,ys = [y]/\st.eval y = .fn (.func g) [] []) (hgo:zb3 P f = true)
  (hss:st.env ss = .list (d.map enc)) (htk:st.tok ss = some (tk,e)) (hcl:tcl tk = 0) (hsz:sizeT P e = some sz) (hrows:yL sz (d.map enc)) (hbf:∀ i B,st.box i = some B->V.flatL B.cells = true)
  (hS:ztv P f g enc sz srt) (hlt:d.length < 4611686018427387904) (hd:∀ x,o.dst = some x->x < n') (hk:K ((st.changed tk ((srt d).map enc)).put o.dst (.tup []) none)):Zl P n' o st K:=by
 intro F a w pr lam hF h next Q hn
 subst hF
 subst ha
 have h1:=h.eval c
 rw [hc] at h1
 simp only [R] at h1
 obtain ⟨xs,ys,e1,q1,q2⟩:=h1
 simp only [RL] at q1 q2
 subst q1; subst q2
 have hargs:(([]:List Value).toArray++((Operand.tmp ss :: ys).toArray).map a.eval++([]:List Value).toArray) = zmk (a.tmps.getD ss undef) g:=by
  have e3:a.eval (.tmp ss) = a.tmps.getD ss undef:=rfl
  cases g with
  | none =>
   subst hy
   simp only [List.map_toArray,List.map_cons,List.map_nil,e3,List.append_toArray,List.nil_append,List.append_nil,zmk]
  | some g =>
   obtain ⟨y,rfl,hy⟩:=hy
   have h2:=h.eval y
   rw [hy] at h2
   simp only [R] at h2
   obtain ⟨xs,ys,e2,q1,q2⟩:=h2
   simp only [RL] at q1 q2
   subst q1; subst q2
   simp only [List.map_toArray,List.map_cons,List.map_nil,e2,e3,List.append_toArray,List.nil_append,List.append_nil,zmk]
 unfold Oper.wp
 rw [Q5 ho e1 hgo,Oper.upon_enter,hargs]
 by_cases hne:d = []
 ·subst hne
  have hR:=h.env ss
  rw [hss] at hR
  simp only [List.map_nil,R] at hR
  obtain ⟨base,cap,hv,_⟩:=hR
  rw [hv]
  refine (hS.nil w pr base cap h.hl).mono ?_
  rintro en w' ⟨rfl,hb,hdl⟩
  have hext:Ext w pr w' pr:=⟨hb,hdl,fun _ _ h=>h,fun _ _ h=>.inl h⟩
  have hsr:srt [] = []:=zvR (hS.len [])
  rw [hsr] at hk
  have hw:=zl.weak (zl.bear (h.ext hext) hss htk hcl) (nb':=st.nb) (sl':=(st.changed tk []).sl) zoc
  refine hn _ _ w' pr lam hk (zl.put (st:=st.changed tk []) hw hd ?_ trivial)
  simp [R,RL]
 ·have hne':d.map enc ≠ []:=by simpa using hne
  obtain ⟨blk,cap,cur,hvs,hcp,hm,hg,hN,hgb,hcs,hrr,hpr⟩:=h.own0 hss htk hcl hsz hrows hne'
  rw [hvs]
  rw [List.length_map] at hcp hvs ⊢
  have hgl:(∀ k vs,GL k = some vs->blk ≠ k)/\TN ≠ some blk:=⟨fun k vs hq=>F.mine_gl hN hq,F.mine_tn hN⟩
  refine (hS.row w pr lam blk cap d cur e h.hl hgl hne hcp hm hlt hgb hcs hrr).mono ?_
  rintro en w' ⟨rfl,w1,cur',hsw,hgb',hsize,hrr',hb,hdl⟩
  have hlen:((srt d).map enc).length = (d.map enc).length:=by simp [hS.len]
  have hch:=h.changed (sz:=sz) htk hcl (by rw [List.length_map]; exact hvs) hg hN hsw hgb hgb' hsize hbf hlen (by rw [List.length_map]; exact hcp) hm hrr'
  have hext:Ext w1 pr w' pr:=⟨hb,hdl,fun _ _ h=>h,fun _ _ h=>.inl h⟩
  refine hn _ _ w' pr lam hk ((hch.ext hext).put hd ?_ trivial)
  simp [R,RL]
end Go.X
namespace Go.X
open Go.Eng
open Go.RowKit
variable {β:Type}
mutual
theorem zpa {f g:Nat->Nat}:∀ s:S,(∀ i ∈ qW s,g (f i) = i)->V.ren g (toV (YI f s)) = toV s
 | .any,_=>by simp [toV,YI,V.ren]
 | .un,_=>by simp [toV,YI,V.ren]
 | .int _ _,_=>by simp [toV,YI,V.ren]
 | .bool _,_=>by simp [toV,YI,V.ren]
 | .str _,_=>by simp [toV,YI,V.ren]
 | .agg cs,h=>by simp only [YI,toV,V.ren]; rw [Yb cs (by simpa [qW] using h)]
 | .tup cs,h=>by simp only [YI,toV,V.ren]; rw [Yb cs (by simpa [qW] using h)]
 | .loc i o,h=>by simp only [YI,toV,V.ren]; rw [h i (by simp [qW])]
 | .loco i o n ix,h=>by simp only [YI,toV,V.ren]; rw [h i (by simp [qW])]
 | .elt cs o,h=>by simp only [YI,toV,V.ren]; rw [Yb cs (by simpa [qW] using h)]
 | .gel g' o,_=>by simp only [YI]; exact V.ren_noLoc _ _ (ziT g' o)
 | .nilp,_=>by simp [toV,YI,V.ren]
 | .lst c l,_=>by
  simp only [YI]
  refine V.ren_noLoc _ _ ?_
  simp only [toV,V.noLoc]; exact z8 (Y0 c) l
 | .rows vs,h=>by simp only [YI,toV,V.ren]; rw [Yb vs (by simpa [qW] using h)]
 | .fn f' a b,h=>by
  simp only [YI,toV,V.ren]
  have h':∀ i,i ∈ yz a ∨ i ∈ yz b->g (f i) = i:=by simpa [qW] using h
  rw [Yb a (fun i hi=>h' i (.inl hi)),Yb b (fun i hi=>h' i (.inr hi))]
 | .nilfn,_=>by simp [toV,YI,V.ren]
 | .iface t v,h=>by simp only [YI,toV,V.ren]; rw [zpa v (by simpa [qW] using h)]
 | .nilif,_=>by simp [toV,YI,V.ren]
 | .mref i,h=>by simp only [YI,toV,V.ren]; rw [h i (by simp [qW])]
 | .nilm,_=>by simp [toV,YI,V.ren]
 | .ptr _ _ _,_=>by simp [toV,YI,V.ren]
 | .ivd x,_=>by simp only [YI,toV]; exact V.ren_noLoc _ _ (zg1 x)
theorem Yb {f g:Nat->Nat}:∀ cs:List S,(∀ i ∈ yz cs,g (f i) = i)->V.renL g (zg (zag f cs)) = zg cs
 | [],_=>by simp [zg,zag,V.renL]
 | c :: cs,h=>by
  simp only [zag,zg,V.renL]
  have h':∀ i,i ∈ qW c ∨ i ∈ yz cs->g (f i) = i:=by simpa [yz] using h
  rw [zpa c (fun i hi=>h' i (.inl hi)),Yb cs (fun i hi=>h' i (.inr hi))]
end
mutual
theorem zbD:∀ s:S,qW s = []->yi s = true
 | .any,_=>by simp [yi]
 | .un,_=>by simp [yi]
 | .int _ _,_=>by simp [yi]
 | .bool _,_=>by simp [yi]
 | .str _,_=>by simp [yi]
 | .agg cs,h=>by simp only [yi]; exact yE cs (by simpa [qW] using h)
 | .tup cs,h=>by simp only [yi]; exact yE cs (by simpa [qW] using h)
 | .loc i o,h=>by simp [qW] at h
 | .loco i o n ix,h=>by simp [qW] at h
 | .elt cs o,h=>by simp only [yi]; exact yE cs (by simpa [qW] using h)
 | .gel g' o,_=>by simp [yi]
 | .nilp,_=>by simp [yi]
 | .lst c l,_=>by simp [yi]
 | .rows vs,h=>by simp only [yi]; exact yE vs (by simpa [qW] using h)
 | .fn f' a b,h=>by
  have h':yz a = []/\yz b = []:=by simpa [qW] using h
  simp only [yi,yE a h'.1,yE b h'.2,Bool.and_self]
 | .nilfn,_=>by simp [yi]
 | .iface t v,h=>by simp only [yi]; exact zbD v (by simpa [qW] using h)
 | .nilif,_=>by simp [yi]
 | .mref i,h=>by simp [qW] at h
 | .nilm,_=>by simp [yi]
 | .ptr _ _ _,_=>by simp [yi]
 | .ivd _,_=>by simp [yi]
theorem yE:∀ cs:List S,yz cs = []->qc cs = true
 | [],_=>rfl
 | c :: cs,h=>by
  have h':qW c = []/\yz cs = []:=by simpa [yz] using h
  simp only [qc,zbD c h'.1,yE cs h'.2,Bool.and_self]
end
theorem zew {l:List Nat} {i:Nat}:l.any (Nat.beq i) = true ↔ i ∈ l:=by
 rw [List.any_eq_true]
 constructor
 ·rintro ⟨x,hx,hb⟩; rw [zvM hb]; exact hx
 ·intro h; exact ⟨i,h,by simp⟩
theorem Qo:∀ (l acc:List Nat),acc.Nodup->(Yy l acc).Nodup/\(∀ i ∈ acc,i ∈ Yy l acc)/\(∀ i ∈ l,i ∈ Yy l acc)/\(∀ i ∈ Yy l acc,i ∈ l ∨ i ∈ acc)
 | [],acc,h=>⟨h,fun i hi=>hi,fun i hi=>by simp at hi,fun i hi=>.inr hi⟩
 | j :: l,acc,h=>by
  simp only [Yy]
  cases hb:acc.any (Nat.beq j) with
  | true =>
   obtain ⟨h1,h2,h3,h4⟩:=Qo l acc h
   have hj:=zew.1 hb
   refine ⟨h1,h2,fun i hi=>?_,fun i hi=>?_⟩
   ·simp at hi; rcases hi with rfl | hi
    ·exact h2 i hj
    ·exact h3 i hi
   ·rcases h4 i hi with h | h
    ·exact .inl (by simp [h])
    ·exact .inr h
  | false =>
   have hj:j ∉ acc:=fun hj=>by rw [zew.2 hj] at hb; cases hb
   obtain ⟨h1,h2,h3,h4⟩:=Qo l (acc++[j]) (by
    rw [List.nodup_append]
    refine ⟨h,by simp,fun a ha b hb=>?_⟩
    simp at hb; subst hb
    exact fun e=>hj (e ▸ ha))
   refine ⟨h1,fun i hi=>h2 i (by simp [hi]),fun i hi=>?_,fun i hi=>?_⟩
   ·simp at hi; rcases hi with rfl | hi
    ·exact h2 _ (by simp)
    ·exact h3 i hi
   ·rcases h4 i hi with h | h
    ·exact .inl (by simp [h])
    ·simp at h; rcases h with h | rfl
     ·exact .inr h
     ·exact .inl (by simp)
theorem zcG:∀ (π:List Nat) (i:Nat),i ∈ π->π[zep π i]? = some i
 | x :: xs,i,h=>by
  simp only [zep]
  cases hb:Nat.beq x i with
  | true=>simp only [cond_true]; rw [zvM hb]; rfl
  | false =>
   simp only [cond_false]
   have hne:i ≠ x:=fun e=>by subst e; simp at hb
   simp [hne] at h
   rw [List.getElem?_cons_succ]
   exact zcG xs i h
section
variable {P:Program} {X:zeq P} {ro:RO} {m:Mm} {r:β}
theorem Yc {f:FuncId} {args:List S} {ins:List yM} {K:S->List yM->Option β}:∀ {ss:List (XSpec P)},zah ss f args ins K = some (some r) ->
  ∃ res outs,K res outs = some r/\zb3 P f = true/\Go.Eng.Fn P f (zg args) (ins.map zB) (toV res) (outs.map zB)/\yi res = true/\(∀ B ∈ outs,zbx B = true)/\outs.length = ins.length
 | [],h=>by cases h
 | s :: ss,h=>by
  simp only [zah] at h
  cases hf:Nat.beq s.f f with
  | false=>rw [hf] at h; exact Yc h
  | true =>
   rw [hf] at h
   simp only [cond_true] at h
   have e:=zvM hf
   cases hr:s.run args ins K with
   | none=>rw [hr] at h; exact Yc h
   | some o =>
    rw [hr] at h
    simp only [zvO] at h
    subst h
    have:=s.sound args ins K r hr
    rwa [e] at this
theorem zbX {i:Nat} {B:yM} (h:zu ro m i = some B) (ho:ro.ownB i = true):i < m.bx.length:=by
 unfold zu at h
 rw [ho] at h
 simp only [cond_true] at h
 cases hq:m.bx[i]? with
 | none=>rw [hq] at h; cases h
 | some _=>exact (List.getElem?_eq_some_iff.1 hq).1
theorem zho {a b:Nat} (h:Nat.blt a b = true):a < b:=zvN h
theorem zsg {sl:T (S × Tk)} {bx:List (Option yM)} {i j:Nat} {B:yM} (ho:ro.ownB i = true) (hi:i < bx.length):zu ro ⟨sl,bx.set i (some B)⟩ j = if j = i then some B else zu ro ⟨sl,bx⟩ j:=by
 unfold zu
 by_cases h:j = i
 ·subst h; rw [if_pos rfl,ho]; simp [hi]
 ·rw [if_neg h]
  cases hq:ro.ownB j
  ·rfl
  ·simp only [cond_true]
   rw [List.getElem?_set_ne (Ne.symm h)]
theorem zp6 {sl:T (S × Tk)} {bx:List (Option yM)} {j:Nat} {B:yM} (hn:Nat.ble ro.nb bx.length = true):zu ro ⟨sl,bx++[some B]⟩ j = if j = bx.length then some B else zu ro ⟨sl,bx⟩ j:=by
 unfold zu
 by_cases h:j = bx.length
 ·subst h
  have:ro.ownB bx.length = true:=by unfold RO.ownB; rw [hn]; rfl
  rw [if_pos rfl,this]
  simp
 ·rw [if_neg h]
  cases hq:ro.ownB j
  ·rfl
  ·simp only [cond_true]
   rcases Nat.lt_or_ge j bx.length with q | q
   ·rw [List.getElem?_append_left q]
   ·rw [List.getElem?_eq_none (by simp; omega),List.getElem?_eq_none (by omega)]
theorem ZQ {sl:T (S × Tk)} {bx:List (Option yM)} {i:Nat} {B:yM} (ho:ro.ownB i = true) (hi:i < bx.length):za ro ⟨sl,bx.set i (some B)⟩ = (za ro ⟨sl,bx⟩).setBox i (zB B):=by
 unfold za St.setBox
 congr 1
 ·simp
 ·funext j
  unfold upd
  rw [zsg ho hi]
  split <;> rfl
theorem zaK:∀ {π:List Nat} {ins:List yM},zer ro m π = some ins->Z1 (za ro m) π (ins.map zB)/\(∀ i ∈ π,ro.ownB i = true/\i < m.bx.length)
 | [],ins,h=>by simp only [zer,zvO] at h; subst h; exact ⟨trivial,fun i hi=>by simp at hi⟩
 | i :: π,ins,h=>by
  simp only [zer] at h
  split at h
  ·rename_i B hB
   obtain ⟨h1,h2⟩:=zS h
   simp only [zvL] at h1
   split at h2
   ·rename_i bs hbs
    cases h2
    obtain ⟨q1,q2⟩:=zaK hbs
    refine ⟨⟨⟨?_,zdz h1.1⟩,q1⟩,fun j hj=>?_⟩
    ·show (zu ro m i).map zB = _
     rw [hB]; rfl
    ·simp at hj
     rcases hj with rfl | hj
     ·exact ⟨h1.2,zbX hB h1.2⟩
     ·exact q2 j hj
   ·cases h2
  ·cases h
theorem zbE:∀ {π:List Nat} {outs:List yM} {bx:List (Option yM)} {sl:T (S × Tk)},π.length = outs.length->(∀ i ∈ π,ro.ownB i = true/\i < bx.length) ->
  za ro ⟨sl,zhe bx π outs⟩ = (za ro ⟨sl,bx⟩).setBoxes π (outs.map zB)
 | [],[],bx,sl,_,_=>by simp [zhe,St.setBoxes]
 | [],_ :: _,_,_,h,_=>by simp at h
 | _ :: _,[],_,_,h,_=>by simp at h
 | i :: π,B :: outs,bx,sl,h,ho=>by
  simp only [zhe,List.map_cons,St.setBoxes]
  rw [zbE (by simpa using h) (fun j hj=>by
   have:=ho j (by simp [hj])
   exact ⟨this.1,by simpa using this.2⟩),ZQ (ho i (by simp)).1 (ho i (by simp)).2]
theorem zaL {m:Mm} (h:Nat.ble ro.nb m.bx.length = true):(za ro m).box (za ro m).nb = none:=by
 show (zu ro m m.bx.length).map zB = none
 unfold zu RO.ownB
 rw [h]
 simp
variable {Kp:St->Prop}
theorem zmt {dr:Bool} {f:FuncId} {first args cap:List S} {dst:Option Nat} {k:Mm->Option β} (hK:∀ m',k m' = some r->Kp (za ro m')) (h:zr2 X ro dr m f args dst k = some r) :
  zmF P f (zg args) (fun v=>Kp ((za ro m).put dst v none)) ∨ (dr = false/\zjq P f (zg args) (za ro m) dst (Kp)):=by
 unfold zr2 at h
 split at h
 ·rename_i hd
  split at h
  ·rename_i o ho
   subst h
   obtain ⟨res,outs,h1,h2,h3,h4,h5,h6⟩:=Yc (ss:=X.known) ho
   obtain ⟨m',e,hk⟩:=zj h1
   have ho:outs = []:=zvR (by simpa using h6)
   subst ho
   refine .inl ⟨h2,?_,toV res,h3,?_⟩
   rotate_left
   ·have:=hK m' hk; rw [<- e] at this; exact this
   have hl:yz args = []:=by
    cases hq:yz args with
    | nil=>rfl
    | cons i l =>
     have:=(Qo (yz args) [] (by simp)).2.2.1 i (by rw [hq]; simp)
     rw [hd] at this; simp at this
   exact qS _ (yE _ hl)
  ·cases h
 ·rename_i hd
  have hdr:dr = false/\Nat.ble ro.nb m.bx.length = true:=by
   cases dr <;> cases hb:Nat.ble ro.nb m.bx.length <;> rw [hb] at h <;> first | (cases h; done) | exact ⟨rfl,rfl⟩
  obtain ⟨hdr,hnb⟩:=hdr
  subst hdr
  ·rw [hnb] at h
   simp only [Bool.not_true,Bool.or_self,cond_false] at h
   split at h
   ·rename_i ins hins
    split at h
    ·rename_i o ho
     subst h
     obtain ⟨res,outs,h1,h2,h3,h4,h5,h6⟩:=Yc (ss:=X.known) ho
     obtain ⟨m',e,hk⟩:=zj h1
     obtain ⟨b1,b2⟩:=zaK hins
     obtain ⟨d1,_,d3,_⟩:=Qo (yz args) [] (by simp)
     obtain ⟨l1,l2⟩:=qJ b1
     have hlen:(Yy (yz args) []).length = outs.length:=by rw [l1,h6]; simp
     refine .inr ⟨rfl,h2,Yy (yz args) [],_,_,_,_,d1,zaL hnb,?_,b1,by simp [h6],?_,zdy _ h4,h3,?_⟩
     ·rw [Yb]
      intro i hi
      have:=zcG _ i (d3 i hi)
      simp [List.getD,this]
     ·intro B hB
      obtain ⟨B',hB',rfl⟩:=List.mem_map.1 hB
      exact zdz (h5 B' hB')
     ·have:=hK m' hk
      rw [<- e,zbE hlen b2] at this
      exact this
    ·cases h
   ·cases h
theorem zch {B:yM} {dst:Option Nat} {v:S} {k:Mm->Option β} (hK:∀ m',k m' = some r->Kp (za ro m')) (h:zfH ro m B dst v k = some r) :
  (za ro m).box (za ro m).nb = none/\Kp (({ nb:=m.bx.length + 1,sl:=(za ro m).sl,box:=upd (za ro m).box m.bx.length (some (zB B)) }:St).put dst (toV v) none):=by
 unfold zfH at h
 obtain ⟨h1,h2⟩:=zS h
 refine ⟨zaL h1,?_⟩
 obtain ⟨m',e,hk⟩:=zj h2
 have:=hK m' hk
 rw [<- e] at this
 refine (congrArg Kp ?_).mp this
 congr 1
 unfold za
 congr 1
 ·simp
 ·funext j
  unfold upd
  rw [zp6 h1]
  split <;> rfl
theorem zhp {e:TypeId} {v:S} {dst:Option Nat} {k:Mm->Option β} (hK:∀ m',k m' = some r->Kp (za ro m')) (h:ztd ro m e v dst k = some r):zqo (za ro m) e (toV v) dst (Kp):=by
 unfold ztd at h
 split at h
 ·rename_i n hn
  obtain ⟨h1,h2⟩:=zS h
  obtain ⟨h3,h4⟩:=zch hK h2
  refine ⟨?_,by rw [Ql hn]; rfl,h3,?_⟩
  ·exact zho h1
  ·have e1:zB (.cells (qp v) e) = ⟨(toV v).cellsL,e⟩:=by simp [zB,zal hn]
   rw [e1] at h4
   simp only [toV] at h4
   exact h4
 ·cases h
theorem zhq {c:C}:∀ (n:Nat) (l:List (den c)) (k:Nat),zg (zdw c n l k) = (List.range' k n).map fun k=>enc c (l.getD k (dfl c))
 | 0,_,_=>rfl
 | n + 1,l,k=>by
  simp only [zdw,zg,List.range'_succ,List.map_cons,y6]
  rw [zhq n l (k + 1)]
theorem zky {t:TypeId} {x y:S} {dst:Option Nat} {k:Mm->Option β} (hK:∀ m',k m' = some r->Kp (za ro m')) (h:znV X ro m t x y dst k = some r):Qs P t (za ro m) (toV x) (toV y) dst (Kp):=by
 unfold znV at h
 split at h
 ·rename_i i off
  split at h
  ·rename_i cs ty n n' hB hs hy
   obtain ⟨h1,h2⟩:=zS h
   simp only [zvL] at h1
   obtain ⟨⟨⟨a1,a2⟩,a3⟩,a4⟩:=h1
   have a2':=zvM a2
   subst a2'
   have hb:(za ro m).box i = some ⟨zg cs,ty⟩:=by show (zu ro m i).map zB = _; rw [hB]; rfl
   simp only [toV,Qs,hb,hs]
   refine ⟨?_,Ql hy,by rw [yK]; exact zvN a3,trivial,?_⟩
   ·exact zho a1
   ·have:=hK _ h2
    rw [ZQ a4 (zbX hB a4)] at this
    simp only [zB,qf,zak,zaj,zal hy] at this
    exact this
  ·cases h
 ·rename_i i a n ix
  split at h
  ·rename_i cs ty c z hB hc hz
   split at h
   ·rename_i l v hl hv
    obtain ⟨h1,h2⟩:=zS h
    simp only [zvL] at h1
    obtain ⟨⟨⟨⟨⟨a1,a2⟩,a5⟩,a6⟩,a3⟩,a4⟩:=h1
    have hz1:=zvM a2
    subst hz1
    have hc1:=zvM a5
    have hle:=zvN a3
    obtain ⟨l',h3,h4⟩:=bind_some h2
    unfold putA at h3
    split at h3
    case isFalse=>cases h3
    rename_i hin
    cases h3
    have hb:(za ro m).box i = some ⟨zg cs,ty⟩:=by show (zu ro m i).map zB = _; rw [hB]; rfl
    have hseg:=zam hl
    have hlen:l.length = n:=by
     have:=congrArg List.length hseg
     rw [yK,List.length_map,List.length_take,List.length_drop] at this
     omega
    have hvv:toV y = enc c v:=zV hv
    have hcell:(toV y).cellsL = [toV y]:=by cases y <;> first | rfl | (simp only [toV]; exact zbV _) | (simp only [toV]; split <;> rfl) | exact absurd a6 (by simp [ztw])
    simp only [toV,Qs,hb,hz]
    refine ⟨zho a1,by rw [hvv,ziG,hc1],by rw [yK]; omega,trivial,?_⟩
    have:=hK _ h4
    rw [ZQ a4 (zbX hB a4)] at this
    simp only [zB,qf,zak,zaj,zhq,hcell] at this ⊢
    have e:(zg cs).take a++((List.range' 0 n).map fun k=>enc c ((l.set ix.toNat v).getD k (dfl c)))++(zg cs).drop (a + n) = (zg cs).take (a + ix.toNat)++[toV y]++(zg cs).drop (a + ix.toNat + 1):=by
     have hx:ix.toNat < n:=by omega
     have hN:(zg cs).length = cs.length:=yK cs
     refine List.ext_getElem? fun q=>?_
     rw [Yz] at hseg
     have hsg:∀ q,q < n->(zg cs)[a + q]? = some (enc c (l.getD q (dfl c))):=by
      intro q hq
      have:(((zg cs).drop a).take n)[q]? = (l.map (enc c))[q]?:=by rw [hseg]
      rw [List.getElem?_take,if_pos hq,List.getElem?_drop,List.getElem?_map] at this
      rw [this,List.getElem?_eq_getElem (by omega),List.getD_eq_getElem?_getD,List.getElem?_eq_getElem (by omega)]
      rfl
     rw [List.append_assoc,List.append_assoc]
     by_cases q1:q < a
     ·rw [List.getElem?_append_left (by simp; omega),List.getElem?_append_left (by simp; omega),List.getElem?_take,List.getElem?_take,if_pos q1,if_pos (by omega)]
     ·rw [List.getElem?_append_right (by simp; omega),List.length_take,Nat.min_eq_left (by omega)]
      by_cases q2:q < a + n
      ·rw [List.getElem?_append_left (by simp; omega),List.getElem?_map,List.getElem?_range' (by omega)]
       simp only [Option.map_some,Nat.zero_add,Nat.one_mul]
       by_cases q3:q = a + ix.toNat
       ·subst q3
        rw [List.getElem?_append_right (by simp; omega),List.length_take,Nat.min_eq_left (by omega)]
        have:a + ix.toNat - a = ix.toNat:=by omega
        rw [this,List.getD_eq_getElem?_getD,List.getElem?_set_self (by omega),hvv]
        simp
       ·have hs':(l.set ix.toNat v).getD (q - a) (dfl c) = l.getD (q - a) (dfl c):=by
         rw [List.getD_eq_getElem?_getD,List.getD_eq_getElem?_getD,List.getElem?_set_ne (by omega)]
        rw [hs',<- hsg (q - a) (by omega)]
        have:a + (q - a) = q:=by omega
        rw [this]
        by_cases q4:q < a + ix.toNat
        ·rw [List.getElem?_append_left (by simp; omega),List.getElem?_take,if_pos q4]
        ·rw [List.getElem?_append_right (by simp; omega),List.length_take,Nat.min_eq_left (by omega),List.getElem?_append_right (by simp; omega),List.getElem?_drop]
         congr 1
         simp; omega
      ·rw [List.getElem?_append_right (by simp; omega),List.getElem?_drop,List.getElem?_append_right (by simp; omega),List.length_take,Nat.min_eq_left (by omega),List.getElem?_append_right (by simp; omega),List.getElem?_drop]
       congr 1
       simp; omega
    rw [e] at this
    exact this
   ·cases h
  ·cases h
 ·cases h
theorem zux (t:Nat) (x:S × Tk):(toV (zaf t x).1,(zaf t x).2) = clr t (toV x.1,x.2):=by
 obtain ⟨s,tk⟩:=x
 unfold zaf clr
 cases tk with
 | none=>rfl
 | some p =>
  obtain ⟨t',e⟩:=p
  simp only
  by_cases h:t' = t
  ·subst h; simp
  ·have h1:Nat.beq t' t = false:=beqF h
   by_cases h2:t' = t + 3000000
   ·subst h2; simp
   ·have h3:Nat.beq t' (t + 3000000) = false:=beqF h2
    rw [h1,h3]; simp [h,h2]
structure Yn (mu:Bool) (ro:RO):Prop where
 idem:∀ s,yY mu (ro.sl s) = ro.sl s
 tok:∀ s t e,(ro.sl s).2 = some (t,e)->tcl t = 2
 flat:ro.fl = true->∀ s,ro.own s = false->(ro.sl s).2 ≠ none ∨ yR (ro.sl s).1 = true
 boxes:ro.fl = true->∀ i B,ro.ownB i = false->ro.bx i = some B->zai B = true
theorem zsh {t:Nat} (ht:tcl t < 2) {x:S × Tk} (h:∀ t' e,x.2 = some (t',e)->tcl t' = 2):zaf t x = x:=by
 obtain ⟨s,tk⟩:=x
 unfold zaf
 cases tk with
 | none=>rfl
 | some p =>
  obtain ⟨t',e⟩:=p
  have h2:=h t' e rfl
  simp only
  have h1:Nat.beq t' t = false:=beqF (fun e=>by subst e; omega)
  have h3:Nat.beq t' (t + 3000000) = false:=beqF (fun e=>by unfold tcl at *; omega)
  rw [h1,h3]; rfl
theorem zsi {mu:Bool} (hro:Yn mu ro) {t:Nat} (ht:tcl t < 2) (s:Nat):zo ro ⟨m.sl.mapV (zaf t),m.bx⟩ s = zaf t (zo ro m s):=by
 unfold zo
 cases ro.own s
 ·exact (zsh ht (hro.tok s)).symm
 ·simp only [cond_true]
  rw [T.get_mapV]
  cases m.sl.get s <;> rfl
theorem Zh {mu:Bool} (hro:Yn mu ro) {t:Nat} (ht:tcl t < 2):za ro ⟨m.sl.mapV (zaf t),m.bx⟩ = (za ro m).clear t:=by
 unfold za St.clear
 congr 1
 funext s
 rw [zsi hro ht]
 exact zux t _
theorem ze3 {mu:Bool} (hro:Yn mu ro) {dr:Bool} {o:Oper} {v:S} {tk:Tk} {k:Mm->Option β} (h:zo4 ro m dr o v tk k = some r) :
  ∃ m',zih dr o tk/\zja o (za ro m) (toV v) tk = za ro m'/\k m' = some r:=by
 unfold zo4 at h
 unfold zja zih
 cases hcp:yk o with
 | true =>
  rw [hcp] at h
  obtain ⟨m',q1,q2⟩:=zj h
  exact ⟨m',(fun _ h=>by cases h),q1,q2⟩
 | false =>
  rw [hcp] at h
  simp only [cond_false] at h ⊢
  cases tk with
  | none =>
   obtain ⟨m',q1,q2⟩:=zj h
   exact ⟨m',(fun _ _ _ _ h=>by cases h),q1,q2⟩
  | some te =>
   obtain ⟨t,e⟩:=te
   simp only at h
   obtain ⟨h1,h2⟩:=zS h
   simp only [zvL,Bool.or_eq_true] at h1
   obtain ⟨m',q1,q2⟩:=zj h2
   rw [Zh hro (zho h1.1)] at q1
   refine ⟨m',fun hdr _ t' e' ht=>?_,q1,q2⟩
   cases ht
   have h3:=h1.2
   rw [hdr] at h3
   simp only [Bool.not_true,Bool.false_eq_true,false_or] at h3
   refine ⟨h3.1,?_,zho h1.1⟩
   have h3:=h3.2
   split at h3
   ·rename_i d hd
    rw [hd,zvM h3]
   ·cases h3
theorem zmu {α:Type} {b:Nat} {l q y:List α} (h:app b l q = some y):(l.length + q.length) * b <= 140737488355328/\y = l++q:=by
 obtain ⟨h1,h2⟩:=za5 h; cases h2; exact ⟨h1,rfl⟩
theorem zh3 {mu:Bool} (hro:Yn mu ro) {ss:Nat} {x:S} {t u:TypeId} {dst:Option Nat} {k:Mm->Option β} (hK:∀ m',k m' = some r->Kp (za ro m')) (h:zkg (P:=P) ro m ss x t u dst k = some r):Ys P (za ro m) ss (toV x) t u dst (Kp):=by
 unfold zkg at h
 split at h
 ·rename_i c l tk e e' hg ht
  have henv:(za ro m).env ss = .list (l.map (enc c)):=by show toV (zo ro m ss).1 = _; rw [hg]; simp [toV]
  have htok:(za ro m).tok ss = some (tk,e):=by show (zo ro m ss).2 = _; rw [hg]
  unfold Ys
  simp only [henv,htok,ht]
  split at h
  ·rename_i sz by' zv hs hb hz
   simp only [hs,hb,YS hz]
   split at h
   ·rename_i zn hzn
    obtain ⟨h1,h2⟩:=zS h
    simp only [zvL,Bool.not_eq_true'] at h1
    obtain ⟨⟨⟨⟨⟨a1,a0⟩,a2⟩,a3⟩,a4⟩,a5⟩:=h1
    have a0':=zho a0
    have a1':=zvM a1
    have a3':=zvM a3
    have a4':=zvM a4
    subst a3'
    refine ⟨⟨a1',a0',a2,Ql hzn,fun e=>by subst e; cases a5⟩,by rw [<- a4']; exact yq c l,?_⟩
    have fin:∀ (l2:List (den c)),((app by' l l2).bind fun r=>qu ro ⟨m.sl.mapV (zaf tk),m.bx⟩ dst (.lst c r) (some (tk,e)) k) = some r ->
      ((l.map (enc c)).length + l2.length) * by' <= 140737488355328/\Kp (((za ro m).clear tk).put dst (.list (l.map (enc c)++l2.map (enc c))) (some (tk,e))):=by
     intro l2 h
     obtain ⟨y,q1,q2⟩:=bind_some h
     obtain ⟨q3,rfl⟩:=zmu q1
     obtain ⟨m',e1,hk⟩:=zj q2
     have:=hK m' hk
     rw [<- e1,Zh hro a0'] at this
     refine ⟨by simpa using q3,?_⟩
     simpa [toV] using this
    split at h2
    ·rename_i c' l2
     split at h2
     ·rename_i hc
      subst hc
      obtain ⟨q1,q2⟩:=fin l2 h2
      simp only [toV]
      exact ⟨by rw [<- a4']; exact yq _ l2,by simpa using q1,q2⟩
     ·cases h2
    ·obtain ⟨q1,q2⟩:=fin [] h2
     simp only [toV,zg]
     exact ⟨fun v hv=>by simp at hv,by simpa using q1,by simpa using q2⟩
    ·rename_i s
     split at h2
     ·rename_i hc
      subst hc
      obtain ⟨q1,q2⟩:=fin (yy s) h2
      simp only [toV]
      refine ⟨a4'.symm,by simpa [yy] using q1,?_⟩
      rwa [zmp] at q2
     ·cases h2
    ·cases h2
   ·cases h
  ·cases h
 ·cases h
theorem zhr (mu:Bool) (x:S × Tk):yY mu (yY mu x) = yY mu x:=by
 obtain ⟨s,tok⟩:=x
 unfold yY
 cases tok with
 | none =>
  simp only
  cases h:!mu || yR s
  ·simp [yR]
  ·simp [h]
 | some te =>
  obtain ⟨t,e⟩:=te
  simp only
  cases h2:Nat.beq (tcl t) 2
  ·simp only [cond_false]
   cases h:!mu || yR s
   ·simp [yR]
   ·simp [h]
  ·simp [h2]
theorem zhs (mu:Bool) (x:S × Tk):Wk (pv (yY mu x)) (pv x):=by
 obtain ⟨s,tok⟩:=x
 unfold yY
 cases tok with
 | none =>
  simp only
  cases h:!mu || yR s
  ·exact .inr (.inr (by simp [pv,toV]))
  ·exact .inl rfl
 | some te =>
  obtain ⟨t,e⟩:=te
  simp only
  cases h2:Nat.beq (tcl t) 2
  ·simp only [cond_false]
   cases h:!mu || yR s
   ·exact .inr (.inr (by simp [pv,toV]))
   ·exact .inr (.inl rfl)
  ·exact .inl rfl
theorem zdC {mu:Bool} {n:Nat} {x:S × Tk} (h:ltV n (toV x.1) = true):ltV n (toV (yY mu x).1) = true:=by
 rcases zhs mu x with q | q | q
 ·have:=congrArg Prod.fst q; simp only [pv] at this; rw [this]; exact h
 ·have:=congrArg Prod.fst q; simp only [pv] at this; rw [this]; exact h
 ·have:=congrArg Prod.fst q; simp only [pv] at this; rw [this]; rfl
theorem ziY {mu:Bool} {x:S × Tk} {t:Nat} {e:TypeId} (h:(yY mu x).2 = some (t,e)):tcl t = 2:=by
 obtain ⟨s,tok⟩:=x
 unfold yY at h
 cases tok with
 | none =>
  simp only at h
  cases hq:!mu || yR s <;> rw [hq] at h <;> cases h
 | some te =>
  obtain ⟨t',e'⟩:=te
  simp only at h
  cases h2:Nat.beq (tcl t') 2
  ·rw [h2] at h
   simp only [cond_false] at h
   cases hq:!mu || yR s <;> rw [hq] at h <;> cases h
  ·rw [h2] at h
   cases h
   exact zvM h2
theorem zht {x:S × Tk}:(yY true x).2 ≠ none ∨ yR (yY true x).1 = true:=by
 obtain ⟨s,tok⟩:=x
 unfold yY
 cases tok with
 | none =>
  simp only [Bool.not_true,Bool.false_or]
  cases h:yR s
  ·exact .inr rfl
  ·exact .inr h
 | some te =>
  obtain ⟨t,e⟩:=te
  simp only [Bool.not_true,Bool.false_or]
  cases h2:Nat.beq (tcl t) 2
  ·simp only [cond_false]
   cases h:yR s
   ·exact .inr rfl
   ·exact .inr h
  ·exact .inl (by simp)
theorem zuy:∀ s:S,yR s = true->(toV s).flat = true/\True:=by
 intro s
 suffices h:∀ s:S,yR s = true->(toV s).flat = true from fun hs=>⟨h s hs,trivial⟩
 intro s
 induction s using S.rec (motive_2:=fun cs=>Qj cs = true->V.flatL (zg cs) = true) with
 | any=>intro; simp [toV,V.flat]
 | un=>intro; simp [toV,V.flat]
 | int=>intro; simp [toV,V.flat]
 | bool=>intro; simp [toV,V.flat]
 | str=>intro; simp [toV,V.flat]
 | agg cs ih=>intro h; simp only [yR] at h; simp only [toV,V.flat]; exact ih h
 | tup cs ih=>intro h; simp only [yR] at h; simp only [toV,V.flat]; exact ih h
 | loc=>intro; simp [toV,V.flat]
 | loco=>intro; simp [toV,V.flat]
 | elt cs off ih=>intro h; simp only [yR,List.isEmpty_iff] at h; subst h; simp [toV,zg,V.flat]
 | gel=>intro h; simp [yR] at h
 | nilp=>intro; simp [toV,V.flat]
 | lst=>intro h; simp [yR] at h
 | rows vs ih=>intro h; simp only [yR,List.isEmpty_iff] at h; subst h; simp [toV,zg,V.flat]
 | fn f a b iha ihb =>
  intro h; simp only [yR,zvL] at h
  simp only [toV,V.flat,zvL]; exact ⟨iha h.1,ihb h.2⟩
 | nilfn=>intro; simp [toV,V.flat]
 | iface t v ih=>intro h; simp only [yR] at h; simp only [toV,V.flat]; exact ih h
 | nilif=>intro; simp [toV,V.flat]
 | mref=>intro; simp [toV,V.flat]
 | nilm=>intro; simp [toV,V.flat]
 | ptr=>intro; simp [toV,V.flat]
 | ivd x=>intro; simp only [toV]; cases x <;> simp [QT,V.flat,V.flatL]
 | nil=>simp [zg,V.flatL]
 | cons c cs ih1 ih2 =>
  rename_i h; simp only [Qj,zvL] at h
  simp only [zg,V.flatL,zvL]; exact ⟨ih1 h.1,ih2 h.2⟩
theorem zaM {s:S} (h:yR s = true):(toV s).flat = true:=(zuy s h).1
theorem zhu:∀ {cs:List S},Qj cs = true->V.flatL (zg cs) = true
 | [],_=>by simp [zg,V.flatL]
 | c :: cs,h=>by
  simp only [Qj,zvL] at h
  simp only [zg,V.flatL,zvL]; exact ⟨zaM h.1,zhu h.2⟩
theorem zh4 {c:C} (h:Zd c = true) (x:den c):yR (refl c x) = true:=by
 cases c <;> first | rfl | (simp [Zd] at h)
theorem YT {c:C} (h:Zd c = true) (x:den c):(enc c x).flat = true:=by
 rw [<- y6]; exact zaM (zh4 h x)
theorem Yd {c:C} (h:Zd c = true) (l:List (den c)):V.flatL (l.map (enc c)) = true :=
 zfP fun v hv=>by obtain ⟨x,_,rfl⟩:=List.mem_map.1 hv; exact YT h x
theorem zpb {B:yM} (h:zai B = true):V.flatL (zB B).cells = true:=by
 cases B with
 | cells cs ty=>exact zhu h
 | map mt kc vc l =>
  simp only [zai,zvL] at h
  refine zfP fun v hv=>?_
  obtain ⟨x,_,rfl⟩:=List.mem_map.1 hv
  simp [V.flat,V.flatL,YT h.1,YT h.2]
theorem ziZ {P:Program} {n':Nat} {o:Oper} {st:St} {K K':St->Prop} (h:Zl P n' o st K') (hw:∀ st',K' st'->∃ sl',(∀ s,Wk (sl' s) (st'.sl s))/\K ⟨st'.nb,sl',st'.box⟩):Zl P n' o st K:=by
 intro F a w pr lam hF hs next Q hn
 refine h F a w pr lam hF hs next Q fun st' a' w' pr' lam' hk hs'=>?_
 obtain ⟨sl',h1,h2⟩:=hw st' hk
 exact hn _ a' w' pr' lam' h2 (zl.weak hs' h1)
theorem zh5 {o:Oper} {t:TypeId} {ss:Nat} {ix:Operand} {k:Mm->Option β} (ho:o.op = .indexAddr t (.tmp ss) ix) (hK:∀ m',k m' = some r->Kp (za ro m')) (h:zkh (P:=P) ro m t ss (evalX ro m ix) o.dst k = some r) :
  YK P o (za ro m) Kp:=by
 intro n' hd _
 unfold zkh at h
 split at h
 ·rename_i c l tk e kk i hg hi
  split at h
  ·rename_i e' sz he
   obtain ⟨h1,h2⟩:=zS h
   simp only [zvL] at h1
   have a1:=zvM h1.1
   have a2:=zvM h1.2
   subst a2
   obtain ⟨e1,e2,rfl⟩:=Zg he
   rcases brS h2 with ⟨hb,h2⟩ | ⟨_,h2⟩
   ·obtain ⟨b1,b2⟩:=Qn hb
    obtain ⟨m',q1,q2⟩:=zj h2
    have hs:(za ro m).env ss = .list (l.map (enc c)):=by show toV (zo ro m ss).1 = _; rw [hg]; simp [toV]
    have ht:(za ro m).tok ss = some (tk,e):=by show (zo ro m ss).2 = _; rw [hg]
    refine zkP (k:=kk) (i:=i) ho hs ht a1 (by rw [<- zh,hi]; simp [toV]) (z7 e1) e2 (yq c l) b1 (by simpa using b2) hd ?_
    have:=hK m' q2
    rw [<- q1] at this
    simpa [toV] using this
   ·cases h2
  ·cases h
 ·cases h
theorem zh6 {o:Oper} {s:TypeId} {d0 fi:Nat} {k:Mm->Option β} (ho:o.op = .fieldAddr s (.tmp d0) fi) (hK:∀ m',k m' = some r->Kp (za ro m')) (h:zki (P:=P) ro m s d0 fi o.dst k = some r) :
  YK P o (za ro m) Kp:=by
 intro n' hd _
 unfold zki at h
 split at h
 ·rename_i i sz f u e fo t hg hf
  split at h
  ·rename_i n hn
   obtain ⟨h1,h2⟩:=zS h
   simp only [zvL,Bool.not_eq_true'] at h1
   have a1:n ≠ 0:=fun e=>by subst e; cases h1.1.1
   have a2:=zvN h1.1.2
   have a3:=zvM h1.2
   obtain ⟨m',q1,q2⟩:=zj h2
   have hu:u - 3000000 + 3000000 = u:=by omega
   have hs:(za ro m).env d0 = .ptr (i.toNat * sz + f):=by show toV (zo ro m d0).1 = _; rw [hg]; simp [toV]
   have ht:(za ro m).tok d0 = some (u - 3000000 + 3000000,e):=by show (zo ro m d0).2 = _; rw [hg,hu]
   refine zkQ ho hs ht a3 hf hn a1 hd ?_
   have:=hK m' q2
   rw [<- q1] at this
   rw [hu,Nat.add_assoc]
   simpa only [toV] using this
  ·cases h
 ·cases h
theorem zkz {o:Oper} {t:TypeId} {d0:Nat} {k:Mm->Option β} (ho:o.op = .load t (.tmp d0)) (hK:∀ m',k m' = some r->Kp (za ro m')) (h:znW (P:=P) ro m t d0 o.dst k = some r) :
  YK P o (za ro m) Kp:=by
 intro n' hd _
 unfold znW at h
 split at h
 ·rename_i i sz f u e0 hg
  split at h
  ·rename_i ss _
   split at h
   ·rename_i c l tk e n ag hs hn ha
    obtain ⟨h1,h2⟩:=zS h
    simp only [zvL] at h1
    obtain ⟨⟨⟨a1,a2⟩,a3⟩,a4⟩:=h1
    have a1':=zvM a1
    have a2':=zvM a2
    have a3':=zvM a3
    subst a1'; subst a3'
    have a4':sizeT P e = some (csz c):=by
     split at a4
     ·rename_i z hz; rw [hz,zvM a4]
     ·cases a4
    obtain ⟨x,hx,h3⟩:=bind_some h2
    obtain ⟨q1,q2,q3⟩:=Qm hx
    have e1:(za ro m).env d0 = .ptr (i.toNat * csz c + f):=by show toV (zo ro m d0).1 = _; rw [hg]; simp [toV]
    have e2:(za ro m).tok d0 = some (tk + 3000000,e0):=by show (zo ro m d0).2 = _; rw [hg]
    have e3:(za ro m).env ss = .list (l.map (enc c)):=by show toV (zo ro m ss).1 = _; rw [hs]; simp [toV]
    have e4:(za ro m).tok ss = some (tk,e):=by show (zo ro m ss).2 = _; rw [hs]
    have e5:(l.map (enc c))[i.toNat]? = some (enc c x):=by rw [List.getElem?_map,q3]; rfl
    have hcl:(enc c x).cellsL = zg (qp (refl c x)):=(Yl c x).symm
    split at h3
    ·obtain ⟨h4,h5⟩:=zS h3
     obtain ⟨m',p1,p2⟩:=zj h5
     refine zfQ ho e1 e2 a2' e3 e4 a4' (yq c l) e5 hn (.inl ⟨ha,?_,rfl⟩) hd ?_
     ·rw [hcl,yK]; exact zvN h4
     ·have:=hK m' p2
      rw [<- p1] at this
      rw [hcl]
      simpa only [toV,Yz] using this
    ·split at h3
     ·rename_i y hy
      obtain ⟨m',p1,p2⟩:=zj h3
      refine zfQ ho e1 e2 a2' e3 e4 a4' (yq c l) e5 hn (.inr ⟨ha,by rw [hcl,Z9,hy]; rfl⟩) hd ?_
      have:=hK m' p2
      rw [<- p1] at this
      exact this
     ·cases h3
   ·cases h
  ·cases h
 ·cases h
theorem zfI (tk:Nat) {c:C} (l':List (den c)) (x:S × Tk):Wk (pv (QD tk (.lst c l') x)) (yX tk (l'.map (enc c)) (pv x)):=by
 obtain ⟨s,tok⟩:=x
 cases tok with
 | none =>
  unfold QD yX pv
  simp only
  cases hf:yR s with
  | true=>rw [if_pos (zaM hf)]; exact .inl rfl
  | false=>exact .inr (.inr (by simp [toV]))
 | some te =>
  obtain ⟨t,e⟩:=te
  unfold QD yX pv
  simp only
  by_cases h1:t = tk
  ·subst h1
   simp only [Nat.beq_refl,cond_true,if_true]
   exact .inl (by simp [toV])
  ·have:Nat.beq t tk = false:=beqF h1
   rw [this,if_neg h1]
   simp only [cond_false]
   by_cases h2:tcl t = 2
   ·rw [if_pos h2,h2]; exact .inl rfl
   ·have:Nat.beq (tcl t) 2 = false:=beqF h2
    rw [this,if_neg h2]
    simp only [cond_false]
    cases hf:yR s with
    | true=>rw [if_pos (zaM hf)]; exact .inl rfl
    | false =>
     simp only [cond_false]
     by_cases h4:tcl t = 0
     ·rw [h4]
      simp only [Nat.beq_refl,cond_true]
      cases s with
      | lst c' l2 =>
       simp only
       cases hcf:Zd c' with
       | false=>exact .inr (.inr (by simp [toV]))
       | true =>
        have htv:toV (S.lst c' l2) = .list (l2.map (enc c')):=by simp [toV]
        rw [htv]
        simp only [cond_true]
        have hfl:=Yd hcf l2
        by_cases hq:(V.list (l2.map (enc c'))).flat = true
        ·rw [if_pos hq]; exact .inl rfl
        ·rw [if_neg hq,if_pos trivial,if_pos hfl]; exact .inl rfl
      | _=>exact .inr (.inr (by simp [toV]))
     ·have:Nat.beq (tcl t) 0 = false:=beqF h4
      rw [this]
      exact .inr (.inr (by simp [toV]))
theorem zp7 {c:C} {x x':den c} {f n:Nat} {y:S} (hy:zbu y = some n) (h:zkj c x f n y = some x') :
  enc c x' = za7 (enc c x) f n (toV y)/\(Go.Eng.isAgg (enc c x) = true ∨ (Go.Eng.isAgg (enc c x) = false/\Go.Eng.isAgg (toV y) = false/\f = 0/\n = 1)):=by
 unfold zkj at h
 have he:=y6 c x
 split at h
 ·rename_i cs hc
  rw [hc] at he
  simp only [toV] at he
  rw [<- he,<- zV h]
  refine ⟨?_,.inl rfl⟩
  simp only [toV,za7,qf,zak,zaj,zal hy]
 ·rename_i hne
  obtain ⟨h1,h2⟩:=zS h
  simp only [zvL] at h1
  have a1:=zvM h1.1
  have a2:=zvM h1.2
  split at h2
  ·cases h2
  ·rename_i hny
   have hag:Go.Eng.isAgg (enc c x) = false:=by
    rw [<- he]
    cases hr:refl c x with
    | agg cs=>exact absurd hr (hne cs)
    | gel g o=>simp only [toV]; split <;> rfl
    | ivd x=>simp only [toV]; cases x <;> rfl
    | _=>rfl
   have hagy:Go.Eng.isAgg (toV y) = false:=by
    cases y with
    | agg cs=>exact absurd rfl (hny cs)
    | gel g o=>simp only [toV]; split <;> rfl
    | ivd x=>simp only [toV]; cases x <;> rfl
    | _=>rfl
   refine ⟨?_,.inr ⟨hag,hagy,a1,a2⟩⟩
   rw [<- zV h2]
   cases hq:enc c x <;> rw [hq] at hag <;> first | rfl | (simp [Go.Eng.isAgg] at hag)
theorem zh7 {mu:Bool} (hro:Yn mu ro) {o:Oper} {t:TypeId} {d0:Nat} {y:Operand} {k:Mm->Option β} (ho:o.op = .store t (.tmp d0) y) (hK:∀ m',k m' = some r->Kp (za ro m')) (h:zkk (P:=P) ro m t d0 (evalX ro m y) o.dst k = some r) :
  YK P o (za ro m) Kp:=by
 intro n' hd _
 unfold zkk at h
 split at h
 ·rename_i i sz f u e0 hg hdst
  split at h
  ·rename_i ss _
   split at h
   ·rename_i c l tk e n n2 hs hn hy
    obtain ⟨h1,h2⟩:=zS h
    simp only [zvL] at h1
    obtain ⟨⟨⟨⟨⟨⟨⟨⟨⟨a1,a2⟩,a3⟩,a4⟩,a5⟩,a6⟩,a7⟩,a8⟩,a9⟩,a10⟩:=h1
    have a1':=zvM a1
    have a2':=zvM a2
    have a3':=zvM a3
    have a5':=zvM a5
    have a6':=zvN a6
    subst a1'; subst a3'; subst a5'
    have a4':sizeT P e = some (csz c):=by
     split at a4
     ·rename_i z hz; rw [hz,zvM a4]
     ·cases a4
    obtain ⟨x,hx,h3⟩:=bind_some h2
    obtain ⟨q1,q2,q3⟩:=Qm hx
    split at h3
    case h_2=>cases h3
    rename_i x' hx'
    obtain ⟨p1,p2⟩:=zp7 hy hx'
    have e1:(za ro m).env d0 = .ptr (i.toNat * csz c + f):=by show toV (zo ro m d0).1 = _; rw [hg]; simp [toV]
    have e2:(za ro m).tok d0 = some (tk + 3000000,e0):=by show (zo ro m d0).2 = _; rw [hg]
    have e3:(za ro m).env ss = .list (l.map (enc c)):=by show toV (zo ro m ss).1 = _; rw [hs]; simp [toV]
    have e4:(za ro m).tok ss = some (tk,e):=by show (zo ro m ss).2 = _; rw [hs]
    have e5:(l.map (enc c))[i.toNat]? = some (enc c x):=by rw [List.getElem?_map,q3]; rfl
    have hbf:∀ j B,(za ro m).box j = some B->V.flatL B.cells = true:=by
     intro j B hB
     change (zu ro m j).map zB = some B at hB
     cases hq:zu ro m j with
     | none=>rw [hq] at hB; cases hB
     | some B' =>
      rw [hq] at hB
      cases hB
      refine zpb ?_
      unfold zu at hq
      cases hw:ro.ownB j with
      | false=>rw [hw] at hq; exact hro.boxes a9 j B' hw hq
      | true =>
       rw [hw] at hq
       simp only [cond_true] at hq
       cases hq2:m.bx[j]? with
       | none=>rw [hq2] at hq; cases hq
       | some ob =>
        rw [hq2] at hq
        simp only [Option.getD_some] at hq
        subst hq
        exact List.all_eq_true.1 a10 _ (List.mem_of_getElem? hq2)
    have main:=zkR (P:=P) (n':=n') (K:=fun st'=>st' = (za ro m).changed tk ((l.map (enc c)).set i.toNat (za7 (enc c x) f n2 (toV (evalX ro m y))))) ho e1 e2 a2' e3 e4 a4' (yq c l) (Yd a8 l) e5 hn
     (zh ro m y).symm (Ql hy) (zaM a7) a6' p2 hbf hdst rfl
    refine ziZ main fun st' hst'=>?_
    subst hst'
    refine ⟨(za ro ⟨m.sl.mapV (QD tk (.lst c (zmm l i x'))),m.bx⟩).sl,fun s=>?_,?_⟩
    ·have hrows:(l.map (enc c)).set i.toNat (za7 (enc c x) f n2 (toV (evalX ro m y))) = (zmm l i x').map (enc c):=by
      unfold zmm
      rw [List.map_set,p1]
     rw [hrows]
     show Wk (pv (zo ro ⟨m.sl.mapV (QD tk (.lst c (zmm l i x'))),m.bx⟩ s)) (yX tk _ (pv (zo ro m s)))
     unfold zo
     cases hw:ro.own s with
     | true =>
      simp only [cond_true]
      rw [T.get_mapV]
      cases m.sl.get s with
      | none =>
       simp only [Option.map_none,Option.getD_none]
       exact .inl (by simp [pv,yX,toV,V.flat])
      | some z =>
       simp only [Option.map_some,Option.getD_some]
       exact zfI tk _ z
     | false =>
      simp only [cond_false]
      rcases ZJ tk ((zmm l i x').map (enc c)) (pv (ro.sl s)) with ⟨e7,q7,_⟩ | q7 | ⟨q7,_⟩
      ·exfalso
       have:=hro.tok s tk e7 q7
       omega
      ·have hfl:=hro.flat a9 s hw
       have htk:=hro.tok s
       revert q7 hfl htk
       generalize ro.sl s = z
       intro q7 hfl htk
       obtain ⟨zs,zt⟩:=z
       cases zt with
       | none =>
        rcases hfl with hfl | hfl
        ·exact absurd rfl hfl
        ·have hfz:=zaM hfl
         have:yX tk ((zmm l i x').map (enc c)) (pv (zs,none)) = pv (zs,none):=by simp [pv,yX,hfz]
         rw [this]; exact .inl rfl
       | some te =>
        obtain ⟨t7,e7⟩:=te
        have h2:=htk t7 e7 rfl
        have hne:t7 ≠ tk:=fun e=>by subst e; omega
        have:yX tk ((zmm l i x').map (enc c)) (pv (zs,some (t7,e7))) = pv (zs,some (t7,e7)):=by simp [pv,yX,hne,h2]
        rw [this]; exact .inl rfl
      ·rw [q7]; exact .inl rfl
    ·have:=hK _ h3
     exact this
   ·cases h
  ·cases h
 ·cases h
theorem zkA {mu:Bool} (hro:Yn mu ro) {o:Oper} {t:TypeId} {xl xc:Operand} {k:Mm->Option β} (ho:o.op = .makeSlice t xl xc) (hK:∀ m',k m' = some r->Kp (za ro m')) (h:znX X ro m t (evalX ro m xl) (evalX ro m xc) o.dst k = some r) :
  YK P o (za ro m) Kp:=by
 intro n' hd _
 unfold znX at h
 split at h
 ·rename_i kl l kc n e hl hc he
  split at h
  ·rename_i c sz by' zv hcd hsz hby hz
   split at h
   ·rename_i z zn hz1 hz2
    obtain ⟨h1,h2⟩:=zS h
    simp only [zvL] at h1
    have a1:=zvM h1.1.1
    have a2:=zvM h1.1.2
    have a3:=zvM h1.2
    subst a1
    obtain ⟨q,hq,h3⟩:=bind_some h2
    obtain ⟨hq1,hq2⟩:=za5 hq
    cases hq2
    obtain ⟨m',p1,p2⟩:=zj h3
    refine zfR (tk:=o.dst.getD 0) (kl:=kl) (kc:=kc) ho (by rw [<- zh,hl]; simp only [toV]) (by rw [<- zh,hc]; simp only [toV]) (z7 he) hsz hby (YS hz) (Ql hz2) hq1.1 hq1.2.1 hq1.2.2.1 hq1.2.2.2 a3 hd ?_
    have:=hK m' p2
    rw [<- p1,Zh hro (by omega)] at this
    simpa [toV,zV hz1] using this
   ·cases h
  ·cases h
 ·cases h
theorem zex {γ:Type} {A B:Option γ} {r:γ} (h:zte A B = some r):A = some r/\B = some r:=by
 unfold zte at h
 split at h
 ·rename_i he
  exact ⟨he.trans h,h⟩
 ·cases h
theorem zi0 {α γ:Type} {l:List α} {A B:Option γ} {r:γ} (h:ztf l A B = some r):B = some r/\(l = []->A = some r):=by
 unfold ztf at h
 split at h
 ·exact ⟨(zex h).2,fun _=>(zex h).1⟩
 ·exact ⟨h,fun he=>by cases he⟩
theorem zkB {o:Oper} {op:BinOp} {t u:TypeId} {x:Operand} {k:Mm->Option β} (ho:o.op = .binOp op t x (.const (.slice none 0 0)) u) (hK:∀ m',k m' = some r->Kp (za ro m'))
  (h:znY (P:=P) ro m op t (evalX ro m x) o.dst k = some (some r)):YK P o (za ro m) Kp:=by
 intro n' hd _
 unfold znY at h
 split at h
 ·rename_i c l e hx he
  simp only [zvO] at h
  obtain ⟨h1,h2⟩:=zi0 h
  refine zhn (rows:=l.map (enc c)) ho (.inl ⟨rfl,rfl⟩) (z7 he) (by rw [<- zh,hx]; simp only [toV]) hd fun b hb=>?_
  cases b with
  | false =>
   obtain ⟨m',p1,p2⟩:=zj h1
   rw [show V.bool false = toV (.bool false) from by simp only [toV],p1]
   exact hK m' p2
  | true =>
   have hl:l = []:=by
    apply Classical.byContradiction
    intro hne
    have:=hb (by simpa using hne)
    cases this
   obtain ⟨m',p1,p2⟩:=zj (h2 hl)
   rw [show V.bool true = toV (.bool true) from by simp only [toV],p1]
   exact hK m' p2
 ·rename_i c l e hx he
  simp only [zvO] at h
  obtain ⟨h1,h2⟩:=zi0 h
  refine zhn (rows:=l.map (enc c)) ho (.inr ⟨rfl,rfl⟩) (z7 he) (by rw [<- zh,hx]; simp only [toV]) hd fun b hb=>?_
  cases b with
  | true =>
   obtain ⟨m',p1,p2⟩:=zj h1
   rw [show V.bool true = toV (.bool true) from by simp only [toV],p1]
   exact hK m' p2
  | false =>
   have hl:l = []:=by
    apply Classical.byContradiction
    intro hne
    have:=hb (by simpa using hne)
    cases this
   obtain ⟨m',p1,p2⟩:=zj (h2 hl)
   rw [show V.bool false = toV (.bool false) from by simp only [toV],p1]
   exact hK m' p2
 ·cases h
theorem zdD:∀ {ss:List (zhd P)} {f:FuncId} {Q:zhd P},zfG ss f = some Q->Q.f = f
 | [],_,_,h=>by cases h
 | s :: ss,f,Q,h=>by
  simp only [zfG] at h
  cases hb:Nat.beq s.f f with
  | true=>rw [hb] at h; cases h; exact zvM hb
  | false=>rw [hb] at h; exact zdD h
theorem zod {mu:Bool} (hro:Yn mu ro) {o:Oper} {Q:zhd P} {fo:Operand} {args:Array Operand} {tys:Array TypeId} {first cap:List S} {k:Mm->Option β} (ho:o.op = .call { callee:=.value fo,args:=args,argTypes:=tys })
  (hfo:evalX ro m fo = .fn (.func Q.f) first cap) (hK:∀ m',k m' = some r->Kp (za ro m')) (h:zuq ro m Q (first++args.toList.map (evalX ro m)++cap) o.dst k = some r):YK P o (za ro m) Kp:=by
 intro n' hd _
 unfold zuq at h
 obtain ⟨h1,h2⟩:=zS h
 simp only [zvL,List.isEmpty_iff] at h1
 obtain ⟨a1,a2⟩:=h1
 have a2':=zvM a2
 split at h2
 ·rename_i q hq
  obtain ⟨l,hl,h3⟩:=bind_some h2
  subst hl
  obtain ⟨hgo,hF⟩:=Q.sound _ l hq
  obtain ⟨m',p1,p2⟩:=zj h3
  have ea:zg first++args.toList.map (za ro m).eval++zg cap = zg (first++args.toList.map (evalX ro m)++cap):=by rw [qf,qf,zbz]
  refine qz (fr:=some (0,Q.e)) (tk:=some (o.dst.getD 0,Q.e)) (zqJ (first:=zg first) (cap:=zg cap) ho (by rw [<- zh,hfo]; simp only [toV]) hgo (by rw [ea]; exact qS _ (yE _ a1)) (by rw [ea]; exact hF)) (fun t e he=>by cases he; rw [a2']) hd ?_
  have:=hK m' p2
  rw [<- p1,Zh hro (by omega)] at this
  simpa [toV,St.fresh] using this
 ·cases h2
theorem zfJ {mu:Bool} (hro:Yn mu ro) (hf:ro.fl = true) {tk:Nat} (htk:tcl tk = 0) (rows:List V) {s:Nat} (hw:ro.own s = false):(∀ e,(ro.sl s).2 ≠ some (tk,e))/\Wk (pv (ro.sl s)) (yX tk rows (pv (ro.sl s))):=by
 have hfl:=hro.flat hf s hw
 have ht:=hro.tok s
 revert hfl ht
 generalize ro.sl s = z
 intro hfl ht
 obtain ⟨zs,zt⟩:=z
 cases zt with
 | none =>
  refine ⟨fun e h=>(by cases h),?_⟩
  rcases hfl with hfl | hfl
  ·exact absurd rfl hfl
  ·have hfz:=zaM hfl
   have:yX tk rows (pv (zs,none)) = pv (zs,none):=by simp [pv,yX,hfz]
   rw [this]; exact .inl rfl
 | some te =>
  obtain ⟨t7,e7⟩:=te
  have h2:=ht t7 e7 rfl
  have hne:t7 ≠ tk:=fun e=>by subst e; omega
  refine ⟨fun e h=>by cases h; exact hne rfl,?_⟩
  have:yX tk rows (pv (zs,some (t7,e7))) = pv (zs,some (t7,e7)):=by simp [pv,yX,hne,h2]
  rw [this]; exact .inl rfl
theorem zhv {mu:Bool} (hro:Yn mu ro) (hf:ro.fl = true) (hb:m.bx.all (fun B=>match B with | some B=>zai B | none=>true) = true):∀ j B,(za ro m).box j = some B->V.flatL B.cells = true:=by
 intro j B hB
 change (zu ro m j).map zB = some B at hB
 cases hq:zu ro m j with
 | none=>rw [hq] at hB; cases hB
 | some B' =>
  rw [hq] at hB
  cases hB
  refine zpb ?_
  unfold zu at hq
  cases hw:ro.ownB j with
  | false=>rw [hw] at hq; exact hro.boxes hf j B' hw hq
  | true =>
   rw [hw] at hq
   simp only [cond_true] at hq
   cases hq2:m.bx[j]? with
   | none=>rw [hq2] at hq; cases hq
   | some ob =>
    rw [hq2] at hq
    simp only [Option.getD_some] at hq
    subst hq
    exact List.all_eq_true.1 hb _ (List.mem_of_getElem? hq2)
theorem ze4 {mu:Bool} (hro:Yn mu ro) {o:Oper} {Q:zcg P} {ss:Nat} {fo:Operand} {ys:List Operand} {args:Array Operand} {tys:Array TypeId} {k:Mm->Option β} (ho:o.op = .call { callee:=.value fo,args:=args,argTypes:=tys }) (ha:args.toList = .tmp ss :: ys)
  (hfo:evalX ro m fo = .fn (.func Q.f) [] []) (hy:match Q.g with | none=>ys = [] | some g=>∃ y,ys = [y]/\evalX ro m y = .fn (.func g) [] []) (hK:∀ m',k m' = some r->Kp (za ro m')) (h:zo5 ro m Q ss o.dst k = some r):YK P o (za ro m) Kp:=by
 intro n' hd _
 unfold zo5 at h
 split at h
 ·rename_i c l tk e hs
  split at h
  ·rename_i hc
   subst hc
   obtain ⟨h1,h2⟩:=zS h
   simp only [zvL] at h1
   obtain ⟨⟨⟨a1,a2⟩,a4⟩,a5⟩:=h1
   have a1':tcl tk = 0:=zvM a1
   have a2':sizeT P e = some (csz Q.c):=by
    split at a2
    ·rename_i z hz; rw [hz,zvM a2]
    ·cases a2
   obtain ⟨x,hx,h3⟩:=bind_some h2
   unfold zu2 at hx
   split at hx
   case isFalse=>cases hx
   rename_i hlt
   simp only [zvO] at hx
   subst hx
   have e1:(za ro m).env ss = .list (l.map (enc Q.c)):=by show toV (zo ro m ss).1 = _; rw [hs]; simp [toV]
   have e2:(za ro m).tok ss = some (tk,e):=by show (zo ro m ss).2 = _; rw [hs]
   have ea:args = (Operand.tmp ss :: ys).toArray:=by obtain ⟨l⟩:=args; simpa using ha
   have ef:(za ro m).eval fo = .fn (.func Q.f) [] []:=by rw [<- zh,hfo]; simp [toV,zg]
   have eg:match Q.g with | none=>ys = [] | some g=>∃ y,ys = [y]/\(za ro m).eval y = .fn (.func g) [] []:=by
    split at hy
    ·exact hy
    ·obtain ⟨y,h1,h2⟩:=hy
     exact ⟨y,h1,by rw [<- zh,h2]; simp [toV,zg]⟩
   have main:=zp5 (P:=P) (n':=n') (K:=fun st'=>st' = ((za ro m).changed tk ((Q.srt l).map (enc Q.c))).put o.dst (.tup []) none) ho ea ef eg Q.go e1 e2 a1' a2' (yq Q.c l) (zhv hro a4 a5) Q.sound hlt hd rfl
   refine ziZ main fun st' hst'=>?_
   subst hst'
   obtain ⟨m',q1,q2⟩:=zj h3
   have hp:=hK m' q2
   rw [<- q1] at hp
   have htup:toV (S.tup []) = .tup []:=by simp [toV,zg]
   rw [htup] at hp
   have hwk:∀ s,Wk ((za ro ⟨m.sl.mapV (QD tk (.lst Q.c (Q.srt l))),m.bx⟩).sl s) (((za ro m).changed tk ((Q.srt l).map (enc Q.c))).sl s):=by
    intro s
    show Wk (pv (zo ro _ s)) (yX tk _ (pv (zo ro m s)))
    unfold zo
    cases hw:ro.own s with
    | true =>
     simp only [cond_true]
     rw [T.get_mapV]
     cases m.sl.get s with
     | none =>
      simp only [Option.map_none,Option.getD_none]
      exact .inl (by simp [pv,yX,toV,V.flat])
     | some z =>
      simp only [Option.map_some,Option.getD_some]
      exact zfI tk _ z
    | false =>
     simp only [cond_false]
     exact (zfJ hro a4 a1' ((Q.srt l).map (enc Q.c)) hw).2
   generalize hm2:(⟨m.sl.mapV (QD tk (.lst Q.c (Q.srt l))),m.bx⟩:Mm) = m2 at hp hwk
   have hnb:m2.bx = m.bx:=by rw [<- hm2]
   refine ⟨((za ro m2).put o.dst (.tup []) none).sl,fun s=>?_,?_⟩
   ·cases hdst:o.dst with
    | none=>exact hwk s
    | some d =>
     show Wk (if s = d then _ else _) (if s = d then _ else _)
     by_cases hsd:s = d
     ·rw [if_pos hsd,if_pos hsd]; exact .inl rfl
     ·rw [if_neg hsd,if_neg hsd]; exact hwk s
   ·refine (congrArg Kp ?_).mp hp
    have hb:(za ro m2).box = (za ro m).box:=by
     funext i
     show (zu ro m2 i).map zB = (zu ro m i).map zB
     unfold zu
     rw [hnb]
    have hn:(za ro m2).nb = (za ro m).nb:=by show m2.bx.length = m.bx.length; rw [hnb]
    cases hdst:o.dst with
    | none =>
     show za ro m2 = ⟨(za ro m).nb,(za ro m2).sl,(za ro m).box⟩
     rw [<- hb,<- hn]
    | some d =>
     show (za ro m2).put (some d) (.tup []) none = ⟨(za ro m).nb,((za ro m2).put (some d) (.tup []) none).sl,(za ro m).box⟩
     rw [<- hb,<- hn]
     rfl
  ·cases h
 ·cases h
theorem zdE:∀ {ss:List (zml P)} {f:FuncId} {Q:zml P},zfF ss f = some Q->Q.f = f
 | [],_,_,h=>by cases h
 | s :: ss,f,Q,h=>by
  simp only [zfF] at h
  cases hb:Nat.beq s.f f with
  | true=>rw [hb] at h; cases h; exact zvM hb
  | false=>rw [hb] at h; exact zdE h
theorem zpc (tk:Nat) (x:S × Tk):Wk (pv (qP tk x)) (Yg tk (pv x)):=by
 obtain ⟨s,t⟩:=x
 have hk:=zfI tk ([]:List (den .i64)) (s,t)
 unfold qP Yg
 cases t with
 | none=>exact hk
 | some te =>
  obtain ⟨t,e⟩:=te
  simp only [pv] at hk ⊢
  by_cases h:t = tk
  ·subst h
   simp only [Nat.beq_refl,cond_true,if_true]
   exact .inl (by simp [toV])
  ·have:Nat.beq t tk = false:=by
    cases hq:Nat.beq t tk with
    | true=>exact absurd (zvM hq) h
    | false=>rfl
   rw [this]
   simp only [cond_false,if_neg h]
   exact hk
theorem zmv:∀ (l:List S) (i:Nat) (x:S),zg (l.set i x) = (zg l).set i (toV x)
 | [],i,x=>by simp [zg]
 | y :: l,0,x=>by simp [zg]
 | y :: l,i + 1,x=>by simp [zg,zmv l i x]
theorem zdF {mu:Bool} (hro:Yn mu ro) (a4:ro.fl = true) {tk:Nat} (a1':tcl tk = 0):∀ s,Wk ((za ro ⟨m.sl.mapV (qP tk),m.bx⟩).sl s) (((za ro m).dropped tk).sl s):=by
 intro s
 show Wk (pv (zo ro _ s)) (Yg tk (pv (zo ro m s)))
 unfold zo
 cases hw:ro.own s with
 | true =>
  simp only [cond_true]
  rw [T.get_mapV]
  cases m.sl.get s with
  | none =>
   simp only [Option.map_none,Option.getD_none]
   exact .inl (by simp [pv,Yg,yX,toV,V.flat])
  | some z =>
   simp only [Option.map_some,Option.getD_some]
   exact zpc tk z
 | false =>
  simp only [cond_false]
  obtain ⟨k1,k2⟩:=zfJ hro a4 a1' [] hw
  have:Yg tk (pv (ro.sl s)) = yX tk [] (pv (ro.sl s)):=by
   unfold Yg
   split
   ·rename_i t e' he
    rw [if_neg]
    rintro rfl
    exact k1 e' he
   ·rfl
  rw [this]
  exact k2
theorem zoe {mu:Bool} (hro:Yn mu ro) {o:Oper} {Q:zml P} {fo:Operand} {args:Array Operand} {tys:Array TypeId} {cap:List S} {k:Mm->Option β} (ho:o.op = .call { callee:=.value fo,args:=args,argTypes:=tys })
  (hfo:evalX ro m fo = .fn (.func Q.f) [] cap) (hK:∀ m',k m' = some r->Kp (za ro m')) (h:zur ro m Q args.toList cap o.dst k = some r):YK P o (za ro m) Kp:=by
 intro n' hd _
 unfold zur at h
 split at h
 case h_2=>cases h
 rename_i ss hp
 split at h
 case h_2=>cases h
 rename_i c l tk e hs
 obtain ⟨h1,h2⟩:=zS h
 simp only [zvL] at h1
 obtain ⟨⟨⟨⟨⟨⟨a1,a2⟩,a3⟩,a4⟩,a5⟩,a6⟩,a7⟩:=h1
 have a1':tcl tk = 0:=zvM a1
 have a2':e = Q.e:=zvM a2
 have a3':tcl (o.dst.getD 0) = 0:=zvM a3
 subst a2'
 split at h2
 case h_2=>cases h2
 rename_i ins hins
 split at h2
 case h_2=>cases h2
 rename_i q hq
 subst h2
 obtain ⟨lr,outs,hk,hgo,hF,hno,hlen⟩:=Q.sound _ _ _ _ hq
 obtain ⟨b1,b2⟩:=zaK hins
 generalize hA:zbT ro m tk args.toList Q.p (.lst c l) cap = A at hins hq hk hF b1 b2
 obtain ⟨d1,_,d3,_⟩:=Qo (yz A) [] (by simp)
 obtain ⟨l1,l2⟩:=qJ b1
 have hlen':(Yy (yz A) []).length = outs.length:=by rw [l1,hlen]; simp
 obtain ⟨m',p1,p2⟩:=zj hk
 have hKm:=hK m' p2
 have hwk:∀ s,Wk ((za ro ⟨m.sl.mapV (qP tk),m.bx⟩).sl s) (((za ro m).dropped tk).sl s):=by
  intro s
  show Wk (pv (zo ro _ s)) (Yg tk (pv (zo ro m s)))
  unfold zo
  cases hw:ro.own s with
  | true =>
   simp only [cond_true]
   rw [T.get_mapV]
   cases m.sl.get s with
   | none =>
    simp only [Option.map_none,Option.getD_none]
    exact .inl (by simp [pv,Yg,yX,toV,V.flat])
   | some z =>
    simp only [Option.map_some,Option.getD_some]
    exact zpc tk z
  | false =>
   simp only [cond_false]
   obtain ⟨k1,k2⟩:=zfJ hro a4 a1' [] hw
   have:Yg tk (pv (ro.sl s)) = yX tk [] (pv (ro.sl s)):=by
    unfold Yg
    split
    ·rename_i t e' he
     rw [if_neg]
     rintro rfl
     exact k1 e' he
    ·rfl
   rw [this]
   exact k2
 have hst1:za ro ⟨m.sl.mapV (qP tk),m.bx⟩ = ⟨(za ro m).nb,(za ro ⟨m.sl.mapV (qP tk),m.bx⟩).sl,(za ro m).box⟩:=rfl
 refine zmR (st:=za ro m) (tk:=tk) (ss:=ss) (rows:=l.map (enc c)) (cap:=zg cap) (st1:=za ro ⟨m.sl.mapV (qP tk),m.bx⟩) (π:=Yy (yz A) []) (args':=zg (zag (zep (Yy (yz A) [])) A)) (ins:=ins.map zB) (outs:=outs.map zB) (tn:=o.dst.getD 0)
  ho (by rw [<- zh,hfo]; simp [toV,zg]) hd hgo hp (by show toV (zo ro m ss).1 = _; rw [hs]; simp only [toV]) (by show (zo ro m ss).2 = _; rw [hs]) a1' (zhv hro a4 a5) a3' (fun h=>by rw [hst1]; exact zl.weak h hwk) ?_ (fun _=>rfl) d1 (zaL a7) ?_ b1 (by simp [hlen]) ?_ ?_ (zhu a6) hF ?_
 ·intro s t e' hq
  rcases hwk s with w1 | w1 | w1
  ·show (((za ro m).dropped tk).sl s).2 = _
   rw [<- w1]; exact hq
  ·have:((za ro ⟨m.sl.mapV (qP tk),m.bx⟩).sl s).2 = some (t,e'):=hq
   rw [w1] at this; cases this
  ·have:((za ro ⟨m.sl.mapV (qP tk),m.bx⟩).sl s).2 = some (t,e'):=hq
   rw [w1] at this; cases this
 ·rw [Yb]
  ·rw [<- hA]
   unfold zbT
   rw [qf]
   congr 1
   rw [zmv,zbz]
   simp only [toV]
  ·intro i hi
   have:=zcG _ i (d3 i hi)
   simp [List.getD,this]
 ·intro B hB
  obtain ⟨B',hB',rfl⟩:=List.mem_map.1 hB
  exact zdz (hno B' hB')
 ·simp only [V.noLoc]; exact z8 (Y0 Q.c) lr
 ·rw [<- p1] at hKm
  have e1:=Zh (ro:=ro) (m:=⟨m.sl.mapV (qP tk),zhe m.bx (Yy (yz A) []) outs⟩) hro (t:=o.dst.getD 0) (by omega)
  rw [e1,zbE hlen' b2] at hKm
  simpa [toV] using hKm
theorem zof {mu:Bool} (hro:Yn mu ro) {o:Oper} {t:TypeId} {ss:Nat} {y:Operand} {k:Mm->Option β} (ho:o.op = .slice t (.tmp ss) none (some y) none) (hK:∀ m',k m' = some r->Kp (za ro m')) (h:zus (P:=P) ro m t ss (evalX ro m y) o.dst k = some r) :
  YK P o (za ro m) Kp:=by
 intro n' hd _
 unfold zus at h
 split at h
 case h_2=>cases h
 rename_i c l tk e ky i hs hy
 split at h
 case h_2=>cases h
 rename_i e' sz he
 obtain ⟨h1,h2⟩:=zS h
 simp only [zvL] at h1
 obtain ⟨⟨⟨⟨⟨a1,a2⟩,a3⟩,a4⟩,a5⟩,a6⟩:=h1
 have a1':=zvM a1
 have a2':tcl tk = 0:=zvM a2
 have a4':tcl (o.dst.getD 0) = 0:=zvM a4
 subst a1'
 obtain ⟨e1,e2,rfl⟩:=Zg he
 obtain ⟨q,hq,h3⟩:=bind_some h2
 obtain ⟨⟨_,q1,q2⟩,rfl⟩:=Ya hq
 obtain ⟨m',p1,p2⟩:=zj h3
 have hKm:=hK m' p2
 have hwk:=zdF (m:=m) hro a5 a2'
 have hst1:za ro ⟨m.sl.mapV (qP tk),m.bx⟩ = ⟨(za ro m).nb,(za ro ⟨m.sl.mapV (qP tk),m.bx⟩).sl,(za ro m).box⟩:=rfl
 refine zqE (st:=za ro m) (tk:=tk) (ss:=ss) (rows:=l.map (enc c)) (st1:=za ro ⟨m.sl.mapV (qP tk),m.bx⟩) (tn:=o.dst.getD 0) (k:=ky) (i:=i) ho (by show toV (zo ro m ss).1 = _; rw [hs]; simp only [toV]) (by show (zo ro m ss).2 = _; rw [hs]) a2'
  (by rw [<- zh,hy]; simp only [toV]) (z7 e1) e2 (yq c l) (Yd a3 l) q1 (by rw [List.length_map]; exact q2) (zhv hro a5 a6) a4' (fun h=>by rw [hst1]; exact zl.weak h hwk) ?_ (fun _=>rfl) hd ?_
 ·intro s t' e' hq'
  rcases hwk s with w1 | w1 | w1
  ·show (((za ro m).dropped tk).sl s).2 = _
   rw [<- w1]; exact hq'
  ·have:((za ro ⟨m.sl.mapV (qP tk),m.bx⟩).sl s).2 = some (t',e'):=hq'
   rw [w1] at this; cases this
  ·have:((za ro ⟨m.sl.mapV (qP tk),m.bx⟩).sl s).2 = some (t',e'):=hq'
   rw [w1] at this; cases this
 ·rw [<- p1] at hKm
  have e3:=Zh (ro:=ro) (m:=⟨m.sl.mapV (qP tk),m.bx⟩) hro (t:=o.dst.getD 0) (by omega)
  rw [e3] at hKm
  have h0:(0:Int).toNat = 0:=rfl
  simpa [toV,List.map_take,h0] using hKm
theorem zmw {mu:Bool} (hro:Yn mu ro) {o:Oper} {s t:TypeId} {ss:Nat} {k:Mm->Option β} (ho:o.op = .convert s t (.tmp ss)) (hK:∀ m',k m' = some r->Kp (za ro m')) (h:zr4 (P:=P) ro m s t ss o.dst k = some (some r)) :
  YK P o (za ro m) Kp:=by
 intro n' hd _
 unfold zr4 at h
 split at h
 case h_2=>cases h
 rename_i l0 tk e hs
 have a02:=(zS h).1
 have hh:=(zS h).2
 clear h
 simp only [zvL] at a02
 obtain ⟨a2,a0⟩:=a02
 split at hh
 case h_2=>cases hh
 rename_i x l
 simp only [zvO] at hh
 split at hh
 case h_2=>cases hh
 rename_i e' sz he hbt
 obtain ⟨h1,h2⟩:=zS hh
 simp only [zvL] at h1
 obtain ⟨⟨a1,a5⟩,a6⟩:=h1
 have a0':=zvM a0
 have a1':=zvM a1
 have a2':tcl tk = 0:=zvM a2
 subst a0'
 subst a1'
 obtain ⟨e1,e2,rfl⟩:=Zg he
 obtain ⟨m',p1,p2⟩:=zj h2
 have hKm:=hK m' p2
 have hwk:=zdF (m:=m) hro a5 a2'
 have hst1:za ro ⟨m.sl.mapV (qP tk),m.bx⟩ = ⟨(za ro m).nb,(za ro ⟨m.sl.mapV (qP tk),m.bx⟩).sl,(za ro m).box⟩:=rfl
 refine zpp (st:=za ro m) (tk:=tk) (ss:=ss) (rows:=(x :: l).map (enc .u8)) (st1:=za ro ⟨m.sl.mapV (qP tk),m.bx⟩) ho (by show toV (zo ro m ss).1 = _; rw [hs]; simp only [toV]) (by show (zo ro m ss).2 = _; rw [hs]) a2'
  (z7 e1) (Y1 hbt) e2 (yq .u8 (x :: l)) (Yd (by rfl) (x :: l)) (by simp) (zhv hro a5 a6) (fun h=>by rw [hst1]; exact zl.weak h hwk) ?_ (fun _=>rfl) hd ?_
 ·intro s t' e' hq'
  rcases hwk s with w1 | w1 | w1
  ·show (((za ro m).dropped tk).sl s).2 = _
   rw [<- w1]; exact hq'
  ·have:((za ro ⟨m.sl.mapV (qP tk),m.bx⟩).sl s).2 = some (t',e'):=hq'
   rw [w1] at this; cases this
  ·have:((za ro ⟨m.sl.mapV (qP tk),m.bx⟩).sl s).2 = some (t',e'):=hq'
   rw [w1] at this; cases this
 ·rw [<- p1] at hKm
  simpa only [toV] using hKm
theorem zh8 {mu:Bool} (hro:Yn mu ro) {o:Oper} {ss:Nat} {x:Operand} {t u:TypeId} {k:Mm->Option β} (ho:o.op = .call { callee:=.builtin .append,args:=#[.tmp ss,x],argTypes:=#[t,u] }) (hK:∀ m',k m' = some r->Kp (za ro m'))
  (h:zkl (P:=P) ro m ss (evalX ro m x) t u o.dst k = some r):YK P o (za ro m) Kp:=by
 intro n' hd _
 unfold zkl at h
 split at h
 case h_2=>cases h
 rename_i c l tk e e' c' y l2 hg ht hx
 split at h
 case h_2=>cases h
 rename_i sz by' zv hs hb hz
 split at h
 case h_2=>cases h
 rename_i zn hzn
 obtain ⟨h1,h2⟩:=zS h
 simp only [zvL,Bool.not_eq_true'] at h1
 obtain ⟨⟨⟨⟨⟨⟨a1,a0⟩,a2⟩,a3⟩,a4⟩,a5⟩,a6⟩:=h1
 have a0':=zho a0
 have a1':=zvM a1
 have a3':=zvM a3
 have a4':=zvM a4
 have a6':tcl (o.dst.getD 0) = 0:=zvM a6
 subst a1'
 subst a3'
 split at h2
 case isFalse=>cases h2
 rename_i hc
 subst hc
 obtain ⟨q,q1,q2⟩:=bind_some h2
 obtain ⟨q3,rfl⟩:=zmu q1
 obtain ⟨m',e1,hk⟩:=zj q2
 have hKm:=hK m' hk
 have hb0:by' ≠ 0:=fun e=>by subst e; cases a5
 have henv:(za ro m).env ss = .list (l.map (enc c')):=by show toV (zo ro m ss).1 = _; rw [hg]; simp [toV]
 have htok:(za ro m).tok ss = some (tk,e):=by show (zo ro m ss).2 = _; rw [hg]
 have hlen:((l.map (enc c')).length + ((y :: l2).map (enc c')).length) * by' <= 140737488355328:=by simpa using q3
 have hmax:(l.map (enc c')).length + ((y :: l2).map (enc c')).length <= maxLen:=by
  have:((l.map (enc c')).length + ((y :: l2).map (enc c')).length) * 1 <= ((l.map (enc c')).length + ((y :: l2).map (enc c')).length) * by':=Nat.mul_le_mul_left _ (Nat.one_le_iff_ne_zero.2 hb0)
  simp only [maxLen]; omega
 refine zfd (st:=za ro m) (tk:=tk) (ss:=ss) (rows:=l.map (enc c')) (rows2:=(y :: l2).map (enc c')) (tn:=o.dst.getD 0) ho henv htok a0' (z7 ht) a2 hs hb (YS hz) (Ql hzn) (by rw [<- a4']; exact yq c' l)
  (fun w pr lam xv hxv=>Src.list (by rw [<- zh,hx] at hxv; simpa [toV] using hxv) (by rw [<- a4']; exact yq c' (y :: l2))) hlen hmax a6' (by simp) hd ?_
 rw [<- e1] at hKm
 have e3:=Zh (ro:=ro) (m:=⟨m.sl.mapV (zaf tk),m.bx⟩) hro (t:=o.dst.getD 0) (by omega)
 have e4:=Zh (ro:=ro) (m:=m) hro (t:=tk) a0'
 rw [e3,e4] at hKm
 simpa [toV] using hKm
theorem zmx {mu:Bool} (hro:Yn mu ro) {o2 o3:Oper} {k:Mm->Option β} (hK:∀ m',k m' = some r->Kp (za ro m')) (h:zr5 (P:=P) ro o2 o3 m k = some r):zqF P o2 o3 (za ro m) Kp:=by
 unfold zr5 at h
 split at h
 case h_2=>cases h
 rename_i c t ss y g2 g3 hd3 hd2 ho2
 obtain ⟨hcl,h⟩:=zS h
 split at h
 case h_2=>cases h
 rename_i cc l tk e ky i hs hy
 split at h
 case h_2=>cases h
 rename_i e' sz zv he hz
 split at h
 case h_2=>cases h
 rename_i z zn hzu hzc
 obtain ⟨h1,h2⟩:=zS h
 simp only [zvL] at h1
 obtain ⟨⟨⟨⟨⟨a1,a2⟩,a3⟩,a4⟩,a5⟩,a6⟩:=h1
 have a1':=zvM a1
 have a2':tcl tk = 0:=zvM a2
 have a3':=zvM a3
 subst a1' a3'
 obtain ⟨e1,e2,e3⟩:=Zg he
 obtain ⟨q,hq,h3⟩:=bind_some h2
 unfold zu3 at hq
 split at hq
 case isFalse=>cases hq
 rename_i hi
 cases hq
 obtain ⟨m',p1,p2⟩:=zj h3
 have hKm:=hK m' p2
 rw [<- p1] at hKm
 have hzV:=zV hzu
 refine ⟨⟨g2,g3⟩,?_⟩
 have s1:(za ro m).env ss = .list (l.map (enc cc)):=by show toV (zo ro m ss).1 = _; rw [hs]; simp only [toV]
 have s2:(za ro m).tok ss = some (tk,e):=by show (zo ro m ss).2 = _; rw [hs]
 have s3:(za ro m).eval y = .int ky i:=by rw [<- zh,hy]; simp only [toV]
 simp only [ho2,hd2,hd3,s1,s2,s3,e2,YS hz]
 refine ⟨hcl,a2',e1,⟨Ql hzc,by rw [hzV]; exact YT a4 z,by rw [e3]; exact yq cc l,Yd a4 l,hi.1,by rw [List.length_map]; exact hi.2⟩,zhv hro a5 a6,_,fun F a w pr lam hS=>?_,hKm⟩
 have hr:(l.map (enc cc)).take i.toNat++List.replicate ((l.map (enc cc)).length - i.toNat) (toV zv) = (l.take i.toNat++List.replicate (l.length - i.toNat) z).map (enc cc):=by
  rw [hzV]; simp [List.map_take]
 rw [hr] at hS
 have hst1:za ro ⟨m.sl.mapV (QD tk (.lst cc (l.take i.toNat++List.replicate (l.length - i.toNat) z))),m.bx⟩ = ⟨(za ro m).nb,(za ro ⟨m.sl.mapV (QD tk (.lst cc (l.take i.toNat++List.replicate (l.length - i.toNat) z))),m.bx⟩).sl,(za ro m).box⟩:=rfl
 rw [hst1]
 refine zl.weak hS fun s=>?_
 show Wk (pv (zo ro _ s)) (yX tk _ (pv (zo ro m s)))
 unfold zo
 cases hw:ro.own s with
 | true =>
  simp only [cond_true]
  rw [T.get_mapV]
  cases m.sl.get s with
  | none =>
   simp only [Option.map_none,Option.getD_none]
   exact .inl (by simp [pv,yX,toV,V.flat])
  | some z' =>
   simp only [Option.map_some,Option.getD_some]
   exact zfI tk _ z'
 | false =>
  simp only [cond_false]
  exact (zfJ hro a5 a2' _ hw).2
theorem zp8 {a b:Option Nat} (h:ztc a b = true):a = b:=by
 cases a <;> cases b <;> simp_all [ztc]
theorem QZ {f:FuncId} {g:Option FuncId}:∀ {l:List (zcg P)} {Q:zcg P},zby l f g = some Q->Q.f = f/\Q.g = g
 | [],Q,h=>by cases h
 | s :: l,Q,h=>by
  simp only [zby] at h
  cases hb:(Nat.beq s.f f && ztc s.g g) with
  | true =>
   rw [hb] at h
   simp only [cond_true,zvO] at h
   subst h
   simp only [zvL] at hb
   exact ⟨zvM hb.1,zp8 hb.2⟩
  | false=>rw [hb] at h; exact QZ h
theorem zcH {x:Operand} {d0:Nat} (h:zmn ro m x = some d0):x = .tmp d0:=by
 unfold zmn at h
 split at h
 ·split at h
  ·cases h; rfl
  ·cases h
 ·cases h
theorem zp9 {α β:Type} [d:DecidableEq α] {kin:α->Bool} {l l':List (α × β)} {k:α} (h:zui kin l k = some l'):kin k = true/\(∀ e ∈ l,kin e.1 = true)/\l' = zqG l k:=by
 unfold zui at h
 obtain ⟨h1,h2⟩:=zS h
 cases h2
 simp only [zvL,List.all_eq_true] at h1
 exact ⟨h1.1,h1.2,rfl⟩
theorem zh9 {o:Oper} {t t2:TypeId} {mx x:Operand} {args:Array Operand} {tys:Array TypeId} {k:Mm->Option β} (ho:o.op = .call { callee:=.builtin .delete,args:=args,argTypes:=tys }) (ha:args.toList = [mx,x]) (ht:tys.toList = [t,t2])
  (hK:∀ m',k m' = some r->Kp (za ro m')) (h:zkm X ro m t (evalX ro m mx) (evalX ro m x) o.dst k = some r):YK P o (za ro m) Kp:=by
 have ea:args = #[mx,x]:=by obtain ⟨l⟩:=args; simpa using ha
 have et':tys = #[t,t2]:=by obtain ⟨l⟩:=tys; simpa using ht
 subst ea; subst et'
 unfold zkm at h
 split at h
 ·rename_i i kt et hm hT hd0
  split at h
  ·rename_i mt kc vc l hB
   split at h
   ·rename_i ag ks d ag' ks' hck hd hkt
    split at h
    ·rename_i kk hk
     obtain ⟨h1,h2⟩:=zS h
     simp only [zvL] at h1
     obtain ⟨⟨⟨h1,h3⟩,h4⟩,hown⟩:=h1
     have h3:=eq_of_beq h3
     have h4:=zdv h4
     subst h3; subst h4
     obtain ⟨o',ho',h2⟩:=bind_some h2
     obtain ⟨g1,g2,rfl⟩:=zp9 ho'
     have hb:(za ro m).box i = some ⟨Y7 (enc kc) (enc vc) l,1000000000 + mt⟩:=by show (zu ro m i).map zB = _; rw [hB]; rfl
     have ek:=zV hk
     have hdel:=zmU (ev:=enc vc) (zbv hd) l kk
     have em:(za ro m).eval mx = .mref i:=by rw [<- zh,hm]; simp [toV]
     have ex:(za ro m).eval x = enc kc kk:=by rw [<- zh,ek]
     intro n' _ _
     refine zkS (B:=⟨Y7 (enc kc) (enc vc) l,1000000000 + mt⟩) ho em hb (Nat.le_add_right 1000000000 mt) hT hkt (X.keyed kt h1) (by rw [ex]; exact QB hck g1) (zar _ fun e he=>QB hck (g2 e he)) hd0 ?_
     have:=hK _ h2
     rw [ZQ hown (zbX hB hown)] at this
     dsimp only
     rw [ex,hdel]
     exact this
    ·cases h
   ·cases h
  ·cases h
 ·cases h
theorem zia {o:Oper} {t:TypeId} {mx:Operand} {i:Nat} {args:Array Operand} {tys:Array TypeId} {k:Mm->Option β} (ho:o.op = .call { callee:=.builtin .len,args:=args,argTypes:=tys }) (ha:args.toList = [mx]) (ht:tys.toList = [t]) (hm:evalX ro m mx = .mref i)
  (hK:∀ m',k m' = some r->Kp (za ro m')) (h:zkn (P:=P) ro m t i o.dst k = some r):YK P o (za ro m) Kp:=by
 have ea:args = #[mx]:=by obtain ⟨l⟩:=args; simpa using ha
 have et':tys = #[t]:=by obtain ⟨l⟩:=tys; simpa using ht
 subst ea; subst et'
 unfold zkn at h
 split at h
 ·rename_i p mt kc vc l hT hB
  obtain ⟨kt,et⟩:=p
  have hb:(za ro m).box i = some ⟨Y7 (enc kc) (enc vc) l,1000000000 + mt⟩:=by show (zu ro m i).map zB = _; rw [hB]; rfl
  have em:(za ro m).eval mx = .mref i:=by rw [<- zh,hm]; simp [toV]
  obtain ⟨m'',e',h'⟩:=zj h
  intro n' hd _
  have hq:=zmG (P:=P) (o:=o) ho em hb (Nat.le_add_right 1000000000 mt) hT
  refine qz hq (tk:=none) (fun _ _ h=>by cases h) hd ?_
  have:=hK _ h'
  rw [<- e'] at this
  simpa [toV,Y7,St.fresh] using this
 ·cases h
theorem zog {mu:Bool} (hro:Yn mu ro) {o:Oper} {k:Mm->Option β} (hK:∀ m',k m' = some r->Kp (za ro m')) (h:zut X ro o m k = some (some r)):YK P o (za ro m) Kp:=by
 unfold zut at h
 split at h
 ·rename_i t ss ix ho
  obtain ⟨_,h⟩:=zS h
  simp only [zvO] at h
  exact zh5 ho hK h
 ·rename_i s x fi ho
  split at h
  ·rename_i d0 hp
   have:=zcH hp
   subst this
   simp only [zvO] at h
   exact zh6 ho hK h
  ·cases h
 ·rename_i t x ho
  split at h
  ·rename_i d0 hp
   have:=zcH hp
   subst this
   simp only [zvO] at h
   exact zkz ho hK h
  ·cases h
 ·rename_i t x y ho
  split at h
  ·rename_i d0 hp
   have:=zcH hp
   subst this
   simp only [zvO] at h
   exact zh7 hro ho hK h
  ·cases h
 ·rename_i fo args tys ho
  split at h
  ·rename_i f first cap hfo
   split at h
   ·rename_i Q hQ
    simp only [zvO] at h
    obtain rfl:=zdD hQ
    exact zod hro ho hfo hK h
   ·split at h
    ·rename_i Q hQ
     simp only [zvO] at h
     obtain rfl:=zdE hQ
     exact zoe hro ho hfo hK h
    split at h
    ·rename_i ss ha _
     split at h
     ·rename_i Q hQ
      simp only [zvO] at h
      obtain ⟨rfl,hg⟩:=QZ hQ
      exact ze4 hro ho ha hfo (by rw [hg]) hK h
     ·cases h
    ·rename_i ss y ha _
     split at h
     ·rename_i g hy
      split at h
      ·rename_i Q hQ
       simp only [zvO] at h
       obtain ⟨rfl,hg⟩:=QZ hQ
       exact ze4 hro ho ha hfo (by rw [hg]; exact ⟨y,rfl,hy⟩) hK h
      ·cases h
     ·cases h
    ·cases h
  ·cases h
 ·rename_i t ss y ho
  obtain ⟨_,h⟩:=zS h
  simp only [zvO] at h
  exact zof hro ho hK h
 ·rename_i args tys ho
  have hh:=(zS h).2
  clear h
  split at hh
  ·rename_i ss x t u ha ht
   have ea:args = #[.tmp ss,x]:=by obtain ⟨l⟩:=args; simpa using ha
   have et:tys = #[t,u]:=by obtain ⟨l⟩:=tys; simpa using ht
   subst ea; subst et
   simp only [zvO] at hh
   exact zh8 hro ho hK hh
  ·cases hh
 ·rename_i s t ss ho
  exact zmw hro ho hK h
 ·rename_i t l c ho
  simp only [zvO] at h
  exact zkA hro ho hK h
 ·rename_i op t x u ho
  exact zkB ho hK h
 ·rename_i args tys ho
  split at h
  ·rename_i mx x t t2 ha ht
   simp only [zvO] at h
   exact zh9 (X:=X) ho ha ht hK h
  ·cases h
 ·rename_i args tys ho
  split at h
  ·rename_i mx t ha ht
   split at h
   ·rename_i i hm
    simp only [zvO] at h
    exact zia ho ha ht hm hK h
   ·cases h
  ·cases h
 ·cases h
theorem zkC {t:TypeId} {dst:Option Nat} {k:Mm->Option β} (hK:∀ m',k m' = some r->Kp (za ro m')) (h:znZ X ro m t dst k = some r):zoq (za ro m) t dst Kp:=by
 unfold znZ at h
 split at h
 ·split at h
  ·obtain ⟨h3,h4⟩:=zch hK h
   refine ⟨h3,?_⟩
   simp only [toV] at h4
   exact h4
  ·cases h
 ·cases h
theorem zi1 {α β:Type} [d:DecidableEq α] {kin:α->Bool} {l:List (α × β)} {k:α} {o:Option β} (h:zs9 kin l k = some o):kin k = true/\(∀ e ∈ l,kin e.1 = true)/\o = zhH l k:=by
 unfold zs9 at h
 obtain ⟨h1,h2⟩:=zS h
 cases h2
 simp only [zvL,List.all_eq_true] at h1
 exact ⟨h1.1,h1.2,rfl⟩
theorem zi2 {α β:Type} [d:DecidableEq α] {kin:α->Bool} {l l':List (α × β)} {k:α} {v:β} (h:zta kin l k v = some l'):kin k = true/\(∀ e ∈ l,kin e.1 = true)/\l' = zpq l k v:=by
 unfold zta at h
 obtain ⟨h1,h2⟩:=zS h
 cases h2
 simp only [zvL,List.all_eq_true] at h1
 exact ⟨h1.1,h1.2,rfl⟩
theorem zib {t:TypeId} {mx x:S} {ok:Bool} {K:S->Option β} {K2:V->Prop} (hK:∀ s,K s = some r->K2 (toV s)) (h:zko X ro m t mx x ok K = some r):zcO P t (za ro m).box (toV mx) (toV x) ok K2:=by
 unfold zko at h
 split at h
 ·rename_i i kt et hT
  split at h
  ·rename_i mt kc vc l hB
   split at h
   ·rename_i ag ks d ag' ks' zv hck hd hkt hz
    split at h
    ·rename_i kk z hk hzv
     obtain ⟨h1,h2⟩:=zS h
     simp only [zvL] at h1
     obtain ⟨⟨h1,h3⟩,h4⟩:=h1
     have h3:=eq_of_beq h3
     have h4:=zdv h4
     subst h3; subst h4
     obtain ⟨o,ho,h2⟩:=bind_some h2
     obtain ⟨g1,g2,rfl⟩:=zi1 ho
     have hb:(za ro m).box i = some ⟨Y7 (enc kc) (enc vc) l,1000000000 + mt⟩:=by show (zu ro m i).map zB = _; rw [hB]; rfl
     have ek:=zV hk
     have ez:=zV hzv
     have hget:=zf2 (ev:=enc vc) (zbv hd) l kk
     simp only [toV,zcO,hT,hb,hkt,YS hz]
     refine ⟨Nat.le_add_right 1000000000 mt,X.keyed kt h1,by rw [ek]; exact QB hck g1,zar _ fun e he=>QB hck (g2 e he),?_⟩
     have:=hK _ h2
     rw [ek,ez,hget]
     cases hq:zhH l kk with
     | none =>
      rw [hq] at this
      cases ok with
      | true=>simpa [toV,zg,y6] using this
      | false=>simpa [toV,zg,y6] using this
     | some y =>
      rw [hq] at this
      cases ok with
      | true=>simpa [toV,zg,y6] using this
      | false=>simpa [toV,zg,y6] using this
    ·cases h
   ·cases h
  ·cases h
 ·cases h
theorem zic {t:TypeId} {mx x y:S} {dst:Option Nat} {k:Mm->Option β} (hK:∀ m',k m' = some r->Kp (za ro m')) (h:zkp X ro m t mx x y dst k = some r):za8 P t (za ro m) (toV mx) (toV x) (toV y) dst Kp:=by
 unfold zkp at h
 split at h
 ·rename_i i kt et hT
  split at h
  ·rename_i mt kc vc l hB
   split at h
   ·rename_i ag ks d ag' ks' hck hd hkt
    split at h
    ·rename_i kk v hk hv
     obtain ⟨h1,h2⟩:=zS h
     simp only [zvL] at h1
     obtain ⟨⟨⟨h1,h3⟩,h4⟩,hown⟩:=h1
     have h3:=eq_of_beq h3
     have h4:=zdv h4
     subst h3; subst h4
     obtain ⟨o,ho,h2⟩:=bind_some h2
     obtain ⟨g1,g2,rfl⟩:=zi2 ho
     have hb:(za ro m).box i = some ⟨Y7 (enc kc) (enc vc) l,1000000000 + mt⟩:=by show (zu ro m i).map zB = _; rw [hB]; rfl
     have ek:=zV hk
     have ev:=zV hv
     have hput:=zf3 (ev:=enc vc) (zbv hd) l kk v
     simp only [toV,za8,hT,hb,hkt]
     refine ⟨Nat.le_add_right 1000000000 mt,X.keyed kt h1,by rw [ek]; exact QB hck g1,zar _ fun e he=>QB hck (g2 e he),trivial,?_⟩
     have:=hK _ h2
     rw [ZQ hown (zbX hB hown)] at this
     rw [ek,ev,hput]
     exact this
    ·cases h
   ·cases h
  ·cases h
 ·cases h
theorem zbY {mu:Bool} (hro:Yn mu ro) {dr:Bool} {o:Oper} {k:Mm->Option β} (hK:∀ m',k m' = some r->Kp (za ro m')) (h:opX X ro dr o m k = some r):zcj P dr o (za ro m) Kp:=by
 unfold opX at h
 split at h
 ·rename_i q hq
  subst h
  cases dr with
  | true=>cases hq
  | false=>exact .inr ⟨rfl,zog (X:=X) hro hK hq⟩
 left
 split at h
 ·rename_i ho; simp only [Zq,ho]; rw [<- zh]; exact zhp hK h
 ·rename_i e ho
  simp only [Zq,ho]
  split at h
  ·rename_i v hv; simp only [YS hv]; exact zhp hK h
  ·cases h
 ·rename_i ho; simp only [Zq,ho]; rw [<- zh,<- zh]; exact zky hK h
 ·rename_i args tys ho
  simp only [Zq,ho]
  split at h
  ·rename_i ss x t u ha ht; simp only [ha,ht]; rw [<- zh]; exact zh3 hro hK h
  ·cases h
 ·rename_i f args tys ho
  simp only [Zq,ho]
  rw [<- zh]
  split at h
  ·rename_i g first cap hf
   simp only [hf,toV,zfv]
   have:=zmt (X:=X) (first:=first) (cap:=cap) hK h
   rw [qf,qf,zbz] at this
   exact this
  ·cases h
 ·rename_i ho; simp only [Zq,ho]; exact zkC (X:=X) hK h
 ·rename_i ho; simp only [Zq,ho]; rw [<- zh,<- zh,<- zh]; exact zic (X:=X) hK h
 ·rename_i t mx x ok ho
  simp only [Zq,ho,qG]
  rw [<- zh,<- zh]
  refine zib (X:=X) (K2:=fun v=>zih dr o none/\Kp (zja o (za ro m) v none)) (fun s hs=>?_) h
  obtain ⟨m',ht,e,hk⟩:=ze3 hro hs
  exact ⟨ht,e ▸ hK m' hk⟩
 ·rename_i n1 n2 n3 n4 n5 n6 n7 n8
  have hv:qG P o (za ro m) (fun v tk=>zih dr o tk/\Kp (zja o (za ro m) v tk)):=zoa (K2p:=fun v tk=>zih dr o tk/\Kp (zja o (za ro m) v tk)) (fun s tk hs=>by
   obtain ⟨m',ht,e,hk⟩:=ze3 hro hs
   exact ⟨ht,e ▸ hK m' hk⟩) h
  unfold Zq
  split
  ·rename_i ho; exact absurd ho (n1 _ _)
  ·rename_i ho; exact absurd ho (n2 _)
  ·rename_i ho; exact absurd ho (n3 _ _ _)
  ·rename_i ho; exact absurd ho (n4 _ _)
  ·rename_i t ho; simp [zr1,ho] at h
  ·rename_i t m' x y ho; simp [zr1,ho] at h
  ·rename_i ho; exact absurd ho (n5 _ _ _)
  ·exact hv
end
end Go.X
namespace Go.X
open Go.Eng
open Go.RowKit
variable {β:Type}
section
variable {P:Program} {X:zeq P} {ro:RO} {r:β} {Kp:St->Prop}
theorem qh {m:Mm} {t:Nat} {b:Bool} (h:(zo ro m t).1 = .bool b):za ro (Z7 ro m (.tmp t) b) = za ro m:=by
 unfold Z7
 simp only
 cases ho:ro.own t with
 | false=>rfl
 | true =>
  simp only [cond_true]
  rw [zmo ho]
  show (⟨_,upd _ t _,_⟩:St) = za ro m
  have:upd (za ro m).sl t (toV (S.bool b),(zo ro m t).2) = (za ro m).sl:=by
   funext s
   unfold upd
   split
   ·rename_i e; subst e; rw [<- h]; rfl
   ·rfl
  rw [this]
theorem zhw {m:Mm} {x:Operand} {b:Bool} (h:evalX ro m x = .bool b):za ro (Z7 ro m x b) = za ro m:=by
 cases x with
 | tmp t=>exact qh h
 | const v=>rfl
 | global g=>rfl
 | func f=>rfl
theorem zoh {m:Mm} {dr:Bool} {o:Oper} {os:List Oper} {q:zuu} {k:Mm->Option β} (hK:∀ m',k m' = some r->Kp (za ro m')) (hq:zn0 dr o os = some q) (h:zuv X ro m q k = some r) :
  dr = true/\∃ o3 o4 o5 o6,os = [o3,o4,o5,o6]/\zqr P o o3 o4 o5 o6 (za ro m) Kp:=by
 unfold zn0 at hq
 split at hq
 case h_2=>cases hq
 rename_i t s r' h2
 split at hq
 case h_2=>cases hq
 rename_i o3 o4 o5 o6
 split at hq
 case h_2=>cases hq
 rename_i t1 s1 r1 h4
 split at hq
 case h_2=>cases hq
 rename_i op xT a2 c yT h3
 split at hq
 case h_2=>cases hq
 rename_i a4 ix h5
 split at hq
 case h_2=>cases hq
 rename_i t2 s2 a5 a3 h6
 split at hq
 case h_2=>cases hq
 rename_i d2 d3 d4 d5 e2 e3 e4 e5 e6
 obtain ⟨hc,hq⟩:=zS hq
 cases hq
 simp only [zvL,Bool.not_eq_true',zbU] at hc
 obtain ⟨⟨⟨⟨⟨c0,⟨⟨⟨⟨u2,u3⟩,u4⟩,u5⟩,u6⟩⟩,⟨⟨⟨⟨⟨⟨⟨⟨⟨b1,b2⟩,b3⟩,b4⟩,b5⟩,b6⟩,b7⟩,b8⟩,b9⟩,b10⟩⟩,⟨⟨⟨⟨⟨k1,k2⟩,k3⟩,k4⟩,k5⟩,k6⟩⟩,⟨⟨⟨l1,l2⟩,l3⟩,l4⟩⟩,⟨⟨⟨n1,n2⟩,n3⟩,n4⟩⟩:=hc
 have gd:∀ {o:Oper},(match o.guard with | none=>true | some _=>false) = true->o.guard = none:=fun {o} h=>by
  cases hg:o.guard with
  | none=>rfl
  | some g=>rw [hg] at h; cases h
 have b1:=zvM b1
 have b2:=zvM b2
 have b3:=zvM b3
 have b4:=zvM b4
 have b5:=zvM b5
 have b6:=zvM b6
 have b7:=zvM b7
 have b8:=zvM b8
 have b9:=zvM b9
 have b10:=zvM b10
 subst b1; subst b2; subst b3; subst b4; subst b5; subst b6; subst b7; subst b8; subst b9; subst b10
 have nb:∀ {a d:Nat},Nat.beq a d = false->Operand.tmp a ≠ .tmp d:=fun {a d} h e=>by cases e; simp at h
 have nd:∀ {a d:Nat},Nat.beq a d = false->a ≠ d:=fun {a d} h e=>by cases e; simp at h
 refine ⟨c0,o3,o4,o5,o6,rfl,?_⟩
 unfold zuv at h
 split at h
 case h_2=>cases h
 rename_i i kt et hm hT
 split at h
 case h_2=>cases h
 rename_i mt kc l hB
 split at h
 case h_2=>cases h
 rename_i ag ks d ag' ks' zv hck hd hkt hz
 split at h
 case h_2=>cases h
 rename_i kk z hk hzv
 obtain ⟨h1,hh⟩:=zS h
 clear h
 simp only [zvL] at h1
 obtain ⟨⟨⟨h1,q3⟩,q4⟩,hown⟩:=h1
 have q3:=eq_of_beq q3
 have q4:=zdv q4
 subst q3; subst q4
 obtain ⟨oo,ho,h⟩:=bind_some hh
 clear hh
 obtain ⟨g1,g2,rfl⟩:=zi1 ho
 obtain ⟨y,hy,h⟩:=bind_some h
 obtain ⟨l',hl',h⟩:=bind_some h
 obtain ⟨_,_,rfl⟩:=zi2 hl'
 obtain ⟨m1,f1,h⟩:=zj h
 obtain ⟨m2,f2,h⟩:=zj h
 obtain ⟨m3,f3,h⟩:=zj h
 obtain ⟨m4,f4,h⟩:=zj h
 have hfin:=hK _ h
 have hb:(za ro m).box i = some ⟨Y7 (enc kc) (enc .i64) l,1000000000 + mt⟩:=by show (zu ro m i).map zB = _; rw [hB]; rfl
 have ek:(za ro m).eval (.tmp r1) = enc kc kk:=by rw [<- zh]; exact zV hk
 have em:(za ro m).eval (.tmp s2) = .mref i:=by rw [<- zh,hm]; simp [toV]
 have ez:toV zv = enc .i64 z:=zV hzv
 have hget:=zf2 (ev:=enc .i64) (zbv hd) l kk
 have hput:ZC (Y7 (enc kc) (enc .i64) l) (enc kc kk) (V.int .i64 y) = Y7 (enc kc) (enc .i64) (zpq l kk y):=zf3 (ev:=enc .i64) (zbv hd) l kk y
 refine ⟨t2,kt,et,xT,yT,op,.tmp s2,.tmp r1,_,_,_,_,ag,ks,i,⟨Y7 (enc kc) (enc .i64) l,1000000000 + mt⟩,.i64,(zhH l kk).getD z,c,y,toV zv,⟨⟨h2,e2,gd u2⟩,⟨h3,e3,gd u3⟩,⟨h4,e4,gd u4⟩,⟨h5,e5,gd u5⟩,⟨h6,e6,gd u6⟩⟩,⟨nd k1,nd k2,nd k3,nd k4,nd k5,nd k6⟩,⟨nb l1,nb l2,nb l3,nb l4⟩,⟨nb n1,nb n2,nb n3,nb n4⟩,
  ⟨?_,em,hb,Nat.le_add_right 1000000000 mt,hT,YS hz,?_,hkt,X.keyed kt h1,by rw [ek]; exact QB hck g1,zar _ fun e he=>QB hck (g2 e he)⟩,?_⟩
 ·cases op
  case add =>
   change qg .i64 ((zhH l kk).getD z) c = some y at hy
   unfold qg at hy
   split at hy
   ·rename_i hin; cases hy; exact congrArg (fun z=>some (V.int .i64 z)) hin
   ·cases hy
  case sub =>
   change zmg .i64 ((zhH l kk).getD z) c = some y at hy
   unfold zmg at hy
   split at hy
   ·rename_i hin; cases hy; exact congrArg (fun z=>some (V.int .i64 z)) hin
   ·cases hy
  all_goals (change (none:Option Int) = some y at hy; cases hy)
 ·dsimp only
  rw [ek,hget,ez]
  cases zhH l kk <;> rfl
 ·dsimp only
  rw [ek,hput]
  rw [<- f4,<- f3,<- f2,<- f1,ZQ hown (zbX hB hown)] at hfin
  simpa [toV,zB] using hfin
theorem zaN {mu:Bool} (hro:Yn mu ro) {dr:Bool} {ds:List (Option Nat)} {k:Mm->Option β} (hK:∀ m',k m' = some r->Kp (za ro m')):∀ (os:List Oper) (m:Mm),zn1 X ro dr ds os m k = some r->Y4 P dr ds os (za ro m) Kp
 | [],m,h=>hK m h
 | o :: os,m,h=>by
  simp only [zn1] at h
  simp only [Y4]
  split at h
  ·rename_i q hq
   exact .inr (zoh hK hq h)
  left
  have hA:∀ m',za ro m' = za ro m->opX X ro dr o m' (fun m'=>zn1 X ro dr ds os m' k) = some r->zcj P dr o (za ro m) fun st'=>Y4 P dr ds os st' Kp:=by
   intro m' e h
   rw [<- e]
   exact zbY hro (fun m'' h'=>zaN hro hK os m'' h') h
  have hB:∀ m',za ro m' = za ro m->qu ro m' o.dst .un none (fun m'=>zn1 X ro dr ds os m' k) = some r->Y4 P dr ds os ((za ro m).put o.dst .un none) Kp:=by
   intro m' e h
   obtain ⟨m'',e',h'⟩:=zj h
   rw [<- e]
   have:toV S.un = .un:=by simp [toV]
   rw [this] at e'
   rw [e']
   exact zaN hro hK os m'' h'
  unfold gdX at h
  unfold zjc
  split at h
  ·rename_i hg
   simp only [hg]
   exact hA m rfl h
  ·rename_i j want hg
   simp only [hg]
   split at h
   ·rename_i d hd
    simp only [hd]
    have he:(za ro m).env d = toV (zo ro m d).1:=rfl
    rw [he]
    split at h
    ·rename_i b hb
     rw [hb]
     simp only [toV]
     refine ⟨fun hw=>?_,fun hw=>?_⟩
     ·rcases brS h with ⟨q,h⟩ | ⟨q,h⟩
      ·subst q
       have:want = true:=by simpa using hw
       subst this
       exact hA _ (qh hb) h
      ·subst q
       have:want = false:=by simpa using hw
       subst this
       exact hA _ (qh hb) h
     ·rcases brS h with ⟨q,h⟩ | ⟨q,h⟩
      ·subst q
       have:want = false:=by simpa using hw
       subst this
       exact hB _ (qh hb) h
      ·subst q
       have:want = true:=by simpa using hw
       subst this
       exact hB _ (qh hb) h
    ·rename_i hb
     rw [hb]
     simp only [toV]
     exact hB m rfl h
    ·cases h
   ·rename_i hne
    split
    ·rename_i d hd; exact absurd hd (hne d)
    ·exact hB m rfl h
theorem ze5 {mu:Bool} (hro:Yn mu ro) {k:Mm->Option β} (hK:∀ m',k m' = some r->Kp (za ro m')):∀ (l:List Oper) (m:Mm),zo7 X ro l m k = some r->zcl P l (za ro m) Kp
 | [],m,h=>by cases h
 | [o],m,h=>by cases h
 | [o2,o3],m,h=>zmx hro hK h
 | o :: o1 :: o2 :: os,m,h=>by
  unfold zo7 at h
  simp only at h
  unfold zcl
  simp only
  split at h
  ·rename_i hg
   exact ⟨hg,zbY hro (fun m' h'=>ze5 hro hK (o1 :: o2 :: os) m' h') h⟩
  ·cases h
theorem ze6 {o:Oper} {m:Mm} {k:Mm->Option β} (hK:∀ m',k m' = some r->Kp (za ro m')) (h:zo6 (P:=P) ro o m k = some r):zdN P o (za ro m) Kp:=by
 unfold zo6 at h
 unfold zdN
 split at h
 ·rename_i x ho
  simp only [ho]
  obtain ⟨m1,f1,h⟩:=zj h
  have:=hK _ h
  rw [<- f1,zh,zn4] at this
  exact this
 ·rename_i xT x y yT ho
  simp only [ho]
  rw [<- zh,<- zh]
  split at h
  ·rename_i k1 a k2 b h1 h2
   rw [h1,h2]
   simp only [toV]
   split at h
   ·rename_i hk
    obtain ⟨n,hn,h⟩:=bind_some h
    unfold qg at hn
    split at hn
    ·rename_i hin
     cases hn
     obtain ⟨m1,f1,h⟩:=zj h
     have:=hK _ h
     rw [<- f1] at this
     exact ⟨hk,hin,by simpa [toV] using this⟩
    ·cases hn
   ·cases h
  ·cases h
 ·rename_i xT x y yT ho
  simp only [ho]
  rw [<- zh,<- zh]
  split at h
  ·rename_i k1 a k2 b h1 h2
   rw [h1,h2]
   simp only [toV]
   split at h
   ·rename_i hk
    obtain ⟨n,hn,h⟩:=bind_some h
    unfold zmg at hn
    split at hn
    ·rename_i hin
     cases hn
     obtain ⟨m1,f1,h⟩:=zj h
     have:=hK _ h
     rw [<- f1] at this
     exact ⟨hk,hin,by simpa [toV] using this⟩
    ·cases hn
   ·cases h
  ·cases h
 ·rename_i t x ix ho
  simp only [ho]
  rw [<- zh,<- zh]
  split at h
  ·rename_i c l k1 i h1 h2
   rw [h1,h2]
   simp only [toV]
   split at h
   ·rename_i en he
    obtain ⟨e,n⟩:=en
    obtain ⟨e1,e2,rfl⟩:=Zg he
    obtain ⟨y,g1,h⟩:=bind_some h
    obtain ⟨q1,q2,q3⟩:=Qm g1
    obtain ⟨m1,f1,h⟩:=zj h
    have:=hK _ h
    rw [<- f1] at this
    simp only [e1,e2]
    refine ⟨yq c l,⟨q1,by simpa using q2⟩,?_⟩
    have hg:(l.map (enc c)).getD i.toNat .any = enc c y:=by simp [List.getD,q3]
    rw [hg]
    simpa only [toV,Yl] using this
   ·cases h
  ·cases h
 ·rename_i t x lo hi ho
  simp only [ho]
  rw [<- zh]
  split at h
  ·rename_i c l h1
   have hs:=zdA (r:=r) (K2p:=fun v tk=>Kp ((za ro m).put o.dst v tk)) (fun s tk hk=>by
    obtain ⟨m1,f1,hk⟩:=zj hk
    have:=hK _ hk
    rwa [<- f1] at this) h
   rw [h1]
   simp only [toV] at hs ⊢
   exact hs
  ·cases h
 ·cases h
theorem zmy {o o':Oper} {m:Mm} {k:Mm->Option β} (hK:∀ m',k m' = some r->Kp (za ro m')) (h:zr6 X ro o o' m k = some r):zf0 P o o' (za ro m) Kp:=by
 unfold zr6 at h
 unfold zf0
 split at h
 ·rename_i t x t' x' h1 h2
  simp only [h1,h2]
  rw [<- zh,<- zh]
  refine zbA (r:=r) (Kp:=fun v=>ZU P t' (za ro m).box (toV (evalX ro m x')) fun u=>Kp (((za ro m).put o.dst v none).put o'.dst u none)) (fun s hs=>?_) h
  refine zbA (r:=r) (Kp:=fun u=>Kp (((za ro m).put o.dst (toV s) none).put o'.dst u none)) (fun s' hs'=>?_) hs
  obtain ⟨m1,f1,h⟩:=zj hs'
  obtain ⟨m2,f2,h⟩:=zj h
  have:=hK _ h
  rwa [<- f2,<- f1] at this
 ·cases h
theorem Qp {mu:Bool} (hro:Yn mu ro) {ops:Array Oper} {k:Mm->Option β} (hK:∀ m',k m' = some r->Kp (za ro m')):∀ (l:List (Nat × Nat)) (m:Mm),zkq X ro ops (ops.toList.map (·.dst)) l m k = some r->Q4 P ops l (za ro m) Kp
 | [],m,h=>hK m h
 | (i,t) :: l,m,h=>by
  simp only [zkq] at h
  simp only [Q4]
  split at h
  ·cases h
  rename_i o ho
  simp only [ho]
  match t,h with
  | 1,h=>exact ze6 (fun m' h'=>Qp hro hK l m' h') h
  | j + 2,h =>
   simp only at h ⊢
   split at h
   ·rename_i o' ho'
    simp only [ho']
    exact zmy (fun m' h'=>Qp hro hK l m' h') h
   ·cases h
  | 0,h =>
   simp only at h ⊢
   have hA:∀ m',za ro m' = za ro m->opX X ro false o m' (fun m'=>zkq X ro ops (ops.toList.map (·.dst)) l m' k) = some r->zcj P false o (za ro m) fun st'=>Q4 P ops l st' Kp:=by
    intro m' e h
    rw [<- e]
    exact zbY hro (fun m'' h'=>Qp hro hK l m'' h') h
   have hB:∀ m',za ro m' = za ro m->qu ro m' o.dst .un none (fun m'=>zkq X ro ops (ops.toList.map (·.dst)) l m' k) = some r->Q4 P ops l ((za ro m).put o.dst .un none) Kp:=by
    intro m' e h
    obtain ⟨m'',e',h'⟩:=zj h
    rw [<- e]
    have:toV S.un = .un:=by simp [toV]
    rw [this] at e'
    rw [e']
    exact Qp hro hK l m'' h'
   unfold gdX at h
   unfold zjc
   split at h
   ·rename_i hg
    simp only [hg]
    exact hA m rfl h
   ·rename_i j want hg
    simp only [hg]
    split at h
    ·rename_i d hd
     simp only [hd]
     have he:(za ro m).env d = toV (zo ro m d).1:=rfl
     rw [he]
     split at h
     ·rename_i b hb
      rw [hb]
      simp only [toV]
      refine ⟨fun hw=>?_,fun hw=>?_⟩
      ·rcases brS h with ⟨q,h⟩ | ⟨q,h⟩
       ·subst q
        have:want = true:=by simpa using hw
        subst this
        exact hA _ (qh hb) h
       ·subst q
        have:want = false:=by simpa using hw
        subst this
        exact hA _ (qh hb) h
      ·rcases brS h with ⟨q,h⟩ | ⟨q,h⟩
       ·subst q
        have:want = false:=by simpa using hw
        subst this
        exact hB _ (qh hb) h
       ·subst q
        have:want = true:=by simpa using hw
        subst this
        exact hB _ (qh hb) h
     ·rename_i hb
      rw [hb]
      simp only [toV]
      exact hB m rfl h
     ·cases h
    ·rename_i hne
     split
     ·rename_i d hd; exact absurd hd (hne d)
     ·exact hB m rfl h
theorem zi3 {γ:Type} {f:Nat->Option γ} {r:γ}:∀ {l:List Nat},ztg f l = some r->∀ j ∈ l,f j = some r
 | [],h,j,hj=>by simp at hj
 | [i],h,j,hj=>by
  simp only [List.mem_singleton] at hj
  subst hj
  exact h
 | i :: i' :: l,h,j,hj=>by
  unfold ztg at h
  obtain ⟨h1,h2⟩:=zex h
  rcases List.mem_cons.1 hj with rfl | hj
  ·exact h1
  ·exact zi3 h2 j hj
theorem QH {mu:Bool} (hro:Yn mu ro) {ops:Array Oper} {k:Mm->Option β} (hK:∀ m',k m' = some r->Kp (za ro m')):∀ (fuel:Nat) (listed:Array Bool) (m:Mm),zdx X ro ops (ops.toList.map (·.dst)) fuel listed m k = some r->Y6 P ops fuel listed (za ro m) Kp
 | 0,listed,m,h=>by
  unfold zdx at h
  unfold Y6
  split at h
  ·rename_i hr; exact ⟨hr,hK _ h⟩
  ·cases h
 | fuel + 1,listed,m,h=>by
  unfold zdx at h
  unfold Y6
  split at h
  ·rename_i hr; rw [hr]; exact hK _ h
  ·rename_i i is hr
   rw [hr]
   dsimp only at h ⊢
   split at h
   ·rename_i j hj
    rw [hj]
    dsimp only
    split at h
    ·rename_i o ho
     rw [ho]
     exact ze6 (fun m' h'=>QH hro hK fuel _ m' h') h
    ·cases h
   ·rename_i hj
    rw [hj]
    dsimp only
    intro j hjm
    have h:=zi3 h j hjm
    split at h
    case h_2=>cases h
    rename_i o ho
    rw [ho]
    dsimp only
    have hA:∀ m',za ro m' = za ro m->opX X ro false o m' (fun m'=>zdx X ro ops (ops.toList.map (·.dst)) fuel (listed.setIfInBounds j true) m' k) = some r->zcj P false o (za ro m) fun st'=>Y6 P ops fuel (listed.setIfInBounds j true) st' Kp:=by
     intro m' e h
     rw [<- e]
     exact zbY hro (fun m'' h'=>QH hro hK fuel _ m'' h') h
    have hB:∀ m',za ro m' = za ro m->qu ro m' o.dst .un none (fun m'=>zdx X ro ops (ops.toList.map (·.dst)) fuel (listed.setIfInBounds j true) m' k) = some r->Y6 P ops fuel (listed.setIfInBounds j true) ((za ro m).put o.dst .un none) Kp:=by
     intro m' e h
     obtain ⟨m'',e',h'⟩:=zj h
     rw [<- e]
     have:toV S.un = .un:=by simp [toV]
     rw [this] at e'
     rw [e']
     exact QH hro hK fuel _ m'' h'
    unfold gdX at h
    unfold zjc
    split at h
    ·rename_i hg
     simp only [hg]
     exact hA m rfl h
    ·rename_i j want hg
     simp only [hg]
     split at h
     ·rename_i d hd
      simp only [hd]
      have he:(za ro m).env d = toV (zo ro m d).1:=rfl
      rw [he]
      split at h
      ·rename_i b hb
       rw [hb]
       simp only [toV]
       refine ⟨fun hw=>?_,fun hw=>?_⟩
       ·rcases brS h with ⟨q,h⟩ | ⟨q,h⟩
        ·subst q
         have:want = true:=by simpa using hw
         subst this
         exact hA _ (qh hb) h
        ·subst q
         have:want = false:=by simpa using hw
         subst this
         exact hA _ (qh hb) h
       ·rcases brS h with ⟨q,h⟩ | ⟨q,h⟩
        ·subst q
         have:want = false:=by simpa using hw
         subst this
         exact hB _ (qh hb) h
        ·subst q
         have:want = true:=by simpa using hw
         subst this
         exact hB _ (qh hb) h
      ·rename_i hb
       rw [hb]
       simp only [toV]
       exact hB m rfl h
      ·cases h
     ·rename_i hne
      split
      ·rename_i d hd; exact absurd hd (hne d)
      ·exact hB m rfl h
end
end Go.X
namespace Go.X
open Go.Eng
open Go.RowKit
theorem zcI {σ ρ:Type} {F:σ->Option (zcF σ ρ)} {r:ρ}:∀ {n m:Nat} {s:σ},n <= m->za1 F n s = some r->za1 F m s = some r
 | 0,_,s,_,h=>by cases h
 | n + 1,0,s,hm,h=>by omega
 | n + 1,m + 1,s,hm,h=>by
  unfold za1 at h ⊢
  split at h
  ·exact zcI (by omega) h
  ·exact h
  ·cases h
theorem zan {σ ρ:Type} {F:σ->Option (zcF σ ρ)} {s:σ} {r:ρ}:Qq F s = some r ↔ ∃ n,za1 F n s = some r:=by
 unfold Qq
 constructor
 ·intro h
  split at h
  ·rename_i hex
   cases h
   exact hex.choose_spec
  ·cases h
 ·rintro ⟨n,hn⟩
  have hex:∃ r n,za1 F n s = some r:=⟨r,n,hn⟩
  rw [dif_pos hex]
  obtain ⟨n',hn'⟩:=hex.choose_spec
  have h1:=zcI (Nat.le_max_left n n') hn
  have h2:=zcI (Nat.le_max_right n n') hn'
  rw [h1] at h2
  exact h2.symm
theorem zfK {σ ρ:Type} (F:σ->Option (zcF σ ρ)) (s:σ):Qq F s = match F s with | some (.next s')=>Qq F s' | some (.done r)=>some r | none=>none:=by
 apply Option.ext
 intro r
 rw [zan]
 constructor
 ·rintro ⟨n,h⟩
  cases n with
  | zero=>cases h
  | succ n =>
   unfold za1 at h
   split at h
   ·rename_i s' e; rw [e]; exact zan.2 ⟨n,h⟩
   ·rename_i r' e; rw [e]; exact h
   ·cases h
 ·intro h
  split at h
  ·rename_i s' e
   obtain ⟨n,hn⟩:=zan.1 h
   exact ⟨n + 1,by unfold za1; rw [e]; exact hn⟩
  ·rename_i r' e
   exact ⟨1,by unfold za1; rw [e]; exact h⟩
  ·cases h
theorem zhx:∀ (l:List Nat) (a i:Nat),(l.foldl (fun a s=>a ||| (1 <<< s)) a).testBit i = (a.testBit i || decide (i ∈ l))
 | [],a,i=>by simp
 | s :: l,a,i=>by
  rw [List.foldl_cons,zhx l]
  rw [Nat.testBit_or,Nat.one_shiftLeft,Nat.testBit_two_pow]
  by_cases h:s = i
  ·subst h; simp
  ·have:¬ i = s:=fun e=>h e.symm
   simp [h,this]
theorem QJ (l:List Nat) (i:Nat):(zkr l).testBit i = decide (i ∈ l):=by
 unfold zkr; rw [zhx]; simp
theorem zqa {a b:Tk} (h:zuw a b = true):a = none ∨ a = b:=by
 cases a with
 | none=>exact .inl rfl
 | some p =>
  cases b with
  | none=>cases h
  | some q =>
   obtain ⟨t,e⟩:=p; obtain ⟨t',e'⟩:=q
   simp only [zuw,zvL] at h
   have h1:=zvM h.1
   have h2:=zvM h.2
   subst h1; subst h2; exact .inr rfl
theorem zmz {ro:RO} {sl:T (S × Tk)} {bx:List (Option yM)} {s0:Nat} {x:S × Tk} (s:Nat):zo ro ⟨sl.set s0 x,bx⟩ s = if s = s0/\ro.own s = true then x else zo ro ⟨sl,bx⟩ s:=by
 unfold zo
 cases ho:ro.own s with
 | false=>simp
 | true =>
  simp only [cond_true,and_true]
  rw [T.get_set]
  split <;> rfl
theorem QK {ro:RO} {sl:T (S × Tk)} {bx:List (Option yM)} {i j:Nat} {B:yM} (hi:i < bx.length):zu ro ⟨sl,bx.set i (some B)⟩ j = if j = i/\ro.ownB j = true then some B else zu ro ⟨sl,bx⟩ j:=by
 unfold zu
 cases ho:ro.ownB j with
 | false=>simp
 | true =>
  simp only [cond_true,and_true]
  by_cases h:j = i
  ·subst h; simp [hi]
  ·rw [if_neg h,List.getElem?_set_ne (Ne.symm h)]
variable {β:Type}
section
variable {old:Nat->Option yM} {roS roT:RO} {mS:Mm} {n:Nat}
theorem zdG {v:LV} {x:v.ty} {m1:Mm} (hr:zes old roS mS v = some x) (hlen:m1.bx.length = n) (hbs:∀ i,yp [v] i = true->i < n) :
  (qL old m1 v x).bx.length = n/\(∀ s,Wk (pv (zo roT m1 s)) (pv (zo roS mS s))->Wk (pv (zo roT (qL old m1 v x) s)) (pv (zo roS mS s))) /\
  (∀ i,((zu roT m1 i).map zB = (zu roS mS i).map zB ∨ (yp [v] i = true/\roT.ownB i = true))->(zu roT (qL old m1 v x) i).map zB = (zu roS mS i).map zB) /\
  (∀ k,(∀ s,ltV k (toV (zo roT m1 s).1) = true)->∀ s,ltV k (toV (zo roT (qL old m1 v x) s).1) = true) /\
  (∀ k,(∀ i B,zu roT m1 i = some B->qY k (zB B).cells = true)->∀ i B,zu roT (qL old m1 v x) i = some B->qY k (zB B).cells = true):=by
 cases v with
 | slot s0 c tk =>
  simp only [zes] at hr
  obtain ⟨h1,h2⟩:=zS hr
  have e:=zV h2
  refine ⟨hlen,fun s hs=>?_,fun i hi=>?_,fun k hk s=>?_,fun k hk i B hB=>hk i B hB⟩
  ·simp only [qL]
   rw [zmz]
   split
   ·rename_i hc
    obtain ⟨rfl,_⟩:=hc
    unfold pv
    simp only
    rw [y6,<- e]
    rcases zqa h1 with q | q
    ·subst q; exact .inr (.inl rfl)
    ·subst q; exact .inl rfl
   ·exact hs
  ·rcases hi with hi | hi
   ·exact hi
   ·simp [yp] at hi
  ·simp only [qL]
   rw [zmz]
   split
   ·exact zhl _ _ (by rw [y6]; exact Y0 c x)
   ·exact hk s
 | box i0 c =>
  have hi0:i0 < n:=hbs i0 (by simp [yp])
  simp only [zes] at hr
  split at hr
  ·rename_i cs ty hB
   obtain ⟨h1,h2⟩:=zS hr
   have ht:=zvM h1
   have hcells:zg (qp (refl c x)) = zg cs:=by
    rw [Yl]
    split at h2
    ·rename_i y hy
     cases h2
     have:=zV hy
     simp only [toV] at this
     rw [<- this]; rfl
    ·split at h2
     ·cases h2
     ·rename_i z hz _
      have:=zV h2
      rw [<- this]
      have hne:∀ ds,z ≠ .agg ds:=fun ds e=>hz ds (by rw [e])
      have hcl:(toV z).cellsL = [toV z]:=by
       cases z with
       | agg ds=>exact absurd rfl (hne ds)
       | gel g o=>simp only [toV]; split <;> rfl
       | ivd x=>simp only [toV]; exact zbV x
       | _=>rfl
      rw [hcl]; simp [zg]
     ·cases h2
   refine ⟨by simp [qL,hlen],fun s hs=>hs,fun i hi=>?_,fun k hk s=>hk s,fun k hk i B hB=>?_⟩
   ·simp only [qL]
    rw [QK (by omega)]
    split
    ·rename_i hc
     obtain ⟨rfl,_⟩:=hc
     rw [hB]
     simp only [Option.map_some,zB,hcells,ht]
    ·rename_i hne
     rcases hi with hi | ⟨hi,ho⟩
     ·exact hi
     ·simp [yp] at hi
      exact absurd ⟨hi.symm,ho⟩ hne
   ·simp only [qL] at hB
    rw [QK (by omega)] at hB
    split at hB
    ·cases hB
     simp only [zB]
     refine Zn _ _ ?_
     rw [Yl]
     have:=Y0 c x
     cases he:enc c x <;> rw [he] at this <;> simp_all [V.noLoc,V.cellsL,V.noLocL]
    ·exact hk i B hB
  ·cases hr
 | mapb i0 kc vc =>
  have hi0:i0 < n:=hbs i0 (by simp [yp])
  simp only [zes] at hr
  split at hr
  ·rename_i mt kc' vc' l hB
   obtain ⟨h1,h2⟩:=zS hr
   have ht:=zvM h1
   split at h2
   ·rename_i hc
    obtain ⟨rfl,rfl⟩:=hc
    cases h2
    refine ⟨by simp [qL,hlen],fun s hs=>hs,fun i hi=>?_,fun k hk s=>hk s,fun k hk i B hB=>?_⟩
    ·simp only [qL]
     rw [QK (by omega)]
     split
     ·rename_i hc
      obtain ⟨rfl,_⟩:=hc
      rw [hB]
      simp only [Option.map_some,zB,ht]
     ·rename_i hne
      rcases hi with hi | ⟨hi,ho⟩
      ·exact hi
      ·simp [yp] at hi
       exact absurd ⟨hi.symm,ho⟩ hne
    ·simp only [qL] at hB
     rw [QK (by omega)] at hB
     split at hB
     ·cases hB
      exact Zn _ _ (zhi l)
     ·exact hk i B hB
   ·cases h2
  ·cases hr
theorem zbF (v w:LV) (L:List LV) (i:Nat):yp (v :: w :: L) i = (yp [v] i || yp (w :: L) i):=by
 cases v <;> simp [yp]
theorem zhy:∀ {L:List LV} {x:zfr L} {m1:Mm},QE old roS mS L = some x->m1.bx.length = n->(∀ i,yp L i = true->i < n) ->
  (qF old m1 L x).bx.length = n/\((∀ s,Wk (pv (zo roT m1 s)) (pv (zo roS mS s)))->∀ s,Wk (pv (zo roT (qF old m1 L x) s)) (pv (zo roS mS s))) /\
  (∀ i,((zu roT m1 i).map zB = (zu roS mS i).map zB ∨ (yp L i = true/\roT.ownB i = true))->(zu roT (qF old m1 L x) i).map zB = (zu roS mS i).map zB) /\
  (∀ k,(∀ s,ltV k (toV (zo roT m1 s).1) = true)->∀ s,ltV k (toV (zo roT (qF old m1 L x) s).1) = true) /\
  (∀ k,(∀ i B,zu roT m1 i = some B->qY k (zB B).cells = true)->∀ i B,zu roT (qF old m1 L x) i = some B->qY k (zB B).cells = true)
 | [],x,m1,_,hlen,_=>⟨hlen,fun h=>h,fun i hi=>by
   rcases hi with hi | hi
   ·exact hi
   ·simp [yp] at hi,fun k h=>h,fun k h=>h⟩
 | [v],x,m1,hr,hlen,hb=>by
  obtain ⟨h1,h2,h3,h4,h5⟩:=zdG (roT:=roT) hr hlen hb
  exact ⟨h1,fun h s=>h2 s (h s),h3,h4,h5⟩
 | v :: w :: L,x,m1,hr,hlen,hb=>by
  simp only [QE] at hr
  split at hr
  ·rename_i y z hy hz
   cases hr
   obtain ⟨h1,h2,h3,h4,h5⟩:=zdG (roT:=roT) (m1:=m1) hy hlen (fun i hi=>hb i (by rw [zbF,hi]; rfl))
   obtain ⟨g1,g2,g3,g4,g5⟩:=zhy (L:=w :: L) hz h1 (fun i hi=>hb i (by rw [zbF,hi]; simp))
   refine ⟨g1,fun h=>g2 fun s=>h2 s (h s),fun i hi=>g3 i ?_,fun k h=>g4 k (h4 k h),fun k h=>g5 k (h5 k h)⟩
   rcases hi with hi | ⟨hi,ho⟩
   ·exact .inl (h3 i (.inl hi))
   ·rw [zbF,Bool.or_eq_true] at hi
    rcases hi with hi | hi
    ·exact .inl (h3 i (.inr ⟨hi,ho⟩))
    ·exact .inr ⟨hi,ho⟩
  ·cases hr
end
theorem zl.carry {P:Program} {F:Fr} {a:Act} {w:World} {pr:Nat->Nat->Prop} {lam:Nat->Option Nat} {old:Nat->Option yM} {roS roT:RO} {mS m1:Mm} {n:Nat} {L:List LV} {x:zfr L}
  (h:zl P F (za roS mS) a w pr lam) (hr:QE old roS mS L = some x) (hlen:m1.bx.length = n) (hnT:roT.nb <= n) (hL:∀ i,yp L i = true->i < n)
  (H1:∀ s,Wk (pv (zo roT m1 s)) (pv (zo roS mS s)))
  (H2:∀ i,i < n->(zu roT m1 i).map zB = (zu roS mS i).map zB ∨ (yp L i = true/\roT.ownB i = true))
  (E1:∀ s,ltV n (toV (zo roT m1 s).1) = true) (E2:∀ i B,zu roT m1 i = some B->qY n (zB B).cells = true) (E3:∀ i b,F.lam0 i = some b->i < n) :
  ∃ lam',zl P F (za roT (qF old m1 L x)) a w pr lam':=by
 obtain ⟨g1,g2,g3,g4,g5⟩:=zhy (roT:=roT) (m1:=m1) hr hlen hL
 have hw:=zl.weak h (nb':=n) (sl':=(za roT (qF old m1 L x)).sl) (fun s=>g2 H1 s)
 have hd:=zl.drop hw (n:=n) (nb':=n) (fun s=>g4 n E1 s) (fun i B hi hB=>?_) E3
 ·refine ⟨_,(congrArg (fun st=>zl P F st a w pr _) ?_).mp hd⟩
  show (⟨n,_,_⟩:St) = za roT (qF old m1 L x)
  unfold za
  rw [g1]
  congr 1
  funext i
  by_cases hi:i < n
  ·rw [if_pos hi]
   exact (g3 i (H2 i hi)).symm
  ·rw [if_neg hi]
   have:zu roT (qF old m1 L x) i = none:=by
    unfold zu RO.ownB
    have hb:Nat.ble roT.nb i = true:=Nat.ble_eq_true_of_le (by omega)
    rw [hb]
    simp only [cond_true]
    rw [List.getElem?_eq_none (by omega)]; rfl
   rw [this]; rfl
 ·have hB':(zu roS mS i).map zB = some B:=hB
  rw [<- g3 i (H2 i hi)] at hB'
  cases hq:zu roT (qF old m1 L x) i with
  | none=>rw [hq] at hB'; cases hB'
  | some B' =>
   rw [hq] at hB'
   cases hB'
   exact g5 n E2 i B' hq
theorem zl.below {P:Program} {F:Fr} {a:Act} {w:World} {pr:Nat->Nat->Prop} {lam:Nat->Option Nat} {ro:RO} {m:Mm} (h:zl P F (za ro m) a w pr lam) (hn:Nat.ble ro.nb m.bx.length = true) :
  (∀ s,ltV m.bx.length (toV (zo ro m s).1) = true)/\(∀ i B,zu ro m i = some B->qY m.bx.length (zB B).cells = true)/\(∀ i b,F.lam0 i = some b->i < m.bx.length):=by
 have hl:∀ i,m.bx.length <= i->lam i = none:=by
  intro i hi
  refine h.nolam i ?_
  show (zu ro m i).map zB = none
  unfold zu RO.ownB
  have hb:Nat.ble ro.nb i = true:=Nat.ble_eq_true_of_le (Nat.le_trans (zvN hn) hi)
  rw [hb]
  simp only [cond_true]
  rw [List.getElem?_eq_none hi]; rfl
 refine ⟨fun s=>zob hl _ _ (h.env s),fun i B hB=>?_,fun i b hi=>?_⟩
 ·have hB':(za ro m).box i = some (zB B):=by show (zu ro m i).map zB = _; rw [hB]; rfl
  obtain ⟨b,q1,q2,_⟩:=h.box i _ hB'
  exact zse hl q2
 ·rcases Nat.lt_or_ge i m.bx.length with q | q
  ·exact q
  ·have:=h.lamsub i b hi
   rw [hl i q] at this; cases this
end Go.X
namespace Go.X
open Go.Eng
open Go.RowKit
variable {β:Type}
section
variable {P:Program} {n':Nat}
theorem zpd {x y:Code} {st:St} {Q:Exit->St->Prop} (h:AWp P n' x st (ztl (fun st'=>AWp P n' y st' Q) Q)):AWp P n' (.seq x y) st Q:=by
 intro F a w pr lam hF hs
 refine wp_seq (wp_mono (h F a w pr lam hF hs) ?_)
 rintro e a' w' ⟨st',pr',lam',q,r⟩
 cases e with
 | normal=>exact q F a' w' pr' lam' hF r
 | exit id=>exact ⟨st',pr',lam',q,r⟩
 | goto l=>exact ⟨st',pr',lam',q,r⟩
 | ret=>exact ⟨st',pr',lam',q,r⟩
 | panic c=>exact ⟨st',pr',lam',q,r⟩
 | outgrown=>exact ⟨st',pr',lam',q,r⟩
theorem zqb {id:Nat} {x:Code} {st:St} {Q:Exit->St->Prop} (h:AWp P n' x st (zfX id Q)):AWp P n' (.block id x) st Q:=by
 intro F a w pr lam hF hs
 refine wp_block (wp_mono (h F a w pr lam hF hs) ?_)
 rintro e a' w' ⟨st',pr',lam',q,r⟩
 cases e with
 | exit id' =>
  simp only [zfX] at q
  simp only [Exit.inBlock]
  split at q
  ·rename_i hid; rw [if_pos hid]; exact ⟨st',pr',lam',q,r⟩
  ·rename_i hid; rw [if_neg hid]; exact ⟨st',pr',lam',q,r⟩
 | normal=>exact ⟨st',pr',lam',q,r⟩
 | goto l=>exact ⟨st',pr',lam',q,r⟩
 | ret=>exact ⟨st',pr',lam',q,r⟩
 | panic c=>exact ⟨st',pr',lam',q,r⟩
 | outgrown=>exact ⟨st',pr',lam',q,r⟩
theorem zsj {c:Operand} {x y:Code} {st:St} {Q:Exit->St->Prop} {b:Bool} (hc:st.eval c = .bool b) (h1:b = true->AWp P n' x st Q) (h2:b = false->AWp P n' y st Q):AWp P n' (.cond c x y) st Q:=by
 intro F a w pr lam hF hs
 have hr:=hs.eval c
 rw [hc] at hr
 simp only [R] at hr
 exact wp_cond_split hr (fun ht=>h1 ht F a w pr lam hF hs) (fun hf=>h2 hf F a w pr lam hF hs)
end
theorem Q0 {old:Nat->Option yM} {roI:RO} {mI m1:Mm} {e:EX} {k:Exit->Mm->Option β} {r:β}:∀ {es:List (EX × List LV)} {w:zpU es},QF old roI mI e es = some w->Qk old m1 k es w = some r ->
  ∃ L,∃ x:zfr L,(∃ e',(e',L) ∈ es)/\QE old roI mI L = some x/\k e.to (qF old m1 L x) = some r
 | [],w,h,_=>by cases h
 | [(e0,L)],w,h,hk=>by
  simp only [QF] at h
  obtain ⟨h1,h2⟩:=zS h
  have he:e0 = e:=by
   cases e0 <;> cases e <;> simp only [EX.beq,Bool.false_eq_true] at h1
   ·rw [zvM h1]
   ·rfl
   ·rfl
  subst he
  exact ⟨L,w,⟨e0,by simp⟩,h2,hk⟩
 | (e0,L) :: f :: es,w,h,hk=>by
  simp only [QF] at h
  cases hb:e0.beq e with
  | true =>
   rw [hb] at h
   simp only [cond_true] at h
   have he:e0 = e:=by
    cases e0 <;> cases e <;> simp only [EX.beq,Bool.false_eq_true] at hb
    ·rw [zvM hb]
    ·rfl
    ·rfl
   subst he
   split at h
   ·rename_i x hx
    cases h
    simp only [Qk,Sum.elim_inl] at hk
    exact ⟨L,x,⟨e0,by simp⟩,hx,hk⟩
   ·cases h
  | false =>
   rw [hb] at h
   simp only [cond_false] at h
   split at h
   ·rename_i x hx
    cases h
    simp only [Qk,Sum.elim_inr] at hk
    obtain ⟨L',y,⟨e',q1⟩,q2,q3⟩:=Q0 (es:=f :: es) hx hk
    exact ⟨L',y,⟨e',List.mem_cons_of_mem _ q1⟩,q2,q3⟩
   ·cases h
theorem EX.of_to {ex:Exit} {e:EX} (h:EX.of ex = some e):e.to = ex:=by
 cases ex <;> simp only [EX.of,zvO,reduceCtorEq] at h <;> subst h <;> rfl
theorem EX.ofJ_to {ex:Exit} {e:EX} (h:EX.ofJ ex = some e):e.to = ex:=by
 cases ex <;> simp only [EX.ofJ,zvO,reduceCtorEq] at h <;> subst h <;> rfl
theorem zbG:∀ (l:List Nat) (sl:T (S × Tk)) (s:Nat),(zhf sl l).get s = if s ∈ l then some (.any,none) else sl.get s
 | [],sl,s=>by simp [zhf]
 | x :: l,sl,s=>by
  simp only [zhf]
  rw [zbG l,T.get_set]
  by_cases h1:s ∈ l
  ·simp [h1]
  ·by_cases h2:s = x
   ·subst h2; simp
   ·simp [h1,h2]
def okX (n':Nat):Code->Ann->Bool
 | .region id ops draw,a=>bif draw && a.isFull then ops.toList.all (Zr n') && Region.noSelect ops else bif draw && a.isSch then ops.toList.all (Zr n') && Region.noSelect ops else bif a.isSch then ops.toList.all (Zr n') else QL n' [] (.region id ops draw)
 | .seq x y,a=>okX n' x a.l.inn && okX n' y a.r.un
 | .cond _ x y,a=>okX n' x a.l && okX n' y a.r
 | .block _ b,a=>okX n' b a
 | .loop b,.loop _ _ _ _ a=>okX n' b a
 | _,_=>true
theorem qM:∀ {L:List LV} {i:Nat},yp L i = true->i ∈ Zz L
 | [],i,h=>by simp [yp] at h
 | .slot _ _ _ :: L,i,h=>qM (L:=L) h
 | .box j _ :: L,i,h=>by
  simp only [yp,Bool.or_eq_true] at h
  rcases h with h | h
  ·rw [zvM h]; simp [Zz]
  ·simp [Zz,qM h]
 | .mapb j _ _ :: L,i,h=>by
  simp only [yp,Bool.or_eq_true] at h
  rcases h with h | h
  ·rw [zvM h]; simp [Zz]
  ·simp [Zz,qM h]
section
variable {P:Program} {X:zeq P}
theorem zoi {ro:RO} {m:Mm} {mu:Bool} (hro:Yn mu ro) (ops:Array Oper):ztm ops (za ro ⟨m.sl.mapV (zhZ ((ops.toList.filter Y2).map (·.dst))),m.bx⟩):=by
 intro s t e ht h2 o ho hno hd
 have ht':(zo ro ⟨m.sl.mapV (zhZ ((ops.toList.filter Y2).map (·.dst))),m.bx⟩ s).2 = some (t,e):=ht
 unfold zo at ht'
 cases hw:ro.own s with
 | false =>
  rw [hw] at ht'
  simp only [cond_false] at ht'
  rw [hro.tok s t e ht'] at h2
  omega
 | true =>
  rw [hw] at ht'
  simp only [cond_true,T.get_mapV] at ht'
  cases hg:m.sl.get s with
  | none=>rw [hg] at ht'; cases ht'
  | some x =>
   rw [hg] at ht'
   simp only [Option.map_some,Option.getD_some] at ht'
   unfold zhZ at ht'
   cases hx:x.2 with
   | none=>rw [hx] at ht'; simp only at ht'; rw [hx] at ht'; cases ht'
   | some te =>
    obtain ⟨t',e'⟩:=te
    rw [hx] at ht'
    simp only at ht'
    cases hb:(Nat.blt (tcl t') 2 && inD ((ops.toList.filter Y2).map (·.dst)) t') with
    | true=>rw [hb] at ht'; cases ht'
    | false =>
     rw [hb] at ht'
     simp only [cond_false] at ht'
     rw [hx] at ht'
     cases ht'
     rw [Bool.and_eq_false_iff] at hb
     rcases hb with hb | hb
     ·have:Nat.blt (tcl t) 2 = true:=Nat.ble_eq_true_of_le h2
      rw [this] at hb; cases hb
     ·have:inD ((ops.toList.filter Y2).map (·.dst)) t = true:=by
       unfold inD
       rw [List.any_eq_true]
       exact ⟨some (t % 1000000),List.mem_map.2 ⟨o,List.mem_filter.2 ⟨ho,hno⟩,hd⟩,Nat.beq_refl _⟩
      rw [this] at hb; cases hb
theorem zti (ds:List (Option Nat)) (x:S × Tk):Wk (pv (zhZ ds x)) (pv x):=by
 unfold zhZ
 split
 ·generalize (Nat.blt _ 2 && _:Bool) = b
  cases b with
  | true=>exact .inr (.inl rfl)
  | false=>exact .inl rfl
 ·exact .inl rfl
theorem zqc {ro:RO} {m:Mm} (ds:List (Option Nat)) (s:Nat):Wk ((za ro ⟨m.sl.mapV (zhZ ds),m.bx⟩).sl s) ((za ro m).sl s):=by
 show Wk (pv (zo ro ⟨m.sl.mapV (zhZ ds),m.bx⟩ s)) (pv (zo ro m s))
 unfold zo
 cases hw:ro.own s with
 | false=>exact .inl rfl
 | true =>
  simp only [cond_true,T.get_mapV]
  cases hg:m.sl.get s with
  | none=>exact .inl rfl
  | some x=>exact zti ds x
def zsk (s2 s3:St):Prop:=(∀ s,s3.env s = s2.env s/\s3.tok s = none)/\s3.box = s2.box
theorem AWp.reframe {n':Nat} {c:Code} {st st':St} {Q:Exit->St->Prop} (h1:∀ s,st'.env s = st.env s/\(st'.tok s = none ∨ ∃ e,st'.tok s = some (2000000,e))) (hb:st'.box = st.box)
  (h:AWp P n' c st' fun ex s2=>∃ s3,zsk s2 s3/\Q ex s3):AWp P n' c st Q:=by
 intro F a w pr lam hF hs
 have hl:=hs.hl
 have hcl:∀ s t e,st'.tok s = some (t,e)->t = 2000000:=fun s t e q=>by
  rcases (h1 s).2 with q2 | ⟨e2,q2⟩
  ·rw [q] at q2; cases q2
  ·rw [q] at q2; cases q2; rfl
 have hgb:∀ s t e,st'.tok s = some (t,e)->zw (tcl t) (a.tmps.getD s undef) = none:=fun s t e q=>by
  rw [hcl s t e q,show tcl 2000000 = 2 from rfl]
  unfold zw
  split
  ·rw [if_neg (by omega)]
  ·rfl
 have hgl:∀ g vs,GL g = some vs->(∃ ty,w.heap[g]? = some (.cells vs.toArray ty (0,0)))/\(¬ (F.io g ∨ F.N <= g)/\(none:Option Nat) ≠ some g)/\∀ i,i < vs.length->pr g i:=fun g vs hg=>by
   obtain ⟨⟨ty,q1⟩,q2,q3⟩:=F.gl g vs hg
   obtain ⟨q4,q5⟩:=hl.glob g vs hg
   refine ⟨q4,⟨?_,by simp⟩,q5⟩
   rintro (q | q)
   ·exact q2.1 q
   ·exact Nat.lt_irrefl _ (Nat.lt_of_lt_of_le (Array.getElem?_eq_some_iff.1 q1).1 q)
 have htb:∀ g,TN = some g->∃ b,TBL w g b/\(¬ (F.io g ∨ F.N <= g)/\(none:Option Nat) ≠ some g)/\(¬ (F.io b ∨ F.N <= b)/\(none:Option Nat) ≠ some b)/\pr g 0/\pr b 0:=fun g hg=>by
  obtain ⟨b,h1,h2,h3,h4,h5⟩:=F.tb g hg
  refine ⟨b,h1.keep (fun q=>hs.keep.block g q h2.1 h2.2) (fun q=>hs.keep.block b q h3.1 h3.2),⟨fun q=>?_,by simp⟩,⟨fun q=>?_,by simp⟩,hs.prsub _ _ h4,hs.prsub _ _ h5⟩
  ·exact q.elim h2.1 fun q=>Nat.lt_irrefl _ (Nat.lt_of_lt_of_le h1.lt.1 q)
  ·exact q.elim h3.1 fun q=>Nat.lt_irrefl _ (Nat.lt_of_lt_of_le h1.lt.2 q)
 let F':Fr:=⟨F.nt,F.lam0,w,pr,fun b=>F.io b ∨ F.N <= b,hs.prlt,none,fun b o q=>(by cases q),hgl,htb⟩
 have hsF:zl P F' st' a w pr lam:={
  size:=hs.size,defers:=hs.defers
  env:=fun s=>by rw [(h1 s).1]; exact hs.env s
  own:=fun s t e q g hg=>by rw [hgb s t e q] at hg; cases hg
  coh:=fun s s' t t' e e' g q q' hg=>by rw [hgb s t e q] at hg; cases hg
  box:=fun i B q=>by
   rw [hb] at q
   obtain ⟨b,b1,b2,b3,b4⟩:=hs.box i B q
   refine ⟨b,b1,b2,b3,.inr ?_⟩
   rcases b4 with b4 | b4
   ·exact .inr b4
   ·exact .inl b4
  inj:=fun i j B B' b q q'=>by rw [hb] at q q'; exact hs.inj i j B B' b q q'
  apart:=fun i B b s t e q q' q2=>by rw [hgb s t e q2]; simp
  nolam:=fun i q=>by rw [hb] at q; exact hs.nolam i q
  prlt:=hs.prlt
  keep:=⟨rfl,rfl,rfl,DLE.refl _,Nat.le_refl _,fun _ _ _ _=>rfl⟩
  prsub:=fun b o q=>q
  prnew:=fun b o q=>.inl q
  lamsub:=hs.lamsub
  coh2:=fun s s' t e e' q q' q2=>by rw [hcl s t e q] at q2; cases q2
  old:=fun s t e q q2=>by rw [(h1 s).1]; exact hs.env s
  ptr:=fun s s' t e e' b o g q=>by have:=hcl s _ _ q; omega }
 refine wp_mono (h F' a w pr lam hF hsF) ?_
 rintro ex a2 w2 ⟨s2,pr2,lam2,⟨s3,⟨l1,l2⟩,hq⟩,h2⟩
 have hk:=h2.keep
 refine ⟨s3,pr2,lam2,hq,{
  size:=h2.size,defers:=h2.defers
  env:=fun s=>by rw [(l1 s).1]; exact h2.env s
  own:=fun s t e q=>by rw [(l1 s).2] at q; cases q
  coh:=fun s s' t t' e e' g q=>by rw [(l1 s).2] at q; cases q
  box:=fun i B q=>by
   rw [l2] at q
   obtain ⟨b,b1,b2,b3,b4⟩:=h2.box i B q
   refine ⟨b,b1,b2,b3,?_⟩
   rcases b4 with b4 | b4 | b4
   ·exact .inl (Nat.le_trans hs.keep.size b4)
   ·exact .inr b4
   ·exact .inl b4
  inj:=fun i j B B' b q q'=>by rw [l2] at q q'; exact h2.inj i j B B' b q q'
  apart:=fun i B b s t e q q' q2=>by rw [(l1 s).2] at q2; cases q2
  nolam:=fun i q=>by rw [l2] at q; exact h2.nolam i q
  prlt:=h2.prlt
  keep:=⟨hk.os.trans hs.keep.os,hk.tape.trans hs.keep.tape,hk.output.trans hs.keep.output,DLE.trans hs.keep.drawn hk.drawn,Nat.le_trans hs.keep.size hk.size,fun k q1 q2 q3=>?_⟩
  prsub:=fun b o q=>h2.prsub b o (hs.prsub b o q)
  prnew:=fun b o q=>by
   rcases h2.prnew b o q with q | q
   ·exact hs.prnew b o q
   ·rcases q with q | q
    ·exact .inr (.inl (Nat.le_trans hs.keep.size q))
    ·cases q
  lamsub:=h2.lamsub
  coh2:=fun s s' t e e' q=>by rw [(l1 s).2] at q; cases q
  old:=fun s t e q=>by rw [(l1 s).2] at q; cases q
  ptr:=fun s s' t e e' b o g q=>by rw [(l1 s).2] at q; cases q }⟩
 have e:=hk.block k (Nat.lt_of_lt_of_le q1 hs.keep.size) (fun q=>by
  rcases q with q | q
  ·exact q2 q
  ·exact Nat.lt_irrefl _ (Nat.lt_of_lt_of_le q1 q)) (fun q=>by cases q)
 exact e.trans (hs.keep.block k q1 q2 q3)
theorem zdH {ro:RO} (h:ro.all = true) (m:Mm) (s:Nat):zo ro m s = (m.sl.get s).getD (.any,none):=by
 unfold zo RO.own
 rw [h]; rfl
theorem zsl {ro:RO} {m:Mm} (h:ro.all = true):∀ s,(za ro (zhY m)).env s = (za ro m).env s/\((za ro (zhY m)).tok s = none ∨ ∃ e,(za ro (zhY m)).tok s = some (2000000,e)):=by
 intro s
 show toV (zo ro (zhY m) s).1 = toV (zo ro m s).1/\((zo ro (zhY m) s).2 = none ∨ ∃ e,(zo ro (zhY m) s).2 = some (2000000,e))
 rw [zdH h,zdH h]
 unfold zhY
 rw [T.get_mapV]
 cases m.sl.get s with
 | none=>exact ⟨rfl,.inl rfl⟩
 | some x=>exact ⟨rfl,.inr ⟨0,rfl⟩⟩
theorem zqd {ro:RO} {m:Mm} (h:ro.all = true):zsk (za ro m) (za ro (zet m)):=by
 refine ⟨fun s=>?_,rfl⟩
 show toV (zo ro (zet m) s).1 = toV (zo ro m s).1/\(zo ro (zet m) s).2 = none
 rw [zdH h,zdH h]
 unfold zet
 rw [T.get_mapV]
 cases m.sl.get s with
 | none=>exact ⟨rfl,rfl⟩
 | some x=>exact ⟨rfl,rfl⟩
theorem zsm {mu:Bool} {ro:RO} {m:Mm} {ds bs:List Nat}:Yn mu (yw mu ro m ds bs):=by
 have ownBI':∀ i,m.bx.length <= i->(yw mu ro m ds bs).ownB i = true:=fun i hi=>by
  unfold RO.ownB yw
  rw [Nat.ble_eq_true_of_le hi]; rfl
 refine ⟨fun s=>zhr _ _,fun s t e h=>ziY h,fun hfl s _=>?_,fun hfl i B hi hB=>?_⟩
 ·have hfl':mu = true:=by
   have:(mu && _) = true:=hfl
   rw [zvL] at this; exact this.1
  show (yY mu (zo ro m s)).2 ≠ none ∨ yR (yY mu (zo ro m s)).1 = true
  rw [hfl']
  exact zht
 ·have hfl':((List.range m.bx.length).all fun i=>match zu ro m i with | some B=>zai B | none=>true) = true:=by
   have:(mu && _) = true:=hfl
   rw [zvL] at this; exact this.2
  have hil:i < m.bx.length:=by
   rcases Nat.lt_or_ge i m.bx.length with q | q
   ·exact q
   ·rw [ownBI' i q] at hi; cases hi
  have:=List.all_eq_true.1 hfl' i (List.mem_range.2 hil)
  have hB':zu ro m i = some B:=hB
  rw [hB'] at this
  exact this
theorem zoj {n':Nat} {x:Code} {ro:RO} {mu:Bool} (hro:Yn mu ro) {m:Mm} {ds bs:List Nat} {L:List LV} {es:List (EX × List LV)} (h0:zn2 ro m ds bs L es = true) {v0:zfr L} (hv0:QE (zu ro m) ro m L = some v0)
  {out:zpU es} {β:Type} {k:Exit->Mm->Option β} {r:β} (hw:Qk (zu ro m) ⟨zhf (m.sl.mapV (yY mu)) ds,m.bx⟩ k es out = some r) {Q:Exit->St->Prop} (hK:∀ ex m',k ex m' = some r->Q ex (za ro m'))
  (hbody:AWp P n' x (za (yw mu ro m ds bs) (qF (zu ro m) ⟨.nil,List.replicate m.bx.length none⟩ L v0)) fun ex st'=>∃ m' e,st' = za (yw mu ro m ds bs) m'/\EX.ofJ ex = some e/\QF (zu ro m) (yw mu ro m ds bs) m' e es = some out) :
  AWp P n' x (za ro m) Q:=by
 unfold zn2 at h0
 simp only [zvL] at h0
 obtain ⟨⟨⟨⟨⟨⟨⟨c1,c2⟩,c3⟩,c4⟩,c5⟩,c6⟩,c7⟩,c8⟩:=h0
 have d1:∀ s ∈ ds,ro.own s = true:=List.all_eq_true.1 c1
 have d2:∀ i ∈ bs,ro.ownB i = true:=List.all_eq_true.1 c2
 have d3:∀ i ∈ bs,i < m.bx.length:=fun i hi=>zho (List.all_eq_true.1 c3 i hi)
 have d4:∀ i ∈ bs,yp L i = true:=List.all_eq_true.1 c4
 have d5:∀ e ∈ es,∀ i ∈ bs,yp e.2 i = true:=fun e he=>List.all_eq_true.1 (List.all_eq_true.1 c5 e he)
 have d6:ro.nb <= m.bx.length:=zvN c6
 have ownI:∀ s,(yw mu ro m ds bs).own s = decide (s ∈ ds):=fun s=>by
  unfold RO.own yw; simp only [cond_false]; exact QJ ds s
 have ownBI:∀ i,i < m.bx.length->(yw mu ro m ds bs).ownB i = decide (i ∈ bs):=fun i hi=>by
  unfold RO.ownB yw
  have:Nat.ble m.bx.length i = false:=by
   cases hb:Nat.ble m.bx.length i
   ·rfl
   ·have:=zvN hb; omega
  rw [this]; simp only [cond_false]; exact QJ bs i
 have ownBI':∀ i,m.bx.length <= i->(yw mu ro m ds bs).ownB i = true:=fun i hi=>by
  unfold RO.ownB yw
  rw [Nat.ble_eq_true_of_le hi]; rfl
 intro F ac w pr lam hF hs
 obtain ⟨E1,E2,E3⟩:=zl.below hs c6
 have f1:∀ i,yp L i = true->i < m.bx.length:=fun i hi=>d3 i (zew.1 (List.all_eq_true.1 c7 i (qM hi)))
 have f2:∀ e ∈ es,∀ i,yp e.2 i = true->i < m.bx.length:=fun e he i hi=>d3 i (zew.1 (List.all_eq_true.1 (List.all_eq_true.1 c8 e he) i (qM hi)))
 have hlen0:(⟨.nil,List.replicate m.bx.length none⟩:Mm).bx.length = m.bx.length:=by simp
 have getS0:∀ s,zo (yw mu ro m ds bs) ⟨.nil,List.replicate m.bx.length none⟩ s = if s ∈ ds then (.any,none) else yY mu (zo ro m s):=by
  intro s
  rw [zo,ownI]
  by_cases hs:s ∈ ds
  ·simp [hs,T.get_nil]
  ·simp only [hs,decide_false,cond_false,if_false]
   rfl
 have getB0:∀ i,i < m.bx.length->i ∉ bs->zu (yw mu ro m ds bs) ⟨.nil,List.replicate m.bx.length none⟩ i = zu ro m i:=by
  intro i hi hb
  rw [zu,ownBI i hi]
  simp only [hb,decide_false,cond_false]
  rfl
 have E1':∀ s,ltV m.bx.length (toV (zo (yw mu ro m ds bs) ⟨.nil,List.replicate m.bx.length none⟩ s).1) = true:=by
  intro s
  rw [getS0]
  split
  ·simp [toV,ltV]
  ·exact zdC (E1 s)
 have E2':∀ i B,zu (yw mu ro m ds bs) ⟨.nil,List.replicate m.bx.length none⟩ i = some B->qY m.bx.length (zB B).cells = true:=by
  intro i B hB
  rcases Nat.lt_or_ge i m.bx.length with hi | hi
  ·by_cases hb:i ∈ bs
   ·rw [zu,ownBI i hi] at hB
    simp [hb,hi] at hB
   ·rw [getB0 i hi hb] at hB
    exact E2 i B hB
  ·rw [zu,ownBI' i hi] at hB
   simp [Nat.not_lt.2 hi] at hB
 have enter:∀ (roS:RO) (mS:Mm) (v:zfr L) (a':Act) (w':World) (pr':Nat->Nat->Prop) (lam':Nat->Option Nat),QE (zu ro m) roS mS L = some v->zl P F (za roS mS) a' w' pr' lam' ->
   (∀ s,s ∉ ds->Wk (pv (yY mu (zo ro m s))) (pv (zo roS mS s)))->(∀ i,i < m.bx.length->i ∉ bs->(zu roS mS i).map zB = (zu ro m i).map zB) ->
   ∃ lam'',zl P F (za (yw mu ro m ds bs) (qF (zu ro m) ⟨.nil,List.replicate m.bx.length none⟩ L v)) a' w' pr' lam'':=by
  intro roS mS v a' w' pr' lam' hr hs' hw1 hw2
  refine zl.carry hs' hr hlen0 (Nat.le_refl _) f1 (fun s=>?_) (fun i hi=>?_) E1' E2' E3
  ·rw [getS0]
   split
   ·exact .inr (.inr (by simp [pv,toV]))
   ·exact hw1 s ‹_›
  ·by_cases hb:i ∈ bs
   ·exact .inr ⟨d4 i hb,by rw [ownBI i hi]; simp [hb]⟩
   ·rw [getB0 i hi hb]
    exact .inl (hw2 i hi hb).symm
 obtain ⟨lam0,hs0⟩:=enter ro m v0 ac w pr lam hv0 hs (fun s _=>zhs _ _) (fun i _ _=>rfl)
 have insS:∀ (mI:Mm) s,s ∉ ds->zo (yw mu ro m ds bs) mI s = yY mu (zo ro m s):=by
  intro mI s hsd
  rw [zo,ownI]
  simp only [hsd,decide_false,cond_false]
  rfl
 have insB:∀ (mI:Mm) i,i < m.bx.length->i ∉ bs->zu (yw mu ro m ds bs) mI i = zu ro m i:=by
  intro mI i hi hb
  rw [zu,ownBI i hi]
  simp only [hb,decide_false,cond_false]
  rfl
 refine wp_mono (hbody F ac w pr lam0 hF hs0) ?_
 rintro ex a'' w'' ⟨st',pr'',lam'',⟨m',e,rfl,he,hr⟩,hs'⟩
 obtain ⟨L',y,⟨e',hmem⟩,hr',hk'⟩:=Q0 hr hw
 have getS1:∀ s,zo ro ⟨zhf (m.sl.mapV (yY mu)) ds,m.bx⟩ s = if s ∈ ds then (.any,none) else yY mu (zo ro m s):=by
  intro s
  unfold zo
  by_cases hsd:s ∈ ds
  ·rw [d1 s hsd,if_pos hsd]
   simp [zbG,hsd]
  ·rw [if_neg hsd]
   cases ho:ro.own s
   ·exact (hro.idem s).symm
   ·simp only [cond_true]
    rw [zbG,if_neg hsd,T.get_mapV]
    cases m.sl.get s
    ·simp [yY,yR]
    ·rfl
 obtain ⟨lam3,hs3⟩:=zl.carry (roT:=ro) (m1:=⟨zhf (m.sl.mapV (yY mu)) ds,m.bx⟩) (n:=m.bx.length) hs' hr' rfl d6 (f2 _ hmem) (fun s=>by
   rw [getS1]
   split
   ·exact .inr (.inr (by simp [pv,toV]))
   ·rw [insS m' s ‹_›]; exact .inl rfl) (fun i hi=>by
   by_cases hb:i ∈ bs
   ·exact .inr ⟨d5 _ hmem i hb,d2 i hb⟩
   ·rw [insB m' i hi hb]; exact .inl rfl) (fun s=>by
   rw [getS1]
   split
   ·simp [toV,ltV]
   ·exact zdC (E1 s)) E2 E3
 have hfin:=hK _ _ hk'
 rw [EX.ofJ_to he] at hfin
 exact ⟨_,pr'',lam3,hfin,hs3⟩
theorem y7 (hm:P.follows .mixedOrders = true) {n':Nat}:∀ (c:Code) (a:Ann) (ro:RO) (hro:Yn (!Nat.beq X.wr 0) ro) (m:Mm) {β:Type} (k:Exit->Mm->Option β) (r:β) (Kp:Exit->St->Prop),okX n' c a = true ->
  (∀ ex m',k ex m' = some r->Kp ex (za ro m'))->Z8 X c a ro m k = some r->AWp P n' c (za ro m) Kp
 | .skip,_,ro,hro,m,β,k,r,Kp,_,hK,h=>fun F a w pr lam _ hs=>wp_skip ⟨_,pr,lam,hK _ _ h,hs⟩
 | .label _,_,ro,hro,m,β,k,r,Kp,_,hK,h=>fun F a w pr lam _ hs=>wp_label ⟨_,pr,lam,hK _ _ h,hs⟩
 | .exit id,_,ro,hro,m,β,k,r,Kp,_,hK,h=>fun F a w pr lam _ hs=>wp_exit ⟨_,pr,lam,hK _ _ h,hs⟩
 | .ret,_,ro,hro,m,β,k,r,Kp,_,hK,h=>fun F a w pr lam _ hs=>wp_ret ⟨_,pr,lam,hK _ _ h,hs⟩
 | .region id ops dr,a,ro,hro,m,β,k,r,Kp,hok,hK,h=>by
  cases hful:(dr && a.isFull) with
  | true =>
   simp only [okX,hful,cond_true,zvL] at hok
   simp only [Z8,hful,cond_true] at h
   rw [zvL] at hful
   obtain ⟨rfl,_⟩:=hful
   exact AWp.full hm hok.1 hok.2 (QH hro (fun m' h'=>hK _ _ h') _ _ m h)
  | false =>
  simp only [okX,hful,cond_false] at hok
  simp only [Z8,hful,cond_false] at h
  clear hful
  cases hsch:(dr && a.isSch) with
  | true =>
   simp only [hsch,cond_true,zvL] at hok
   simp only [hsch,cond_true] at h
   rw [zvL] at hsch
   obtain ⟨rfl,_⟩:=hsch
   split at h
   ·rename_i l hl
    exact AWp.sched hm hok.1 hok.2 hl (Qp hro (fun m' h'=>hK _ _ h') l m h)
   ·cases h
  | false =>
  simp only [hsch,cond_false] at hok
  simp only [hsch,cond_false] at h
  cases hsc:a.isSch with
  | true =>
   rw [hsc] at hok h hsch
   simp only [cond_true] at hok h
   simp only [Bool.and_true] at hsch
   subst hsch
   exact AWp.clr hok (ze5 hro (fun m' h'=>hK _ _ h') _ m h)
  | false =>
  rw [hsc] at hok h
  simp only [cond_false] at hok h
  clear hsch hsc
  cases dr with
  | false =>
   refine qI hm (.region id ops false) _ _ hok ?_
   show (if ([]:List Nat).contains id = true then _ else zqC P false ops (za ro m) (Kp .normal))
   rw [if_neg (by simp)]
   exact ⟨(fun h=>by cases h),zaN hro (fun m' h'=>hK _ _ h') _ _ h⟩
  | true =>
   have hv:Y4 P true (ops.toList.map (·.dst)) ops.toList (za ro ⟨m.sl.mapV (zhZ ((ops.toList.filter Y2).map (·.dst))),m.bx⟩) (Kp .normal):=zaN hro (fun m' h'=>hK _ _ h') _ _ h
   have hn:=zoi (m:=m) hro ops
   have hw:=zqc (ro:=ro) (m:=m) ((ops.toList.filter Y2).map (·.dst))
   generalize hm1:za ro ⟨m.sl.mapV (zhZ ((ops.toList.filter Y2).map (·.dst))),m.bx⟩ = st1 at hv hn hw
   have hc:AWp P n' (.region id ops true) st1 Kp:=by
    refine qI hm (.region id ops true) _ _ hok ?_
    show (if ([]:List Nat).contains id = true then _ else zqC P true ops st1 (Kp .normal))
    rw [if_neg (by simp)]
    exact ⟨fun _=>hn,hv⟩
   intro F a w pr lam hF hs
   refine hc F a w pr lam hF ?_
   have:=zl.weak hs (nb':=st1.nb) (sl':=st1.sl) hw
   have hb:st1.box = (za ro m).box:=by rw [<- hm1]; rfl
   rw [<- hb] at this
   exact this
 | .seq x y,a,ro,hro,m,β,k,r,Kp,hok,hK,h=>by
  simp only [okX,zvL] at hok
  have plain:∀ al:Ann,al = a.l->al.inn = al->Z8 X x al ro m (fun ex m'=>match ex with
    | .normal=>bif a.r.isOld && ro.all then Z8 X y a.r.un ro (zhY m') (fun ex2 m2=>k ex2 (zet m2)) else Z8 X y a.r.un ro m' k
    | e=>k e m') = some r->AWp P n' (.seq x y) (za ro m) Kp:=fun al e1 e2 h=>by
   rw [<- e1,e2] at hok
   refine zpd (y7 hm x al ro hro m _ r _ hok.1 ?_ h)
   intro ex m' h'
   cases ex with
   | normal =>
    simp only at h'
    cases hold:(a.r.isOld && ro.all) with
    | false =>
     rw [hold] at h'
     exact y7 hm y a.r.un ro hro m' k r Kp hok.2 hK h'
    | true =>
     rw [hold] at h'
     rw [zvL] at hold
     exact AWp.reframe (zsl hold.2) rfl (y7 hm y a.r.un ro hro (zhY m') _ r (fun ex s2=>∃ s3,zsk s2 s3/\Kp ex s3) hok.2 (fun ex m2 hq=>⟨_,zqd hold.2,hK ex _ hq⟩) h')
   | exit id=>exact hK _ _ h'
   | goto l=>exact hK _ _ h'
   | ret=>exact hK _ _ h'
   | panic c=>exact hK _ _ h'
   | outgrown=>exact hK _ _ h'
  unfold Z8 at h
  split at h
  ·rename_i ds bs L es a1 hal
   rw [hal] at hok
   obtain ⟨h0,h⟩:=zS h
   split at h
   case h_2=>cases h
   rename_i v0 hv0
   obtain ⟨out,hit,hw⟩:=bind_some h
   refine zpd (zoj hro h0 hv0 hw ?_ (y7 hm x a1 _ zsm _ _ _ _ hok.1 ?_ hit))
   ·intro ex m' h'
    cases ex with
    | normal=>exact y7 hm y a.r.un ro hro m' k r Kp hok.2 hK h'
    | exit id=>exact hK _ _ h'
    | goto l=>exact hK _ _ h'
    | ret=>exact hK _ _ h'
    | panic c=>exact hK _ _ h'
    | outgrown=>exact hK _ _ h'
   ·intro ex m' h'
    split at h'
    ·rename_i e he
     exact ⟨m',e,rfl,he,h'⟩
    ·cases h'
  ·rename_i hno
   refine plain a.l rfl ?_ h
   cases hal:a.l with
   | join ds bs L es a1=>exact (hno ds bs L es a1 hal).elim
   | _=>rfl
 | .cond c x y,a,ro,hro,m,β,k,r,Kp,hok,hK,h=>by
  simp only [okX,zvL] at hok
  simp only [Z8] at h
  split at h
  ·rename_i b hb
   have he:(za ro m).eval c = .bool b:=by rw [<- zh,hb]; simp [toV]
   refine zsj he (fun hbt=>?_) (fun hbf=>?_)
   ·subst hbt
    have:=y7 hm x a.l ro hro (Z7 ro m c true) k r Kp hok.1 hK h
    rwa [zhw hb] at this
   ·subst hbf
    have:=y7 hm y a.r ro hro (Z7 ro m c false) k r Kp hok.2 hK h
    rwa [zhw hb] at this
  ·cases h
 | .block id x,a,ro,hro,m,β,k,r,Kp,hok,hK,h=>by
  refine zqb (y7 hm x a ro hro m _ r _ hok ?_ h)
  intro ex m' h'
  cases ex with
  | exit id' =>
   simp only at h'
   simp only [zfX]
   cases hb:Nat.beq id' id with
   | true=>rw [hb] at h'; rw [if_pos (zvM hb)]; exact hK _ _ h'
   | false =>
    rw [hb] at h'
    rw [if_neg (fun e=>by subst e; simp at hb)]
    exact hK _ _ h'
  | normal=>exact hK _ _ h'
  | goto l=>exact hK _ _ h'
  | ret=>exact hK _ _ h'
  | panic c=>exact hK _ _ h'
  | outgrown=>exact hK _ _ h'
 | .loop x,.loop ds bs L es a,ro,hro,m,β,k,r,Kp,hok,hK,h=>by
  simp only [Z8] at h
  obtain ⟨h0,h⟩:=zS h
  simp only [zvL] at h0
  obtain ⟨⟨⟨⟨⟨⟨⟨c1,c2⟩,c3⟩,c4⟩,c5⟩,c6⟩,c7⟩,c8⟩:=h0
  split at h
  case h_2=>cases h
  rename_i v0 hv0
  obtain ⟨out,hit,hw⟩:=bind_some h
  obtain ⟨N,hN⟩:=zan.1 hit
  have d1:∀ s ∈ ds,ro.own s = true:=List.all_eq_true.1 c1
  have d2:∀ i ∈ bs,ro.ownB i = true:=List.all_eq_true.1 c2
  have d3:∀ i ∈ bs,i < m.bx.length:=fun i hi=>zho (List.all_eq_true.1 c3 i hi)
  have d4:∀ i ∈ bs,yp L i = true:=List.all_eq_true.1 c4
  have d5:∀ e ∈ es,∀ i ∈ bs,yp e.2 i = true:=fun e he=>List.all_eq_true.1 (List.all_eq_true.1 c5 e he)
  have d6:ro.nb <= m.bx.length:=zvN c6
  have ownI:∀ s,(yw (!Nat.beq X.wr 0) ro m ds bs).own s = decide (s ∈ ds):=fun s=>by
   unfold RO.own yw; simp only [cond_false]; exact QJ ds s
  have ownBI:∀ i,i < m.bx.length->(yw (!Nat.beq X.wr 0) ro m ds bs).ownB i = decide (i ∈ bs):=fun i hi=>by
   unfold RO.ownB yw
   have:Nat.ble m.bx.length i = false:=by
    cases hb:Nat.ble m.bx.length i
    ·rfl
    ·have:=zvN hb; omega
   rw [this]; simp only [cond_false]; exact QJ bs i
  have ownBI':∀ i,m.bx.length <= i->(yw (!Nat.beq X.wr 0) ro m ds bs).ownB i = true:=fun i hi=>by
   unfold RO.ownB yw
   rw [Nat.ble_eq_true_of_le hi]; rfl
  have hroI:Yn (!Nat.beq X.wr 0) (yw (!Nat.beq X.wr 0) ro m ds bs):=by
   refine ⟨fun s=>zhr _ _,fun s t e h=>ziY h,fun hfl s _=>?_,fun hfl i B hi hB=>?_⟩
   ·have hfl':(!Nat.beq X.wr 0) = true:=by
     have:((!Nat.beq X.wr 0) && _) = true:=hfl
     rw [zvL] at this; exact this.1
    show (yY (!Nat.beq X.wr 0) (zo ro m s)).2 ≠ none ∨ yR (yY (!Nat.beq X.wr 0) (zo ro m s)).1 = true
    rw [hfl']
    exact zht
   ·have hfl':((List.range m.bx.length).all fun i=>match zu ro m i with | some B=>zai B | none=>true) = true:=by
     have:((!Nat.beq X.wr 0) && _) = true:=hfl
     rw [zvL] at this; exact this.2
    have hil:i < m.bx.length:=by
     rcases Nat.lt_or_ge i m.bx.length with q | q
     ·exact q
     ·rw [ownBI' i q] at hi; cases hi
    have:=List.all_eq_true.1 hfl' i (List.mem_range.2 hil)
    have hB':zu ro m i = some B:=hB
    rw [hB'] at this
    exact this
  intro F ac w pr lam hF hs
  obtain ⟨E1,E2,E3⟩:=zl.below hs c6
  have f1:∀ i,yp L i = true->i < m.bx.length:=fun i hi=>d3 i (zew.1 (List.all_eq_true.1 c7 i (qM hi)))
  have f2:∀ e ∈ es,∀ i,yp e.2 i = true->i < m.bx.length:=fun e he i hi=>d3 i (zew.1 (List.all_eq_true.1 (List.all_eq_true.1 c8 e he) i (qM hi)))
  have hlen0:(⟨.nil,List.replicate m.bx.length none⟩:Mm).bx.length = m.bx.length:=by simp
  have getS0:∀ s,zo (yw (!Nat.beq X.wr 0) ro m ds bs) ⟨.nil,List.replicate m.bx.length none⟩ s = if s ∈ ds then (.any,none) else yY (!Nat.beq X.wr 0) (zo ro m s):=by
   intro s
   rw [zo,ownI]
   by_cases hs:s ∈ ds
   ·simp [hs,T.get_nil]
   ·simp only [hs,decide_false,cond_false,if_false]
    rfl
  have getB0:∀ i,i < m.bx.length->i ∉ bs->zu (yw (!Nat.beq X.wr 0) ro m ds bs) ⟨.nil,List.replicate m.bx.length none⟩ i = zu ro m i:=by
   intro i hi hb
   rw [zu,ownBI i hi]
   simp only [hb,decide_false,cond_false]
   rfl
  have E1':∀ s,ltV m.bx.length (toV (zo (yw (!Nat.beq X.wr 0) ro m ds bs) ⟨.nil,List.replicate m.bx.length none⟩ s).1) = true:=by
   intro s
   rw [getS0]
   split
   ·simp [toV,ltV]
   ·exact zdC (E1 s)
  have E2':∀ i B,zu (yw (!Nat.beq X.wr 0) ro m ds bs) ⟨.nil,List.replicate m.bx.length none⟩ i = some B->qY m.bx.length (zB B).cells = true:=by
   intro i B hB
   rcases Nat.lt_or_ge i m.bx.length with hi | hi
   ·by_cases hb:i ∈ bs
    ·rw [zu,ownBI i hi] at hB
     simp [hb,hi] at hB
    ·rw [getB0 i hi hb] at hB
     exact E2 i B hB
   ·rw [zu,ownBI' i hi] at hB
    simp [Nat.not_lt.2 hi] at hB
  have enter:∀ (roS:RO) (mS:Mm) (v:zfr L) (a':Act) (w':World) (pr':Nat->Nat->Prop) (lam':Nat->Option Nat),QE (zu ro m) roS mS L = some v->zl P F (za roS mS) a' w' pr' lam' ->
    (∀ s,s ∉ ds->Wk (pv (yY (!Nat.beq X.wr 0) (zo ro m s))) (pv (zo roS mS s)))->(∀ i,i < m.bx.length->i ∉ bs->(zu roS mS i).map zB = (zu ro m i).map zB) ->
    ∃ lam'',zl P F (za (yw (!Nat.beq X.wr 0) ro m ds bs) (qF (zu ro m) ⟨.nil,List.replicate m.bx.length none⟩ L v)) a' w' pr' lam'':=by
   intro roS mS v a' w' pr' lam' hr hs' hw1 hw2
   refine zl.carry hs' hr hlen0 (Nat.le_refl _) f1 (fun s=>?_) (fun i hi=>?_) E1' E2' E3
   ·rw [getS0]
    split
    ·exact .inr (.inr (by simp [pv,toV]))
    ·exact hw1 s ‹_›
   ·by_cases hb:i ∈ bs
    ·exact .inr ⟨d4 i hb,by rw [ownBI i hi]; simp [hb]⟩
    ·rw [getB0 i hi hb]
     exact .inl (hw2 i hi hb).symm
  obtain ⟨lam0,hs0⟩:=enter ro m v0 ac w pr lam hv0 hs (fun s _=>zhs _ _) (fun i _ _=>rfl)
  have insS:∀ (mI:Mm) s,s ∉ ds->zo (yw (!Nat.beq X.wr 0) ro m ds bs) mI s = yY (!Nat.beq X.wr 0) (zo ro m s):=by
   intro mI s hsd
   rw [zo,ownI]
   simp only [hsd,decide_false,cond_false]
   rfl
  have insB:∀ (mI:Mm) i,i < m.bx.length->i ∉ bs->zu (yw (!Nat.beq X.wr 0) ro m ds bs) mI i = zu ro m i:=by
   intro mI i hi hb
   rw [zu,ownBI i hi]
   simp only [hb,decide_false,cond_false]
   rfl
  refine zmN (fun j a' w'=>∃ v pr' lam',za1 _ j v = some out/\zl P F (za (yw (!Nat.beq X.wr 0) ro m ds bs) (qF (zu ro m) ⟨.nil,List.replicate m.bx.length none⟩ L v)) a' w' pr' lam') ?_ N ac w ⟨v0,pr,lam0,hN,hs0⟩
  rintro j a' w' ⟨v,pr',lam',hj,hsv⟩
  cases j with
  | zero=>cases hj
  | succ j =>
   unfold za1 at hj
   split at hj
   ·rename_i v' hF'
    have hbody:=y7 hm x a _ hroI _ _ _ (fun ex st'=>∃ m',st' = za (yw (!Nat.beq X.wr 0) ro m ds bs) m'/\ex = .normal/\QE (zu ro m) (yw (!Nat.beq X.wr 0) ro m ds bs) m' L = some v') hok (fun ex m' h'=>?_) hF'
    ·refine wp_mono (hbody F a' w' pr' lam' hF hsv) ?_
     rintro ex a'' w'' ⟨st',pr'',lam'',⟨m',rfl,rfl,hr⟩,hs'⟩
     obtain ⟨lam3,hs3⟩:=enter _ m' v' a'' w'' pr'' lam'' hr hs' (fun s hsd=>by rw [insS m' s hsd]; exact .inl rfl) (fun i hi hb=>by rw [insB m' i hi hb])
     exact ⟨j,by omega,v',pr'',lam3,hj,hs3⟩
    ·cases ex with
     | normal =>
      simp only at h'
      split at h'
      ·rename_i w2 hw2; cases h'; exact ⟨m',rfl,rfl,hw2⟩
      ·cases h'
     | exit id =>
      simp only at h'
      split at h'
      ·split at h' <;> cases h'
      ·cases h'
     | ret =>
      simp only at h'
      split at h'
      ·split at h' <;> cases h'
      ·cases h'
     | goto l=>simp [EX.of] at h'
     | panic l=>simp [EX.of] at h'
     | outgrown=>simp [EX.of] at h'
   ·rename_i out' hF'
    cases hj
    have hbody:=y7 hm x a _ hroI _ _ _ (fun ex st'=>∃ m' e,st' = za (yw (!Nat.beq X.wr 0) ro m ds bs) m'/\EX.of ex = some e/\QF (zu ro m) (yw (!Nat.beq X.wr 0) ro m ds bs) m' e es = some out) hok (fun ex m' h'=>?_) hF'
    ·refine wp_mono (hbody F a' w' pr' lam' hF hsv) ?_
     rintro ex a'' w'' ⟨st',pr'',lam'',⟨m',e,rfl,he,hr⟩,hs'⟩
     obtain ⟨L',y,⟨e',hmem⟩,hr',hk'⟩:=Q0 hr hw
     have getS1:∀ s,zo ro ⟨zhf (m.sl.mapV (yY (!Nat.beq X.wr 0))) ds,m.bx⟩ s = if s ∈ ds then (.any,none) else yY (!Nat.beq X.wr 0) (zo ro m s):=by
      intro s
      unfold zo
      by_cases hsd:s ∈ ds
      ·rw [d1 s hsd,if_pos hsd]
       simp [zbG,hsd]
      ·rw [if_neg hsd]
       cases ho:ro.own s
       ·exact (hro.idem s).symm
       ·simp only [cond_true]
        rw [zbG,if_neg hsd,T.get_mapV]
        cases m.sl.get s
        ·simp [yY,yR]
        ·rfl
     obtain ⟨lam3,hs3⟩:=zl.carry (roT:=ro) (m1:=⟨zhf (m.sl.mapV (yY (!Nat.beq X.wr 0))) ds,m.bx⟩) (n:=m.bx.length) hs' hr' rfl d6 (f2 _ hmem) (fun s=>by
       rw [getS1]
       split
       ·exact .inr (.inr (by simp [pv,toV]))
       ·rw [insS m' s ‹_›]; exact .inl rfl) (fun i hi=>by
       by_cases hb:i ∈ bs
       ·exact .inr ⟨d5 _ hmem i hb,d2 i hb⟩
       ·rw [insB m' i hi hb]; exact .inl rfl) (fun s=>by
       rw [getS1]
       split
       ·simp [toV,ltV]
       ·exact zdC (E1 s)) E2 E3
     have hfin:=hK _ _ hk'
     rw [EX.of_to he] at hfin
     cases ex with
     | normal=>simp [EX.of] at he
     | exit id=>exact ⟨_,pr'',lam3,hfin,hs3⟩
     | ret=>exact ⟨_,pr'',lam3,hfin,hs3⟩
     | goto l=>simp [EX.of] at he
     | panic l=>simp [EX.of] at he
     | outgrown=>simp [EX.of] at he
    ·cases ex with
     | normal =>
      simp only at h'
      split at h' <;> cases h'
     | exit id =>
      simp only at h'
      split at h'
      ·rename_i e he
       split at h'
       ·rename_i w2 hw2; cases h'; exact ⟨m',e,rfl,he,hw2⟩
       ·cases h'
      ·cases h'
     | ret =>
      simp only at h'
      split at h'
      ·rename_i e he
       split at h'
       ·rename_i w2 hw2; cases h'; exact ⟨m',e,rfl,he,hw2⟩
       ·cases h'
      ·cases h'
     | goto l=>simp [EX.of] at h'
     | panic l=>simp [EX.of] at h'
     | outgrown=>simp [EX.of] at h'
   ·cases hj
 | .loop _,.no,ro,hro,m,β,k,r,Kp,_,_,h=>by cases h
 | .loop _,.two _ _,ro,hro,m,β,k,r,Kp,_,_,h=>by cases h
 | .rangeFunc _ _ _ _,a,ro,hro,m,β,k,r,Kp,_,_,h=>by cases a <;> cases h
 | .scope _,a,ro,hro,m,β,k,r,Kp,_,_,h=>by cases a <;> cases h
 | .goto _,a,ro,hro,m,β,k,r,Kp,_,_,h=>by cases a <;> cases h
 | .refuse _,a,ro,hro,m,β,k,r,Kp,_,_,h=>by cases a <;> cases h
end
end Go.X
namespace Go.X
open Go.Eng
open Go.RowKit
variable {β:Type}
section
variable {P:Program}
theorem zhz:∀ (args:List S) (n s:Nat),(YJ n args).get s = if n <= s then (args[s - n]?).map (·,some (2000000,0)) else none
 | [],n,s=>by simp [YJ,T.get_nil]
 | a :: args,n,s=>by
  simp only [YJ]
  rw [T.get_set,zhz args (n + 1) s]
  by_cases h:s = n
  ·subst h; simp
  ·rw [if_neg h]
   by_cases h1:n + 1 <= s
   ·rw [if_pos h1,if_pos (by omega)]
    have:s - n = s - (n + 1) + 1:=by omega
    rw [this,List.getElem?_cons_succ]
   ·rw [if_neg h1,if_neg (by omega)]
theorem zqe {F:Fr} {a:Act} {w:World} {pr:Nat->Nat->Prop} {lam:Nat->Option Nat} {args:List S} {ins:List yM} (h:zl P F (St.init (zg args) (ins.map zB)) a w pr lam) :
  zl P F (za qQ ⟨YJ 0 args,ins.map some⟩) a w pr lam:=by
 have hw:=zl.weak h (nb':=ins.length) (sl':=(za qQ ⟨YJ 0 args,ins.map some⟩).sl) (fun s=>?_)
 ·refine (congrArg (fun st=>zl P F st a w pr lam) ?_).mp hw
  show (⟨ins.length,_,_⟩:St) = za _ _
  unfold za
  congr 1
  ·simp
  ·funext i
   show (ins.map zB)[i]? = (zu qQ ⟨YJ 0 args,ins.map some⟩ i).map zB
   have:zu qQ ⟨YJ 0 args,ins.map some⟩ i = ((ins.map some)[i]?).getD none:=rfl
   rw [this,List.getElem?_map,List.getElem?_map]
   cases ins[i]? <;> rfl
 ·show Wk (pv (zo qQ ⟨YJ 0 args,ins.map some⟩ s)) ((zg args).getD s .un,some (2000000,0))
  have:zo qQ ⟨YJ 0 args,ins.map some⟩ s = ((YJ 0 args).get s).getD (.any,none):=rfl
  rw [this,zhz]
  simp only [Nat.zero_le,if_true,Nat.sub_zero]
  cases hq:args[s]? with
  | none=>exact .inr (.inr (by simp [pv,toV]))
  | some x =>
   refine .inl ?_
   simp only [Option.map_some,Option.getD_some,pv,List.getD,Z9,hq]
theorem zi4 {m:Mm}:∀ {rs:List ResultVar} {vs:List S},zn3 (P:=P) m rs = some vs->zaq (za qQ m) P rs = some (zg vs)
 | [],vs,h=>by simp only [zn3,zvO] at h; subst h; simp [zaq,zg]
 | r :: rs,vs,h=>by
  simp only [zn3] at h
  simp only [zaq]
  split at h
  ·rename_i v vs' h1 h2
   cases h
   rw [zi4 h2]
   have:zdM (za qQ m) P r = some (toV v):=by
    cases r with
    | tmp t =>
     simp only [zvO] at h1
     subst h1; rfl
    | cell a t =>
     simp only at h1
     have he:(za qQ m).env a = toV (zo qQ m a).1:=rfl
     simp only [zdM]
     rw [he]
     split at h1
     ·rename_i i off hl
      rw [hl]
      simp only [toV]
      split at h1
      ·rename_i cs ty hB ha
       have hb:(za qQ m).box i = some ⟨zg cs,ty⟩:=by show (zu qQ m i).map zB = _; rw [hB]; rfl
       simp only [hb,ha]
       split at h1
       ·rename_i n hn
        obtain ⟨q1,q2⟩:=zS h1
        simp only [zvL] at q1
        cases q2
        simp only [hn]
        rw [if_pos ⟨zho q1.1,by rw [yK]; exact zvN q1.2⟩]
        simp [toV,Yz]
       ·cases h1
      ·rename_i cs ty hB ha
       have hb:(za qQ m).box i = some ⟨zg cs,ty⟩:=by show (zu qQ m i).map zB = _; rw [hB]; rfl
       simp only [hb,ha]
       cases hq:Nat.blt ty 1000000000 with
       | false=>rw [hq] at h1; cases h1
       | true =>
        rw [hq] at h1
        simp only [cond_true] at h1
        rw [if_pos (zho hq),Z9,h1]; rfl
      ·cases h1
     ·cases h1
   rw [this]
   simp [zg]
  ·cases h
theorem zhA {m:Mm}:∀ {n i:Nat} {outs:List yM},zhg m i n = some outs->outs.length = n/\(∀ B ∈ outs,zbx B = true)/\∀ j B,outs[j]? = some B->zu qQ m (i + j) = some B
 | 0,i,outs,h=>by
  simp only [zhg,zvO] at h; subst h
  exact ⟨rfl,by simp,fun j B hj=>by simp at hj⟩
 | n + 1,i,outs,h=>by
  simp only [zhg] at h
  split at h
  ·rename_i B bs h1 h2
   obtain ⟨q1,q2⟩:=zS h
   cases q2
   obtain ⟨a1,a2,a3⟩:=zhA h2
   refine ⟨by simp [a1],fun B' hB'=>?_,fun j B' hj=>?_⟩
   ·simp at hB'
    rcases hB' with rfl | hB'
    ·exact q1
    ·exact a2 B' hB'
   ·cases j with
    | zero=>simp at hj; subst hj; exact h1
    | succ j =>
     have:=a3 j B' (by simpa using hj)
     rwa [show i + 1 + j = i + (j + 1) from by omega] at this
  ·cases h
theorem zpe {X:zeq P} (hm:P.follows .mixedOrders = true) {f:FuncId} {fn:Func} {c:Code} {a:Ann} (hf:P.funcs[f]? = some fn) (hb:fn.body = some c) (hok:okX fn.ntmps c a = true) {args:List S} {ins:List yM}
  (hsz:args.length <= fn.ntmps) {K:S->List yM->Option β} {r:β} {vres:V} {vouts:List Box} (h:zr7 X fn.results.toList c a args ins K = some r)
  (hK:∀ res outs,K res outs = some r->outs.length = ins.length->toV res = vres/\outs.map zB = vouts) (hnl:vres.noLoc = true) (hno:∀ B ∈ vouts,V.noLocL B.cells = true) (hl:vouts.length <= ins.length) :
  Go.Eng.Fn P f (zg args) (ins.map zB) vres vouts:=by
 refine Fn.of_AWp hf hb (by rw [yK]; exact hsz) hnl hno (by simpa using hl) ?_
 have hc:=y7 (X:=X) hm c a qQ ⟨fun s=>by simp [qQ,yY,yR],fun s t e h=>(by cases h),fun _ s _=>.inr rfl,fun _ i B hi=>(by cases hi)⟩ _ _ r (zuG P fn.results.toList vres vouts) hok ?_ h
 ·intro F ac w pr lam hF hs
  exact hc F ac w pr lam hF (zqe hs)
 ·intro ex m' hk
  have key:(∃ vs outs,zn3 (P:=P) m' fn.results.toList = some vs/\zhg m' 0 ins.length = some outs/\K (match vs with | [v]=>v | vs=>.tup vs) outs = some r)->zpo (za qQ m') P fn.results.toList = some vres/\(∀ i B,vouts[i]? = some B->(za qQ m').box i = some B):=by
   rintro ⟨vs,outs,h1,h2,h3⟩
   obtain ⟨q1,q2,q3⟩:=zhA h2
   obtain ⟨e1,e2⟩:=hK _ _ h3 q1
   refine ⟨?_,fun i B hB=>?_⟩
   ·unfold zpo
    rw [zi4 h1,<- e1]
    match vs with
    | []=>simp [zg,toV]
    | [v]=>simp [zg]
    | v :: w :: vs=>simp [zg,toV]
   ·rw [<- e2,List.getElem?_map] at hB
    cases ho:outs[i]? with
    | none=>rw [ho] at hB; cases hB
    | some B' =>
     rw [ho] at hB
     cases hB
     show (zu qQ m' i).map zB = _
     have:=q3 i B' ho
     rw [Nat.zero_add] at this
     rw [this]; rfl
  have hk':(ex = .ret ∨ ex = .normal)/\∃ vs outs,zn3 (P:=P) m' fn.results.toList = some vs/\zhg m' 0 ins.length = some outs/\K (match vs with | [v]=>v | vs=>.tup vs) outs = some r:=by
   split at hk
   ·rename_i v outs hex h1 h2
    obtain ⟨_,hk⟩:=zS hk
    refine ⟨?_,_,_,h1,h2,hk⟩
    cases ex <;> simp at hex ⊢
   ·rename_i vs outs hne hex h1 h2
    obtain ⟨_,hk⟩:=zS hk
    refine ⟨?_,_,_,h1,h2,?_⟩
    ·cases ex <;> simp at hex ⊢
    ·match vs,hne with
     | [],_=>exact hk
     | [v],hne=>exact absurd rfl (hne v)
     | v :: w :: vs,_=>exact hk
   ·cases hk
  obtain ⟨hex,hk'⟩:=hk'
  rcases hex with rfl | rfl
  ·exact key hk'
  ·exact key hk'
end
@[reducible] def qZ:List C->Type
 | []=>Unit
 | [c]=>den c
 | c :: d :: cs=>den c × qZ (d :: cs)
def Ye:(cs:List C)->List S->Option (qZ cs)
 | [],[]=>some ()
 | [c],[s]=>qb c s
 | c :: d :: cs,s :: ss=>(match qb c s,Ye (d :: cs) ss with | some x,some y=>some (x,y) | _,_=>none)
 | _,_=>none
def ZR:(cs:List C)->qZ cs->List S
 | [],_=>[]
 | [c],x=>[refl c x]
 | c :: d :: cs,x=>refl c x.1 :: ZR (d :: cs) x.2
def zid:(cs:List C)->qZ cs->List V
 | [],_=>[]
 | [c],x=>[enc c x]
 | c :: d :: cs,x=>enc c x.1 :: zid (d :: cs) x.2
theorem zbZ:∀ (cs:List C) (x:qZ cs),zg (ZR cs x) = zid cs x
 | [],_=>by simp [ZR,zid,zg]
 | [c],x=>by simp [ZR,zid,zg,y6]
 | c :: d :: cs,x=>by simp [ZR,zid,zg,y6,zbZ (d :: cs) x.2]
theorem YA:∀ {cs:List C} {ss:List S} {x:qZ cs},Ye cs ss = some x->zg ss = zid cs x
 | [],[],x,h=>by simp [zid,zg]
 | [],_ :: _,x,h=>by simp [Ye] at h
 | [c],[],x,h=>by simp [Ye] at h
 | [c],[s],x,h=>by
  simp only [Ye] at h
  simp [zid,zg,zV h]
 | [c],_ :: _ :: _,x,h=>by simp [Ye] at h
 | c :: d :: cs,[],x,h=>by simp [Ye] at h
 | c :: d :: cs,s :: ss,x,h=>by
  simp only [Ye] at h
  split at h
  ·rename_i y z hy hz
   cases h
   simp [zid,zg,zV hy,YA hz]
  ·cases h
theorem ze7:∀ (cs:List C) (x:qZ cs),qc (ZR cs x) = true
 | [],_=>rfl
 | [c],x=>by simp [ZR,qc,QG]
 | c :: d :: cs,x=>by simp [ZR,qc,QG,ze7 (d :: cs) x.2]
def zok (rs:List C) (x:qZ rs):S:=match ZR rs x with
 | [v]=>v
 | vs=>.tup vs
def zmA (rs:List C) (x:qZ rs):V:=toV (zok rs x)
def zb0 (rs:List C) (s:S):Option (qZ rs):=match rs with
 | [c]=>qb c s
 | rs=>(match s with | .tup vs=>Ye rs vs | _=>none)
theorem ze8:∀ {rs:List C} {s:S} {x:qZ rs},zb0 rs s = some x->toV s = zmA rs x
 | [c],s,x,h=>by
  simp only [zb0] at h
  show toV s = toV (refl c x)
  rw [y6]; exact zV h
 | [],s,x,h=>by
  simp only [zb0] at h
  split at h
  ·rename_i vs
   have e:=YA h
   simp only [toV,e,zid]
   show _ = toV (.tup [])
   simp [toV,zg]
  ·cases h
 | c :: d :: rs,s,x,h=>by
  simp only [zb0] at h
  split at h
  ·rename_i vs
   have e:=YA h
   rw [<- zbZ] at e
   have hq:zok (c :: d :: rs) x = .tup (ZR (c :: d :: rs) x):=by
    unfold zok
    cases rs <;> simp [ZR]
   unfold zmA
   rw [hq]
   simp only [toV,e]
  ·cases h
theorem zcJ (rs:List C) (x:qZ rs):yi (zok rs x) = true:=by
 unfold zok
 have h:=ze7 rs x
 split
 ·rename_i v e
  rw [e] at h
  simpa [qc] using h
 ·rename_i e; simpa [yi] using h
theorem ze9 (rs:List C) (x:qZ rs):(zmA rs x).noLoc = true:=zdy _ (zcJ rs x)
inductive AK where
 | d (c:C)
 | f (g:FuncId) (caps:List Nat)
 | l (i off:Nat)
 | m (g:FuncId)
 | e
def ZH:List AK->List C
 | []=>[]
 | .d c :: ak=>c :: ZH ak
 | _ :: ak=>ZH ak
def zsn:List Nat->List S
 | []=>[]
 | i :: is=>.loc i 0 :: zsn is
def buildA:List AK->List S->List S
 | [],_=>[]
 | .d _ :: ak,s :: ss=>s :: buildA ak ss
 | .d _ :: ak,[]=>[]
 | .f g caps :: ak,ss=>.fn (.func g) [] (zsn caps) :: buildA ak ss
 | .l i off :: ak,ss=>.loc i off :: buildA ak ss
 | .m g :: ak,ss=>.fn (.func g) [.agg []] [] :: buildA ak ss
 | .e :: ak,ss=>.agg [] :: buildA ak ss
def zey:List Nat->List S->Bool
 | [],[]=>true
 | i :: is,.loc j o :: ss=>Nat.beq i j && Nat.beq o 0 && zey is ss
 | _,_=>false
def qd:List AK->List S->Option (List S)
 | [],[]=>some []
 | .d _ :: ak,s :: ss=>(match qd ak ss with | some ds=>some (s :: ds) | none=>none)
 | .f g caps :: ak,.fn (.func g') [] cs :: ss=>bif Nat.beq g g' && zey caps cs then qd ak ss else none
 | .l i off :: ak,.loc i' off' :: ss=>bif Nat.beq i i' && Nat.beq off off' then qd ak ss else none
 | .m g :: ak,.fn (.func g') [.agg []] [] :: ss=>bif Nat.beq g g' then qd ak ss else none
 | .e :: ak,.agg [] :: ss=>qd ak ss
 | _,_=>none
theorem zfa:∀ {is:List Nat} {ss:List S},zey is ss = true->ss = zsn is
 | [],[],_=>rfl
 | [],_ :: _,h=>by simp [zey] at h
 | _ :: _,[],h=>by simp [zey] at h
 | i :: is,s :: ss,h=>by
  cases s <;> simp only [zey,zvL,Bool.false_eq_true] at h
  rename_i j o
  obtain ⟨⟨h1,h2⟩,h3⟩:=h
  rw [zvM h1,zvM h2,zfa h3]
  rfl
theorem Zi:∀ {ak:List AK} {ss ds:List S},qd ak ss = some ds->ss = buildA ak ds
 | [],[],ds,h=>by simp only [qd,zvO] at h; subst h; rfl
 | [],_ :: _,ds,h=>by simp [qd] at h
 | .d c :: ak,[],ds,h=>by simp [qd] at h
 | .d c :: ak,s :: ss,ds,h=>by
  simp only [qd] at h
  split at h
  ·rename_i ds' hd; cases h; simp only [buildA]; rw [<- Zi hd]
  ·cases h
 | .f g caps :: ak,[],ds,h=>by simp [qd] at h
 | .l i off :: ak,[],ds,h=>by simp [qd] at h
 | .f g caps :: ak,s :: ss,ds,h=>by
  cases s with
  | fn f first cap =>
   cases f with
   | func g' =>
    cases first with
    | nil =>
     simp only [qd] at h
     obtain ⟨h1,h2⟩:=zS h
     simp only [zvL] at h1
     simp only [buildA]
     rw [<- Zi h2,zvM h1.1,zfa h1.2]
    | cons=>simp [qd] at h
   | _=>simp [qd] at h
  | _=>simp [qd] at h
 | .l i off :: ak,s :: ss,ds,h=>by
  cases s with
  | loc i' off' =>
   simp only [qd] at h
   obtain ⟨h1,h2⟩:=zS h
   simp only [zvL] at h1
   simp only [buildA]
   rw [<- Zi h2,zvM h1.1,zvM h1.2]
  | _=>simp [qd] at h
 | .m g :: ak,[],ds,h=>by simp [qd] at h
 | .e :: ak,[],ds,h=>by simp [qd] at h
 | .m g :: ak,s :: ss,ds,h=>by
  unfold qd at h
  split at h
  all_goals first | (simp at *; done) | skip
  ·rename_i heq1 heq2
   cases heq1
   cases heq2
   obtain ⟨h1,h2⟩:=zS h
   simp only [buildA]
   rw [<- Zi h2,zvM h1]
 | .e :: ak,s :: ss,ds,h=>by
  unfold qd at h
  split at h
  all_goals first | (simp at *; done) | skip
  ·rename_i heq1 heq2
   cases heq1
   cases heq2
   simp only [buildA]
   rw [<- Zi h]
theorem Yo:∀ (ak:List AK) (ss:List S),(buildA ak ss).length <= ak.length
 | [],_=>by simp [buildA]
 | .d c :: ak,[]=>by simp [buildA]
 | .d c :: ak,s :: ss=>by simp [buildA]; exact Yo ak ss
 | .f g caps :: ak,ss=>by simp [buildA]; exact Yo ak ss
 | .l i o :: ak,ss=>by simp [buildA]; exact Yo ak ss
 | .m g :: ak,ss=>by simp [buildA]; exact Yo ak ss
 | .e :: ak,ss=>by simp [buildA]; exact Yo ak ss
theorem qN:∀ (ak:List AK) {ss ds:List S},zg ss = zg ds->zg (buildA ak ss) = zg (buildA ak ds)
 | [],_,_,_=>rfl
 | .d c :: ak,[],[],_=>rfl
 | .d c :: ak,[],_ :: _,h=>by simp [zg] at h
 | .d c :: ak,_ :: _,[],h=>by simp [zg] at h
 | .d c :: ak,s :: ss,d :: ds,h=>by
  simp only [zg,List.cons.injEq] at h
  simp only [buildA,zg,h.1,qN ak h.2]
 | .f g caps :: ak,ss,ds,h=>by simp only [buildA,zg,qN ak h]
 | .l i off :: ak,ss,ds,h=>by simp only [buildA,zg,qN ak h]
 | .m g :: ak,ss,ds,h=>by simp only [buildA,zg,qN ak h]
 | .e :: ak,ss,ds,h=>by simp only [buildA,zg,qN ak h]
abbrev BK:=List (C × TypeId)
@[reducible] def bkC (b:BK):List C:=b.map (·.1)
def Yf:(b:BK)->qZ (bkC b)->List yM
 | [],_=>[]
 | [c],x=>[.cells (qp (refl c.1 x)) c.2]
 | c :: d :: b,x=>.cells (qp (refl c.1 x.1)) c.2 :: Yf (d :: b) x.2
def zkD (c:C) (ty:TypeId):yM->Option (den c)
 | .cells cs ty'=>bif Nat.beq ty' ty then (match qb c (.agg cs) with
  | some y=>some y
  | none=>(match cs with
   | [.agg _]=>none
   | [x]=>qb c x
   | _=>none)) else none
 | _=>none
def Yq:(b:BK)->List yM->Option (qZ (bkC b))
 | [],[]=>some ()
 | [c],[B]=>zkD c.1 c.2 B
 | c :: d :: b,B :: Bs=>(match zkD c.1 c.2 B,Yq (d :: b) Bs with | some x,some y=>some (x,y) | _,_=>none)
 | _,_=>none
theorem zfb {c:C} {ty:TypeId} {B:yM} {x:den c} (h:zkD c ty B = some x):zB B = zB (.cells (qp (refl c x)) ty):=by
 cases B with
 | map=>cases h
 | cells cs ty' =>
  simp only [zkD] at h
  obtain ⟨h1,h2⟩:=zS h
  have ht:=zvM h1
  subst ht
  simp only [zB]
  congr 1
  rw [Yl]
  split at h2
  ·rename_i y hy
   cases h2
   have:=zV hy
   simp only [toV] at this
   rw [<- this]; rfl
  ·split at h2
   ·cases h2
   ·rename_i z hz _
    have:=zV h2
    rw [<- this]
    have hne:∀ ds,z ≠ .agg ds:=fun ds e=>hz ds (by rw [e])
    have hcl:(toV z).cellsL = [toV z]:=by
     cases z with
     | agg ds=>exact absurd rfl (hne ds)
     | gel g o=>simp only [toV]; split <;> rfl
     | ivd x=>simp only [toV]; exact zbV x
     | _=>rfl
    rw [hcl]; simp [zg]
   ·cases h2
theorem zaO:∀ {b:BK} {Bs:List yM} {x:qZ (bkC b)},Yq b Bs = some x->Bs.map zB = (Yf b x).map zB
 | [],[],x,h=>rfl
 | [],_ :: _,x,h=>by simp [Yq] at h
 | [c],[],x,h=>by simp [Yq] at h
 | [c],[B],x,h=>by
  simp only [Yq] at h
  simp only [Yf,List.map_cons,List.map_nil,zfb h]
 | [c],_ :: _ :: _,x,h=>by simp [Yq] at h
 | c :: d :: b,[],x,h=>by simp [Yq] at h
 | c :: d :: b,B :: Bs,x,h=>by
  simp only [Yq] at h
  split at h
  ·rename_i y z hy hz
   cases h
   simp only [Yf,List.map_cons,zfb hy]
   congr 1
   exact zaO hz
  ·cases h
theorem Yr:∀ (b:BK) (x:qZ (bkC b)),(Yf b x).length = b.length
 | [],_=>rfl
 | [c],_=>rfl
 | c :: d :: b,x=>by simp [Yf,Yr (d :: b) x.2]
theorem zdI {s:S} (h:yi s = true):qc (qp s) = true:=by
 cases s <;> simp_all [qp,yi,qc]
theorem zaP:∀ (b:BK) (x:qZ (bkC b)),∀ B ∈ Yf b x,zbx B = true
 | [],_=>by simp [Yf]
 | [c],x=>by
  intro B hB
  simp [Yf] at hB; subst hB
  exact zdI (QG _ _)
 | c :: d :: b,x=>by
  intro B hB
  simp only [Yf,List.mem_cons] at hB
  rcases hB with rfl | hB
  ·exact zdI (QG _ _)
  ·exact zaP (d :: b) x.2 B hB
def FnT (P:Program) (f:FuncId) (ak:List AK) (rs:List C) (g:qZ (ZH ak)->Option (qZ rs)):Prop :=
 ∀ x r,g x = some r->Go.Eng.Fn P f (zg (buildA ak (ZR _ x))) [] (zmA rs r) []
def FnB (P:Program) (f:FuncId) (ak:List AK) (b:BK) (rs:List C) (g:qZ (ZH ak)->qZ (bkC b)->Option (qZ rs × qZ (bkC b))):Prop :=
 ∀ x y r y',g x y = some (r,y')->Go.Eng.Fn P f (zg (buildA ak (ZR _ x))) ((Yf b y).map zB) (zmA rs r) ((Yf b y').map zB)
def XSpec.t {P:Program} (f:FuncId) (ak:List AK) (rs:List C) (g:qZ (ZH ak)->Option (qZ rs)) (hgo:zb3 P f = true) (h:FnT P f ak rs g):XSpec P where
 f:=f
 run:=fun args ins K=>match ins with
  | []=>(match qd ak args with
   | some ds=>(match Ye (ZH ak) ds with
    | some x=>some ((g x).bind fun r=>K (zok rs r) [])
    | none=>none)
   | none=>none)
  | _=>none
 sound:=by
  intro β args ins K r hr
  split at hr
  ·split at hr
   ·rename_i ds hd
    split at hr
    ·rename_i x hx
     simp only [zvO] at hr
     obtain ⟨y,h1,h2⟩:=bind_some hr
     refine ⟨_,_,h2,hgo,?_,zcJ rs y,by simp,rfl⟩
     have hF:=h x y h1
     have e:=YA hx
     rw [<- zbZ] at e
     rw [<- qN ak e,<- Zi hd] at hF
     exact hF
    ·cases hr
   ·cases hr
  ·cases hr
def XSpec.b {P:Program} (f:FuncId) (ak:List AK) (b:BK) (rs:List C) (g:qZ (ZH ak)->qZ (bkC b)->Option (qZ rs × qZ (bkC b))) (hgo:zb3 P f = true) (h:FnB P f ak b rs g):XSpec P where
 f:=f
 run:=fun args ins K=>match qd ak args,Yq b ins with
  | some ds,some y=>(match Ye (ZH ak) ds with
    | some x=>some ((g x y).bind fun r=>K (zok rs r.1) (Yf b r.2))
    | none=>none)
  | _,_=>none
 sound:=by
  intro β args ins K r hr
  split at hr
  ·rename_i ds y hd hy
   split at hr
   ·rename_i x hx
    simp only [zvO] at hr
    obtain ⟨z,h1,h2⟩:=bind_some hr
    have hb:=zaO hy
    refine ⟨_,_,h2,hgo,?_,zcJ rs _,zaP b _,?_⟩
    ·have hF:=h x y z.1 z.2 h1
     have e:=YA hx
     rw [<- zbZ] at e
     rw [<- qN ak e,<- Zi hd,<- hb] at hF
     exact hF
    ·rw [Yr,<- Yr b y]
     have:=congrArg List.length hb
     simpa using this.symm
   ·cases hr
  ·cases hr
theorem FnT.of {P:Program} {X:zeq P} (hm:P.follows .mixedOrders = true) {f:FuncId} {fn:Func} {c:Code} {ak:List AK} {rs:List C} {g:qZ (ZH ak)->Option (qZ rs)} (a:Ann)
  (hf:P.funcs[f]? = some fn) (hb:fn.body = some c) (hok:okX fn.ntmps c a = true) (hsz:ak.length <= fn.ntmps)
  (h:∀ x,zr7 X fn.results.toList c a (buildA ak (ZR _ x)) [] (fun res _=>zb0 rs res) = g x):FnT P f ak rs g:=by
 intro x r hr
 exact zpe (X:=X) hm hf hb hok (Nat.le_trans (Yo _ _) hsz) ((h x).trans hr) (fun res outs hk ho=>⟨ze8 hk,by
  have:outs = []:=zvR ho
  rw [this]; rfl⟩) (ze9 rs r) (by simp) (Nat.le_refl _)
theorem FnB.of {P:Program} {X:zeq P} (hm:P.follows .mixedOrders = true) {f:FuncId} {fn:Func} {c:Code} {ak:List AK} {b:BK} {rs:List C} {g:qZ (ZH ak)->qZ (bkC b)->Option (qZ rs × qZ (bkC b))} (a:Ann)
  (hf:P.funcs[f]? = some fn) (hb:fn.body = some c) (hok:okX fn.ntmps c a = true) (hsz:ak.length <= fn.ntmps)
  (h:∀ x y,zr7 X fn.results.toList c a (buildA ak (ZR _ x)) (Yf b y) (fun res outs=>match zb0 rs res,Yq b outs with | some r,some z=>some (r,z) | _,_=>none) = g x y):FnB P f ak b rs g:=by
 intro x y r y' hr
 refine zpe (X:=X) hm hf hb hok (Nat.le_trans (Yo _ _) hsz) ((h x y).trans hr) (fun res outs hk ho=>?_) (ze9 rs r) ?_ (by simp [Yr])
 ·split at hk
  ·rename_i r' z h1 h2
   cases hk
   exact ⟨ze8 h1,zaO h2⟩
  ·cases hk
 ·intro B hB
  obtain ⟨B',hB',rfl⟩:=List.mem_map.1 hB
  exact zdz (zaP b y' B' hB')
end Go.X
