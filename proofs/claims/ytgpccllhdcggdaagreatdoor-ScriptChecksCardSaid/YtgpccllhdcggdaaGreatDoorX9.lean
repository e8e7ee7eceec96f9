import Derived.Test.YtgpccllhdcggdaaGreatDoorX3
open Bool renaming and_eq_true -> zyL
open Nat renaming eq_of_beq_eq_true -> zyM
open Nat renaming le_of_ble_eq_true -> zyN
open Option.some renaming injEq -> zyO
set_option linter.unusedSimpArgs false
set_option linter.unusedVariables false
namespace Go.X
open Go.Eng
open Go.RowKit
variable {β:Type}
section
variable {P:Program} {code:TypeId->Option C} {ro:RO} {m:Mm} {r:β} {K:S->Option β} {Kp:V->Prop} {K2:S->Tk->Option β} {K2p:V->Tk->Prop}
theorem zlD {s:TypeId} {i:Nat} {x:S} (hK:∀ s,K s = some r->Kp (toV s)) (h:zpy P s i x K = some r):zdf P s i (toV x) Kp:=by
 unfold zpy at h
 unfold zdf
 split at h
 ·rename_i off t cs hf
  simp only [hf,toV]
  split at h
  ·rename_i n ha hs
   simp only [ha,hs]
   have:=hK _ h
   simpa only [toV,YW] using this
  ·rename_i ha
   simp only [ha]
   split at h
   ·rename_i c hc
    simp only [YV,hc,Option.map_some]
    exact hK _ h
   ·cases h
  ·cases h
 ·cases h
theorem zaG {i:Int} {n:Nat} (h:inB i n = true):0 <= i/\i < (n:Int):=by
 simpa [inB] using h
theorem zlE {t:TypeId} {x i:S} (hK:∀ s,K s = some r->Kp (toV s)) (h:zpz P code t x i K = some r):Qe P t (toV x) (toV i) Kp:=by
 have hK':∀ s v,K s = some r->toV s = v->Kp v:=fun s v h e=>e ▸ hK s h
 unfold zpz at h
 split at h
 ·rename_i c l k i
  split at h
  ·rename_i en he
   obtain ⟨e,n⟩:=en
   obtain ⟨e1,e2,rfl⟩:=QR he
   obtain ⟨y,h1,h2⟩:=bind_some h
   obtain ⟨q1,q2,q3⟩:=zb2 h1
   simp only [toV,Qe,e1,e2]
   refine ⟨Zb c l,⟨q1,by simpa using q2⟩,hK' _ _ h2 ?_⟩
   have hg:(l.map (enc c)).getD i.toNat .any = enc c y:=by simp [List.getD,q3]
   rw [hg]
   simp only [toV]
   rw [QQ]
  ·cases h
 ·split at h
  ·rename_i len e ha
   split at h
   ·rename_i n hs
    split at h
    ·have h0:=(ym h).1
     have h9:=(ym h).2
     clear h
     simp only [zyL] at h0
     have hn:=zyM h0.1
     subst hn
     rcases brS h9 with ⟨h1,h2⟩ | ⟨_,h2⟩
     ·simp only [toV,Qe,ha,hs]
      exact ⟨zaG h1,hK' _ _ h2 (by simp [toV])⟩
     ·cases h2
    ·rcases brS h with ⟨h1,h2⟩ | ⟨_,h2⟩
     ·simp only [toV,Qe,ha,hs]
      exact ⟨zaG h1,hK' _ _ h2 (by simp [toV])⟩
     ·cases h2
   ·cases h
  ·cases h
 ·split at h
  ·rename_i len e ha
   split at h
   ·rename_i n hs
    rcases brS h with ⟨h1,h2⟩ | ⟨_,h2⟩
    ·simp only [toV,Qe,ha,hs]
     exact ⟨zaG h1,hK' _ _ h2 (by simp [toV])⟩
    ·cases h2
   ·cases h
  ·cases h
 ·split at h
  ·rename_i len e ha
   split at h
   ·rename_i n vs hs hv
    rcases brS h with ⟨h1,h2⟩ | ⟨_,h2⟩
    ·simp only [toV,hv,Qe,ha,hs]
     exact ⟨zaG h1,hK' _ _ h2 (by simp [toV,hv])⟩
    ·cases h2
   ·cases h
  ·cases h
 ·cases h
theorem zlF {t:TypeId} {x i:S} (hK:∀ s,K s = some r->Kp (toV s)) (h:zpA P code t x i K = some r):zaJ P t (toV x) (toV i) Kp:=by
 have hK':∀ s v,K s = some r->toV s = v->Kp v:=fun s v h e=>e ▸ hK s h
 unfold zpA at h
 split at h
 ·rename_i s k i
  split at h
  ·rename_i hb
   obtain ⟨y,h1,h2⟩:=bind_some h
   simp only [toV,zaJ,hb]
   unfold za7 at h1
   cases hx:idx s i with
   | none=>rw [hx] at h1; cases h1
   | some z =>
    rw [hx] at h1
    cases h1
    obtain ⟨q1,q2,q3⟩:=zb2 hx
    refine ⟨⟨q1,q2⟩,hK' _ _ h2 ?_⟩
    simp [toV,List.getD,q3]
  ·cases h
 ·rename_i cs k i
  split at h
  ·rename_i len e ha
   split at h
   ·rename_i n hs1 hs2
    split at h
    ·rename_i c k' hac
     have h0:=(ym h).1
     have h9:=(ym h).2
     clear h
     have hn:=zyM h0
     subst hn
     rcases brS h9 with ⟨h1,h2⟩ | ⟨_,h2⟩
     ·simp only [toV,zaJ,ha,hs1,hs2]
      refine ⟨zaG h1,?_⟩
      split at h2
      ·rename_i l hl
       obtain ⟨y,h3,h4⟩:=bind_some h2
       obtain ⟨q1,q2,q3⟩:=zb2 h3
       have hget:(zi cs)[i.toNat * 1]? = some (enc c y):=by rw [Qq hl,List.getElem?_map,Nat.mul_one,q3]; rfl
       rw [hget]
       simp only
       rw [<- qz]
       exact hK _ h4
      ·cases h2
     ·cases h2
    ·rcases brS h with ⟨h1,h2⟩ | ⟨_,h2⟩
     ·simp only [toV,zaJ,ha,hs1,hs2]
      refine ⟨zaG h1,?_⟩
      split at h2
      ·rename_i c hc
       simp only [YV,hc,Option.map_some]
       exact hK _ h2
      ·cases h2
     ·cases h2
   ·cases h
  ·cases h
 ·cases h
theorem zqI {place:Nat->Option (Nat × Nat)}:∀ {parts:List (Nat × S)} {cells out:List S},znv place cells parts = some out->zfg place (zi cells) (parts.map fun x=>(x.1,toV x.2)) = some (zi out)
 | [],cells,out,h=>by simp only [znv,zyO] at h; subst h; rfl
 | (i,v) :: rest,cells,out,h=>by
  simp only [znv] at h
  simp only [List.map_cons,zfg]
  split at h
  ·rename_i off size n hp hc
   obtain ⟨h1,h2⟩:=ym h
   simp only [zyL] at h1
   have e1:=zyM h1.1
   have e2:=zyN h1.2
   subst e1
   simp only [hp,za8 hc]
   rw [if_neg (by rw [qf]; omega)]
   have:=zqI h2
   rw [qV,qV,zcn,zcm,zaF hc] at this
   exact this
  ·cases h
theorem zcq {t:TypeId} {s:S} (h:zfF P t = some s):zeroT P t = some (toV s):=by
 unfold zfF at h
 unfold zeroT
 cases hz:(P.info? t).bind (·.zero) with
 | none=>rw [hz] at h; cases h
 | some z=>rw [hz] at h; cases h; simp [ze4]
theorem zlG {t:TypeId} {parts:List (Nat × Operand)} (hK:∀ s,K s = some r->Kp (toV s)) (h:zpB P ro m t parts K = some r):zga P t (zh ro m) parts Kp:=by
 unfold zpB at h
 unfold zga
 split at h
 ·rename_i zv place hz hp
  simp only [zcq hz,hp]
  split at h
  ·rename_i n hc
   split at h
   ·rename_i out hf
    have:=zqI hf
    rw [zaF hc] at this
    have e:(parts.map fun x=>(x.1,evalX ro m x.2)).map (fun x=>(x.1,toV x.2)) = parts.map fun x=>(x.1,(zh ro m).eval x.2):=by
     rw [List.map_map]
     exact List.map_congr_left fun x _=>by simp [zw]
    rw [e] at this
    refine ⟨by rw [za8 hc]; rfl,?_⟩
    rw [this]
    have:=hK _ h
    simpa only [toV] using this
   ·cases h
  ·cases h
 ·cases h
theorem znB {n:Nat}:∀ {ss:List S},zls n ss = true->qL n (zi ss)
 | [],_=>by intro v hv; simp [zi] at hv
 | s :: ss,h=>by
  simp only [zls,zyL] at h
  intro v hv
  simp only [zi,List.mem_cons] at hv
  rcases hv with rfl | hv
  ·have h1:=h.1
   split at h1
   ·rename_i k hk
    rw [za8 hk,zyM h1]
   ·cases h1
  ·exact znB h.2 v hv
theorem ziU {t:TypeId} {len:Nat} {parts:List (Nat × Operand)} {dst:Option Nat} (hK:∀ s tk,K2 s tk = some r->K2p (toV s) tk) (h:zlt P code ro m t len parts dst K2 = some r) :
  zdg P t (zh ro m) len parts dst K2p:=by
 have hK':∀ s tk v,K2 s tk = some r->toV s = v->K2p v tk:=fun s tk v h e=>e ▸ hK s tk h
 have e:zi (parts.map fun x=>evalX ro m x.2) = parts.map fun x=>(zh ro m).eval x.2:=by
  rw [ZM,List.map_map]
  exact List.map_congr_left fun x _=>zw ro m x.2
 unfold zlt at h
 unfold zdg
 split at h
 ·rename_i e' he
  simp only [he]
  split at h
  ·rename_i sz zv hs hz
   simp only [hs,zcq hz]
   split at h
   ·rename_i zn hzn
    obtain ⟨h1,h2⟩:=ym h
    simp only [zyL,Bool.not_eq_true'] at h1
    obtain ⟨⟨⟨⟨a1,a2⟩,a3⟩,a4⟩,a5⟩:=h1
    have a1':sz ≠ 0:=fun e=>by subst e; cases a1
    have a2':=zyM a2
    subst a2'
    refine ⟨⟨a1',za8 hzn,zyM a3,zyN a4,a5⟩,?_⟩
    split at h2
    ·rename_i c hc
     split at h2
     ·rename_i l hl
      obtain ⟨h3,h4⟩:=ym h2
      have h3':=zyM h3
      have hq:=Qq hl
      rw [e] at hq
      rw [hq]
      refine ⟨by rw [<- h3']; exact Zb c l,hK' _ _ _ h4 (by simp [toV])⟩
     ·cases h2
    ·obtain ⟨h3,h4⟩:=ym h2
     rw [<- e]
     exact ⟨znB h3,hK' _ _ _ h4 (by simp [toV])⟩
   ·cases h
  ·cases h
 ·cases h
theorem zpM {x:S} (hK:∀ s,K s = some r->Kp (toV s)) (h:zxa x K = some r):zi4 (toV x) Kp:=by
 have hK':∀ s v,K s = some r->toV s = v->Kp v:=fun s v h e=>e ▸ hK s h
 unfold zxa at h
 split at h
 ·simp only [toV,zi4]; exact hK' _ _ h (by simp [toV])
 ·simp only [toV,zi4]; exact hK' _ _ h (by simp [toV])
 ·split at h
  ·rename_i vs hv
   simp only [toV,hv,zi4]; exact hK' _ _ h (by simp [toV,hv])
  ·cases h
 ·cases h
theorem zpN {t:TypeId} {x:S} (hK:∀ s,K s = some r->Kp (toV s)) (h:zxb P t x K = some r):zi5 P t (toV x) Kp:=by
 have hK':∀ s v,K s = some r->toV s = v->Kp v:=fun s v h e=>e ▸ hK s h
 unfold zxb at h
 split at h
 ·split at h
  ·rename_i e he
   simp only [toV,zi5,he]; exact hK' _ _ h (by simp [toV])
  ·cases h
 ·split at h
  ·rename_i e he
   simp only [toV,zi5,he]; exact hK' _ _ h (by simp [toV,qf])
  ·cases h
 ·split at h
  ·rename_i he
   simp only [toV,zi5,he]; exact hK' _ _ h (by simp [toV])
  ·cases h
 ·cases h
theorem zh4 {b:Builtin} {args:List S} {tys:List TypeId} (hK:∀ s,K s = some r->Kp (toV s)) (h:zhV P b args tys K = some r):Ql P b (zi args) tys Kp:=by
 have hK':∀ s v,K s = some r->toV s = v->Kp v:=fun s v h e=>e ▸ hK s h
 unfold zhV at h
 split at h
 ·simp only [zi,Ql]; exact zpN hK h
 ·obtain ⟨h1,h2⟩:=zb0 h
  simp only [zi,toV,Ql]; exact ⟨h1,hK' _ _ h2 (by simp [toV])⟩
 ·obtain ⟨h1,h2⟩:=zb0 h
  simp only [zi,toV,Ql]; exact ⟨h1,hK' _ _ h2 (by simp [toV])⟩
 ·cases h
theorem ziV {o:Oper} {x:Operand} (hK:∀ s tk,K2 s tk = some r->K2p (toV s) tk) (h:zlu P code ro m o x K2 = some r):zdh P o (zh ro m) x K2p:=by
 have hK':∀ s tk v,K2 s tk = some r->toV s = v->K2p v tk:=fun s tk v h e=>e ▸ hK s tk h
 unfold zlu at h
 unfold zdh
 split at h
 ·split at h
  ·rename_i e he
   simp only [he]
   split at h
   ·exact hK' _ _ _ h (by simp [toV])
   ·exact hK' _ _ _ h (by simp [toV,zi])
  ·rename_i he
   simp only [he]
   exact hK' _ _ _ h (by simp [toV,zi])
 ·rename_i hne
  split
  ·exact absurd rfl hne
  ·have:=hK _ _ h
   rwa [zw,zpI] at this
theorem znC {c a b:S} (hK:∀ s,K s = some r->Kp (toV s)) (h:zuj c a b K = some r):∃ t,toV c = .bool t/\Kp (zp1 t (toV a) (toV b)):=by
 have hK':∀ s v,K s = some r->toV s = v->Kp v:=fun s v h e=>e ▸ hK s h
 unfold zuj at h
 split at h
 ·rename_i t
  refine ⟨t,by simp [toV],?_⟩
  rw [zlT]
  split at h
  ·exact hK' _ _ h (by cases t <;> simp [toV])
  ·obtain ⟨h1,h2⟩:=zb0 h
   subst h1
   exact hK' _ _ h2 (by cases t <;> simp [toV])
  ·exact hK' _ _ h (by cases t <;> simp [toV])
  ·rcases brS h with ⟨h1,h2⟩ | ⟨h1,h2⟩
   ·subst h1; exact hK _ h2
   ·subst h1; exact hK _ h2
 ·cases h
theorem zpO {o:Oper} (hK:∀ s tk,K2 s tk = some r->K2p (toV s) tk) (h:zuk P code ro m o K2 = some r):Zh P o (zh ro m) K2p:=by
 have hK1:∀ s,K2 s none = some r->K2p (toV s) none:=fun s=>hK s none
 unfold zuk at h
 split at h
 ·rename_i x ho
  have:=hK _ _ h
  rw [zw,zpI] at this
  simp only [Zh,ho]; exact this
 ·rename_i ho; simp only [Zh,ho]; exact ziV hK h
 ·rename_i c x y ho
  obtain ⟨t,h1,h2⟩:=znC (Kp:=(K2p · none)) hK1 h
  simp only [Zh,ho]
  rw [<- zw,<- zw,<- zw,h1]
  exact h2
 ·rename_i ho; simp only [Zh,ho]; rw [<- zw]; exact zny (Kp:=(K2p · none)) hK1 h
 ·rename_i ho; simp only [Zh,ho]; rw [<- zw,<- zw]; exact zpL (Kp:=(K2p · none)) hK1 h
 ·rename_i ho; simp only [Zh,ho]; rw [<- zw]; exact zrG (Kp:=(K2p · none)) hK1 h
 ·rename_i ho; simp only [Zh,ho]; rw [<- zw]; exact znA (Kp:=(K2p · none)) hK1 h
 ·rename_i t x ho
  obtain ⟨h1,h2⟩:=ym h
  have:=hK1 _ h2
  simp only [toV] at this
  simp only [Zh,ho]; rw [<- zw]; exact ⟨h1,this⟩
 ·rename_i f first cap ho
  have:=hK1 _ h
  simp only [toV,zb1] at this
  simp only [Zh,ho]; exact this
 ·rename_i ho; simp only [Zh,ho]; rw [<- zw]; exact ziT hK h
 ·rename_i ho; simp only [Zh,ho]; rw [<- zw]; exact zlC (Kp:=(K2p · none)) hK1 h
 ·rename_i ho; simp only [Zh,ho]; rw [<- zw]; exact zlD (Kp:=(K2p · none)) hK1 h
 ·rename_i ho; simp only [Zh,ho]; rw [<- zw,<- zw]; exact zlE (Kp:=(K2p · none)) hK1 h
 ·rename_i ho; simp only [Zh,ho]; rw [<- zw,<- zw]; exact zlF (Kp:=(K2p · none)) hK1 h
 ·rename_i x i ho
  simp only [Zh,ho]; rw [<- zw]
  split at h
  ·rename_i vs hx
   rw [hx]
   split at h
   ·rename_i v hv
    simp only [toV,YV,hv,Option.map_some]
    exact hK1 _ h
   ·cases h
  ·cases h
 ·rename_i ho; simp only [Zh,ho]; exact zlG (Kp:=(K2p · none)) hK1 h
 ·rename_i ho; simp only [Zh,ho]; exact ziU hK h
 ·rename_i ho; simp only [Zh,ho]; rw [<- zw]; exact zpM (Kp:=(K2p · none)) hK1 h
 ·rename_i b args tys ho
  simp only [Zh,ho]; rw [<- zb1]; exact zh4 (Kp:=(K2p · none)) hK1 h
 ·cases h
end
end Go.X
namespace Go.X
open Go.Eng
open Go.RowKit
def pv (x:S × Tk):V × Tk:=(toV x.1,x.2)
mutual
def ltV (n:Nat):V->Bool
 | .loc i _=>decide (i < n)
 | .mref i=>decide (i < n)
 | .agg cs=>ZC n cs
 | .tup cs=>ZC n cs
 | .elt cs _=>ZC n cs
 | .list rows=>ZC n rows
 | .fn _ a b=>ZC n a && ZC n b
 | .iface _ v=>ltV n v
 | _=>true
def ZC (n:Nat):List V->Bool
 | []=>true
 | c :: cs=>ltV n c && ZC n cs
end
mutual
theorem zh5 (n:Nat):∀ v:V,v.noLoc = true->ltV n v = true
 | .loc _ _,h=>by simp [V.noLoc] at h
 | .mref _,h=>by simp [V.noLoc] at h
 | .agg cs,h=>by simp only [V.noLoc] at h; simp only [ltV]; exact ZU n cs h
 | .tup cs,h=>by simp only [V.noLoc] at h; simp only [ltV]; exact ZU n cs h
 | .elt cs _,h=>by simp only [V.noLoc] at h; simp only [ltV]; exact ZU n cs h
 | .list cs,h=>by simp only [V.noLoc] at h; simp only [ltV]; exact ZU n cs h
 | .fn _ a b,h=>by
  simp only [V.noLoc,zyL] at h
  simp only [ltV,zyL]; exact ⟨ZU n a h.1,ZU n b h.2⟩
 | .iface _ v,h=>by simp only [V.noLoc] at h; simp only [ltV]; exact zh5 n v h
 | .any,_=>rfl
 | .un,_=>rfl
 | .int _ _,_=>rfl
 | .bool _,_=>rfl
 | .str _,_=>rfl
 | .nilp,_=>rfl
 | .nilfn,_=>rfl
 | .nilif,_=>rfl
 | .nilm,_=>rfl
 | .ptr _,_=>rfl
theorem ZU (n:Nat):∀ cs:List V,V.noLocL cs = true->ZC n cs = true
 | [],_=>rfl
 | c :: cs,h=>by
  simp only [V.noLocL,zyL] at h
  simp only [ZC,zyL]; exact ⟨zh5 n c h.1,ZU n cs h.2⟩
end
section
variable {w:World} {pr:Nat->Nat->Prop} {lam lam':Nat->Option Nat} {n:Nat}
mutual
theorem zpP (hl:∀ i,n <= i->lam i = none):∀ (v:V) (x:Value),R ⟨w,pr,lam⟩ v x->ltV n v = true
 | .loc i _,_,q=>by
  simp only [R] at q
  obtain ⟨b,e,_⟩:=q
  simp only [ltV,decide_eq_true_eq]
  rcases Nat.lt_or_ge i n with h | h
  ·exact h
  ·exact absurd (hl i h) (by rw [show lam i = some b from e]; simp)
 | .mref i,_,q=>by
  simp only [R] at q
  obtain ⟨b,e,_⟩:=q
  simp only [ltV,decide_eq_true_eq]
  rcases Nat.lt_or_ge i n with h | h
  ·exact h
  ·exact absurd (hl i h) (by rw [show lam i = some b from e]; simp)
 | .agg cs,_,q=>by
  simp only [R] at q; obtain ⟨xs,_,q,_⟩:=q
  simp only [ltV]; exact zjQ hl cs xs q
 | .tup cs,_,q=>by
  simp only [R] at q; obtain ⟨xs,_,q⟩:=q
  simp only [ltV]; exact zjQ hl cs xs q
 | .elt cs _,_,q=>by
  simp only [R] at q; obtain ⟨b,o,_,q⟩:=q
  simp only [ltV]; exact zv6 hl b o cs q
 | .list rows,_,q=>by
  simp only [R] at q; obtain ⟨base,cap,_,_,_,q⟩:=q
  simp only [ltV]
  rcases q with ⟨q,_⟩ | ⟨b,o,k,_,q⟩
  ·subst q; rfl
  ·exact zv7 hl b k o rows q
 | .fn _ a c,_,q=>by
  simp only [R] at q; obtain ⟨xs,ys,_,q1,q2⟩:=q
  simp only [ltV,zyL]; exact ⟨zjQ hl a xs q1,zjQ hl c ys q2⟩
 | .iface _ v,_,q=>by
  simp only [R] at q; obtain ⟨y,_,q⟩:=q
  simp only [ltV]; exact zpP hl v y q
 | .any,_,_=>rfl
 | .un,_,_=>rfl
 | .int _ _,_,_=>rfl
 | .bool _,_,_=>rfl
 | .str _,_,_=>rfl
 | .nilp,_,_=>rfl
 | .nilfn,_,_=>rfl
 | .nilif,_,_=>rfl
 | .nilm,_,_=>rfl
 | .ptr _,_,_=>rfl
theorem zjQ (hl:∀ i,n <= i->lam i = none):∀ (cs:List V) (xs:List Value),RL ⟨w,pr,lam⟩ cs xs->ZC n cs = true
 | [],_,_=>rfl
 | c :: cs,_,q=>by
  simp only [RL] at q; obtain ⟨y,ys,_,q1,q2⟩:=q
  simp only [ZC,zyL]; exact ⟨zpP hl c y q1,zjQ hl cs ys q2⟩
theorem zv6 (hl:∀ i,n <= i->lam i = none) (b:Nat):∀ (o:Nat) (cs:List V),RC ⟨w,pr,lam⟩ b o cs->ZC n cs = true
 | _,[],_=>rfl
 | o,c :: cs,q=>by
  simp only [RC] at q; obtain ⟨⟨y,_,_,q1⟩,q2⟩:=q
  simp only [ZC,zyL]; exact ⟨zpP hl c y q1,zv6 hl b (o + 1) cs q2⟩
theorem zv7 (hl:∀ i,n <= i->lam i = none) (b k:Nat):∀ (o:Nat) (cs:List V),RR ⟨w,pr,lam⟩ b k o cs->ZC n cs = true
 | _,[],_=>rfl
 | o,c :: cs,q=>by
  simp only [RR] at q; obtain ⟨⟨y,q1,_⟩,q2⟩:=q
  simp only [ZC,zyL]; exact ⟨zpP hl c y q1,zv7 hl b k (o + k) cs q2⟩
end
mutual
theorem zfH (hl:∀ i,i < n->lam' i = lam i):∀ (v:V) (x:Value),ltV n v = true->R ⟨w,pr,lam⟩ v x->R ⟨w,pr,lam'⟩ v x
 | .loc i _,_,h,q=>by
  simp only [ltV,decide_eq_true_eq] at h
  simp only [R] at q ⊢
  obtain ⟨b,e,q⟩:=q
  exact ⟨b,(hl i h).trans e,q⟩
 | .mref i,_,h,q=>by
  simp only [ltV,decide_eq_true_eq] at h
  simp only [R] at q ⊢
  obtain ⟨b,e,q⟩:=q
  exact ⟨b,(hl i h).trans e,q⟩
 | .agg cs,_,h,q=>by
  simp only [ltV] at h; simp only [R] at q ⊢
  obtain ⟨xs,e,q,q1⟩:=q
  exact ⟨xs,e,ze5 hl cs xs h q,q1⟩
 | .tup cs,_,h,q=>by
  simp only [ltV] at h; simp only [R] at q ⊢
  obtain ⟨xs,e,q⟩:=q
  exact ⟨xs,e,ze5 hl cs xs h q⟩
 | .elt cs _,_,h,q=>by
  simp only [ltV] at h; simp only [R] at q ⊢
  obtain ⟨b,o,e,q⟩:=q
  exact ⟨b,o,e,zut hl b o cs h q⟩
 | .list rows,_,h,q=>by
  simp only [ltV] at h; simp only [R] at q ⊢
  obtain ⟨base,cap,e1,e2,e3,q⟩:=q
  refine ⟨base,cap,e1,e2,e3,?_⟩
  rcases q with q | ⟨b,o,k,e4,q⟩
  ·exact .inl q
  ·exact .inr ⟨b,o,k,e4,zuu hl b k o rows h q⟩
 | .fn _ a c,_,h,q=>by
  simp only [ltV,zyL] at h; simp only [R] at q ⊢
  obtain ⟨xs,ys,e,q1,q2⟩:=q
  exact ⟨xs,ys,e,ze5 hl a xs h.1 q1,ze5 hl c ys h.2 q2⟩
 | .iface _ v,_,h,q=>by
  simp only [ltV] at h; simp only [R] at q ⊢
  obtain ⟨y,e,q⟩:=q
  exact ⟨y,e,zfH hl v y h q⟩
 | .any,_,_,_=>by simp [R]
 | .un,_,_,q=>by simpa [R] using q
 | .int _ _,_,_,q=>by simpa [R] using q
 | .bool _,_,_,q=>by simpa [R] using q
 | .str _,_,_,q=>by simpa [R] using q
 | .nilp,_,_,q=>by simpa [R] using q
 | .nilfn,_,_,q=>by simpa [R] using q
 | .nilif,_,_,q=>by simpa [R] using q
 | .nilm,_,_,q=>by simpa [R] using q
 | .ptr _,_,_,q=>by simpa [R] using q
theorem ze5 (hl:∀ i,i < n->lam' i = lam i):∀ (cs:List V) (xs:List Value),ZC n cs = true->RL ⟨w,pr,lam⟩ cs xs->RL ⟨w,pr,lam'⟩ cs xs
 | [],_,_,q=>by simpa [RL] using q
 | c :: cs,_,h,q=>by
  simp only [ZC,zyL] at h; simp only [RL] at q ⊢
  obtain ⟨y,ys,e,q1,q2⟩:=q
  exact ⟨y,ys,e,zfH hl c y h.1 q1,ze5 hl cs ys h.2 q2⟩
theorem zut (hl:∀ i,i < n->lam' i = lam i) (b:Nat):∀ (o:Nat) (cs:List V),ZC n cs = true->RC ⟨w,pr,lam⟩ b o cs->RC ⟨w,pr,lam'⟩ b o cs
 | _,[],_,_=>by simp [RC]
 | o,c :: cs,h,q=>by
  simp only [ZC,zyL] at h; simp only [RC] at q ⊢
  obtain ⟨⟨y,e1,e2,q1⟩,q2⟩:=q
  exact ⟨⟨y,e1,e2,zfH hl c y h.1 q1⟩,zut hl b (o + 1) cs h.2 q2⟩
theorem zuu (hl:∀ i,i < n->lam' i = lam i) (b k:Nat):∀ (o:Nat) (cs:List V),ZC n cs = true->RR ⟨w,pr,lam⟩ b k o cs->RR ⟨w,pr,lam'⟩ b k o cs
 | _,[],_,_=>by simp [RR]
 | o,c :: cs,h,q=>by
  simp only [ZC,zyL] at h; simp only [RR] at q ⊢
  obtain ⟨⟨y,q1,e⟩,q2⟩:=q
  exact ⟨⟨y,zfH hl c y h.1 q1,e⟩,zuu hl b k (o + k) cs h.2 q2⟩
end
theorem zv8 (hl:∀ i,n <= i->lam i = none):∀ (cs:List V) (es:List MapEntry),RM ⟨w,pr,lam⟩ cs es->ZC n cs = true
 | [],_,_=>rfl
 | c :: cs,_,q=>by
  simp only [RM] at q
  obtain ⟨k,v,e,es',rfl,_,h3,h4,h5⟩:=q
  simp only [ZC,ltV,zyL,Bool.and_true]
  exact ⟨⟨zpP hl _ _ h3,zpP hl _ _ h4⟩,zv8 hl cs es' h5⟩
theorem zuv (hl:∀ i,i < n->lam' i = lam i):∀ (cs:List V) (es:List MapEntry),ZC n cs = true->RM ⟨w,pr,lam⟩ cs es->RM ⟨w,pr,lam'⟩ cs es
 | [],_,_,q=>by simpa [RM] using q
 | c :: cs,_,h,q=>by
  simp only [RM] at q ⊢
  obtain ⟨k,v,e,es',rfl,h2,h3,h4,h5⟩:=q
  simp only [ZC,ltV,zyL,Bool.and_true] at h
  exact ⟨k,v,e,es',rfl,h2,zfH hl _ _ h.1.1 h3,zfH hl _ _ h.1.2 h4,zuv hl cs es' h.2 h5⟩
theorem zuw {b:Nat} {B:Box} (hl:∀ i,n <= i->lam i = none) (h:Yc ⟨w,pr,lam⟩ b B):ZC n B.cells = true:=by
 rcases Nat.lt_or_ge B.ty QB with q | q
 ·obtain ⟨cur,_,h2,_⟩:=h.cells q
  exact zjQ hl _ _ h2
 ·obtain ⟨es,clock,_,h2,_⟩:=h.map q
  exact zv8 hl _ _ h2
theorem zrI {b:Nat} {B:Box} (hl:∀ i,i < n->lam' i = lam i) (hn:ZC n B.cells = true) (h:Yc ⟨w,pr,lam⟩ b B):Yc ⟨w,pr,lam'⟩ b B:=by
 refine ⟨fun ht=>?_,fun ht=>?_⟩
 ·obtain ⟨cur,h1,h2,h3⟩:=h.cells ht
  exact ⟨cur,h1,ze5 hl _ _ hn h2,h3⟩
 ·obtain ⟨es,clock,h1,h2,h3⟩:=h.map ht
  exact ⟨es,clock,h1,zuv hl _ _ hn h2,h3⟩
end
def Wk (x' x:V × Tk):Prop:=x' = x ∨ x' = (x.1,none) ∨ x' = (.any,none)
theorem zC.weak {P:Program} {F:Fr} {st:St} {a:Act} {w:World} {pr:Nat->Nat->Prop} {lam:Nat->Option Nat} (h:zC P F st a w pr lam) {nb':Nat} {sl':Nat->V × Tk} (hw:∀ s,Wk (sl' s) (st.sl s)) :
  zC P F ⟨nb',sl',st.box⟩ a w pr lam:=by
 have ht:∀ s t e,(sl' s).2 = some (t,e)->st.tok s = some (t,e):=by
  intro s t e hs
  rcases hw s with q | q | q <;> rw [q] at hs
  ·exact hs
  ·cases hs
  ·cases hs
 refine ⟨h.size,h.defers,fun s=>?_,fun s t e hs=>h.own s t e (ht s t e hs),fun s s' t t' e e' g hs hs'=>h.coh s s' t t' e e' g (ht _ _ _ hs) (ht _ _ _ hs'),h.box,h.inj,fun i B b s t e hB hl hs=>h.apart i B b s t e hB hl (ht _ _ _ hs),h.nolam,h.prlt,h.keep,h.prsub,h.prnew,h.lamsub,
  fun s s' t e e' hs hs'=>h.coh2 s s' t e e' (ht _ _ _ hs) (ht _ _ _ hs'),fun s t e hs hc=>?_,fun s s' t e e' b o g hs hs'=>h.ptr s s' t e e' b o g (ht _ _ _ hs) (ht _ _ _ hs')⟩
 rotate_right
 ·have ho:=h.old s t e (ht _ _ _ hs) hc
  show R _ (sl' s).1 _
  change (sl' s).2 = some (t,e) at hs
  rcases hw s with q | q | q
  ·rw [q]; exact ho
  ·rw [q] at hs; cases hs
  ·rw [q] at hs; cases hs
 show R _ (sl' s).1 _
 rcases hw s with q | q | q <;> rw [q]
 ·exact h.env s
 ·exact h.env s
 ·simp [R]
theorem zC.drop {P:Program} {F:Fr} {st:St} {a:Act} {w:World} {pr:Nat->Nat->Prop} {lam:Nat->Option Nat} (h:zC P F st a w pr lam) {n nb':Nat} (h1:∀ s,ltV n (st.sl s).1 = true)
  (h2:∀ i B,i < n->st.box i = some B->ZC n B.cells = true) (h3:∀ i b,F.lam0 i = some b->i < n) :
  zC P F ⟨nb',st.sl,fun i=>if i < n then st.box i else none⟩ a w pr (fun i=>if i < n then lam i else none):=by
 have hl:∀ i,i < n->(fun i=>if i < n then lam i else none) i = lam i:=fun i hi=>if_pos hi
 have hbx:∀ i B,(if i < n then st.box i else none) = some B->i < n/\st.box i = some B:=by
  intro i B hB
  split at hB
  ·exact ⟨‹_›,hB⟩
  ·cases hB
 have hlx:∀ i b,(if i < n then lam i else none) = some b->lam i = some b:=by
  intro i b hB
  split at hB
  ·exact hB
  ·cases hB
 refine ⟨h.size,h.defers,fun s=>zfH hl _ _ (h1 s) (h.env s),h.own,h.coh,fun i B hB=>?_,fun i j B B' b hB hB' q q'=>?_,fun i B b s t e hB q hs=>?_,fun i hi=>?_,h.prlt,h.keep,h.prsub,h.prnew,fun i b hi=>?_,h.coh2,fun s t e hs hc=>zfH hl _ _ (h1 s) (h.old s t e hs hc),h.ptr⟩
 ·obtain ⟨q1,q2⟩:=hbx i B hB
  obtain ⟨b,r1,r2,r3,r4⟩:=h.box i B q2
  exact ⟨b,by rw [<- r1]; exact if_pos q1,zrI hl (h2 i B q1 q2) r2,r3,r4⟩
 ·exact h.inj i j B B' b (hbx i B hB).2 (hbx j B' hB').2 (hlx _ _ q) (hlx _ _ q')
 ·exact h.apart i B b s t e (hbx i B hB).2 (hlx _ _ q) hs
 ·show (if i < n then lam i else none) = none
  by_cases q:i < n
  ·rw [if_pos q]
   have hi':(if i < n then st.box i else none) = none:=hi
   rw [if_pos q] at hi'
   exact h.nolam i hi'
  ·rw [if_neg q]
 ·show (if i < n then lam i else none) = some b
  rw [if_pos (h3 i b hi)]
  exact h.lamsub i b hi
end Go.X
namespace Go.X
open Go.Eng
open Go.RowKit
theorem zh6 {P:Program} (w:World) (d:Nat) (t e:TypeId) (a:Option Addr) (l c:Nat) (h:P.underlying t = some (.slice e)):(Op.equalIn (d + 1) t (.slice a l c) (.slice none 0 0)).run P w = .ok a.isNone w:=by
 cases a <;> simp [Op.equalIn,run_underlying h]
theorem zd5 {P:Program} (w:World) (t e:TypeId) (a:Option Addr) (l c:Nat) (h:P.underlying t = some (.slice e)):(Op.equal t (.slice a l c) (.slice none 0 0)).run P w = .ok a.isNone w:=zh6 w 9999 t e a l c h
theorem zh7 {P:Program} {n':Nat} {o:Oper} {st:St} {K:St->Prop} {op:BinOp} {t u e:TypeId} {x:Operand} {rows:List V} {w:Bool} (ho:o.op = .binOp op t x (.const (.slice none 0 0)) u) (hop:(op = .eql/\w = false) ∨ (op = .neq/\w = true)) (hT:P.underlying t = some (.slice e))
  (hx:st.eval x = .list rows) (hd:∀ d,o.dst = some d->d < n') (hk:∀ b:Bool,(rows ≠ []->b = w)->K (st.put o.dst (.bool b) none)):Y0 P n' o st K:=by
 intro F a w0 pr lam hF h next Q hn
 subst hF
 have h1:=h.eval x
 rw [hx] at h1
 simp only [R] at h1
 obtain ⟨base,cap,e1,_,_,hb⟩:=h1
 have key:∃ b:Bool,(rows ≠ []->b = w)/\(execOp a.eval o).run P w0 = .ok (.value (.bool b)) w0:=by
  have hbase:rows ≠ []->base.isNone = false:=by
   intro hr
   rcases hb with ⟨h1,_⟩ | ⟨b,o',k,rfl,_⟩
   ·exact absurd h1 hr
   ·rfl
  rcases hop with ⟨rfl,rfl⟩ | ⟨rfl,rfl⟩
  ·refine ⟨base.isNone,hbase,?_⟩
   have he:=zd5 w0 t e base rows.length cap hT
   have e2:a.eval (.const (.slice none 0 0)) = .slice none 0 0:=rfl
   simp [execOp,ho,e1,e2,eqGuard,binOp,he]
  ·refine ⟨!base.isNone,fun hr=>by rw [hbase hr]; rfl,?_⟩
   have he:=zd5 w0 t e base rows.length cap hT
   have e2:a.eval (.const (.slice none 0 0)) = .slice none 0 0:=rfl
   simp [execOp,ho,e1,e2,eqGuard,binOp,he]
 obtain ⟨b,h2,hr⟩:=key
 unfold Oper.wp
 rw [hr,Oper.upon_value]
 exact hn _ _ w0 pr lam (hk b h2) (h.put hd (by simp [R]) trivial)
end Go.X
namespace Go.X
open Go.Eng
open Go.RowKit
variable {β:Type}
mutual
theorem zqJ {f g:Nat->Nat}:∀ s:S,(∀ i ∈ ZA s,g (f i) = i)->V.ren g (toV (Y9 f s)) = toV s
 | .any,_=>by simp [toV,Y9,V.ren]
 | .un,_=>by simp [toV,Y9,V.ren]
 | .int _ _,_=>by simp [toV,Y9,V.ren]
 | .bool _,_=>by simp [toV,Y9,V.ren]
 | .str _,_=>by simp [toV,Y9,V.ren]
 | .agg cs,h=>by simp only [Y9,toV,V.ren]; rw [Ys cs (by simpa [ZA] using h)]
 | .tup cs,h=>by simp only [Y9,toV,V.ren]; rw [Ys cs (by simpa [ZA] using h)]
 | .loc i o,h=>by simp only [Y9,toV,V.ren]; rw [h i (by simp [ZA])]
 | .loco i o n ix,h=>by simp only [Y9,toV,V.ren]; rw [h i (by simp [ZA])]
 | .elt cs o,h=>by simp only [Y9,toV,V.ren]; rw [Ys cs (by simpa [ZA] using h)]
 | .gel g' o,_=>by simp only [Y9]; exact V.ren_noLoc _ _ (zjM g' o)
 | .nilp,_=>by simp [toV,Y9,V.ren]
 | .lst c l,_=>by
  simp only [Y9]
  refine V.ren_noLoc _ _ ?_
  simp only [toV,V.noLoc]; exact zL (Qp c) l
 | .rows vs,h=>by simp only [Y9,toV,V.ren]; rw [Ys vs (by simpa [ZA] using h)]
 | .fn f' a b,h=>by
  simp only [Y9,toV,V.ren]
  have h':∀ i,i ∈ yW a ∨ i ∈ yW b->g (f i) = i:=by simpa [ZA] using h
  rw [Ys a (fun i hi=>h' i (.inl hi)),Ys b (fun i hi=>h' i (.inr hi))]
 | .nilfn,_=>by simp [toV,Y9,V.ren]
 | .iface t v,h=>by simp only [Y9,toV,V.ren]; rw [zqJ v (by simpa [ZA] using h)]
 | .nilif,_=>by simp [toV,Y9,V.ren]
 | .mref i,h=>by simp only [Y9,toV,V.ren]; rw [h i (by simp [ZA])]
 | .nilm,_=>by simp [toV,Y9,V.ren]
 | .ptr _ _ _,_=>by simp [toV,Y9,V.ren]
 | .ivd x,_=>by simp only [Y9,toV]; exact V.ren_noLoc _ _ (zhI x)
theorem Ys {f g:Nat->Nat}:∀ cs:List S,(∀ i ∈ yW cs,g (f i) = i)->V.renL g (zi (zaD f cs)) = zi cs
 | [],_=>by simp [zi,zaD,V.renL]
 | c :: cs,h=>by
  simp only [zaD,zi,V.renL]
  have h':∀ i,i ∈ ZA c ∨ i ∈ yW cs->g (f i) = i:=by simpa [yW] using h
  rw [zqJ c (fun i hi=>h' i (.inl hi)),Ys cs (fun i hi=>h' i (.inr hi))]
end
mutual
theorem zb5:∀ s:S,ZA s = []->yk s = true
 | .any,_=>by simp [yk]
 | .un,_=>by simp [yk]
 | .int _ _,_=>by simp [yk]
 | .bool _,_=>by simp [yk]
 | .str _,_=>by simp [yk]
 | .agg cs,h=>by simp only [yk]; exact qb cs (by simpa [ZA] using h)
 | .tup cs,h=>by simp only [yk]; exact qb cs (by simpa [ZA] using h)
 | .loc i o,h=>by simp [ZA] at h
 | .loco i o n ix,h=>by simp [ZA] at h
 | .elt cs o,h=>by simp only [yk]; exact qb cs (by simpa [ZA] using h)
 | .gel g' o,_=>by simp [yk]
 | .nilp,_=>by simp [yk]
 | .lst c l,_=>by simp [yk]
 | .rows vs,h=>by simp only [yk]; exact qb vs (by simpa [ZA] using h)
 | .fn f' a b,h=>by
  have h':yW a = []/\yW b = []:=by simpa [ZA] using h
  simp only [yk,qb a h'.1,qb b h'.2,Bool.and_self]
 | .nilfn,_=>by simp [yk]
 | .iface t v,h=>by simp only [yk]; exact zb5 v (by simpa [ZA] using h)
 | .nilif,_=>by simp [yk]
 | .mref i,h=>by simp [ZA] at h
 | .nilm,_=>by simp [yk]
 | .ptr _ _ _,_=>by simp [yk]
 | .ivd _,_=>by simp [yk]
theorem qb:∀ cs:List S,yW cs = []->qD cs = true
 | [],_=>rfl
 | c :: cs,h=>by
  have h':ZA c = []/\yW cs = []:=by simpa [yW] using h
  simp only [qD,zb5 c h'.1,qb cs h'.2,Bool.and_self]
end
theorem ze6 {l:List Nat} {i:Nat}:l.any (Nat.beq i) = true ↔ i ∈ l:=by
 rw [List.any_eq_true]
 constructor
 ·rintro ⟨x,hx,hb⟩; rw [zyM hb]; exact hx
 ·intro h; exact ⟨i,h,by simp⟩
theorem QS:∀ (l acc:List Nat),acc.Nodup->(YT l acc).Nodup/\(∀ i ∈ acc,i ∈ YT l acc)/\(∀ i ∈ l,i ∈ YT l acc)/\(∀ i ∈ YT l acc,i ∈ l ∨ i ∈ acc)
 | [],acc,h=>⟨h,fun i hi=>hi,fun i hi=>by simp at hi,fun i hi=>.inr hi⟩
 | j :: l,acc,h=>by
  simp only [YT]
  cases hb:acc.any (Nat.beq j) with
  | true =>
   obtain ⟨h1,h2,h3,h4⟩:=QS l acc h
   have hj:=ze6.1 hb
   refine ⟨h1,h2,fun i hi=>?_,fun i hi=>?_⟩
   ·simp at hi; rcases hi with rfl | hi
    ·exact h2 i hj
    ·exact h3 i hi
   ·rcases h4 i hi with h | h
    ·exact .inl (by simp [h])
    ·exact .inr h
  | false =>
   have hj:j ∉ acc:=fun hj=>by rw [ze6.2 hj] at hb; cases hb
   obtain ⟨h1,h2,h3,h4⟩:=QS l (acc++[j]) (by
    rw [List.nodup_append]
    refine ⟨h,by simp,fun a ha b hb=>?_⟩
    simp at hb; subst hb
    exact fun e=>hj (e ▸ ha))
   refine ⟨h1,fun i hi=>h2 i (by simp [hi]),fun i hi=>?_,fun i hi=>?_⟩
   ·simp at hi; rcases hi with rfl | hi
    ·exact h2 _ (by simp)
    ·exact h3 i hi
   ·rcases h4 i hi with h | h
    ·exact .inl (by simp [h])
    ·simp at h; rcases h with h | rfl
     ·exact .inr h
     ·exact .inl (by simp)
theorem zc8:∀ (π:List Nat) (i:Nat),i ∈ π->π[ze0 π i]? = some i
 | x :: xs,i,h=>by
  simp only [ze0]
  cases hb:Nat.beq x i with
  | true=>simp only [cond_true]; rw [zyM hb]; rfl
  | false =>
   simp only [cond_false]
   have hne:i ≠ x:=fun e=>by subst e; simp at hb
   simp [hne] at h
   rw [List.getElem?_cons_succ]
   exact zc8 xs i h
section
variable {P:Program} {X:ze1 P} {ro:RO} {m:Mm} {r:β}
theorem Yt {f:FuncId} {args:List S} {ins:List qg} {K:S->List qg->Option β}:∀ {ss:List (XSpec P)},zaE ss f args ins K = some (some r) ->
  ∃ res outs,K res outs = some r/\zbH P f = true/\Go.Eng.Fn P f (zi args) (ins.map zE) (toV res) (outs.map zE)/\yk res = true/\(∀ B ∈ outs,zbY B = true)/\outs.length = ins.length
 | [],h=>by cases h
 | s :: ss,h=>by
  simp only [zaE] at h
  cases hf:Nat.beq s.f f with
  | false=>rw [hf] at h; exact Yt h
  | true =>
   rw [hf] at h
   simp only [cond_true] at h
   have e:=zyM hf
   cases hr:s.run args ins K with
   | none=>rw [hr] at h; exact Yt h
   | some o =>
    rw [hr] at h
    simp only [zyO] at h
    subst h
    have:=s.sound args ins K r hr
    rwa [e] at this
theorem zgs {i:Nat} {B:qg} (h:zz ro m i = some B) (ho:ro.ownB i = true):i < m.bx.length:=by
 unfold zz at h
 rw [ho] at h
 simp only [cond_true] at h
 cases hq:m.bx[i]? with
 | none=>rw [hq] at h; cases h
 | some _=>exact (List.getElem?_eq_some_iff.1 hq).1
theorem zh8 {a b:Nat} (h:Nat.blt a b = true):a < b:=zyN h
theorem zux {sl:T (S × Tk)} {bx:List (Option qg)} {i j:Nat} {B:qg} (ho:ro.ownB i = true) (hi:i < bx.length):zz ro ⟨sl,bx.set i (some B)⟩ j = if j = i then some B else zz ro ⟨sl,bx⟩ j:=by
 unfold zz
 by_cases h:j = i
 ·subst h; rw [if_pos rfl,ho]; simp [hi]
 ·rw [if_neg h]
  cases hq:ro.ownB j
  ·rfl
  ·simp only [cond_true]
   rw [List.getElem?_set_ne (Ne.symm h)]
theorem zrJ {sl:T (S × Tk)} {bx:List (Option qg)} {j:Nat} {B:qg} (hn:Nat.ble ro.nb bx.length = true):zz ro ⟨sl,bx++[some B]⟩ j = if j = bx.length then some B else zz ro ⟨sl,bx⟩ j:=by
 unfold zz
 by_cases h:j = bx.length
 ·subst h
  have:ro.ownB bx.length = true:=by unfold RO.ownB; rw [hn]; rfl
  rw [if_pos rfl,this]
  simp
 ·rw [if_neg h]
  cases hq:ro.ownB j
  ·rfl
  ·simp only [cond_true]
   rcases Nat.lt_or_ge j bx.length with q | q
   ·rw [List.getElem?_append_left q]
   ·rw [List.getElem?_eq_none (by simp; omega),List.getElem?_eq_none (by omega)]
theorem Q7 {sl:T (S × Tk)} {bx:List (Option qg)} {i:Nat} {B:qg} (ho:ro.ownB i = true) (hi:i < bx.length):zh ro ⟨sl,bx.set i (some B)⟩ = (zh ro ⟨sl,bx⟩).setBox i (zE B):=by
 unfold zh St.setBox
 congr 1
 ·simp
 ·funext j
  unfold upd
  rw [zux ho hi]
  split <;> rfl
theorem zba:∀ {π:List Nat} {ins:List qg},ze2 ro m π = some ins->YJ (zh ro m) π (ins.map zE)/\(∀ i ∈ π,ro.ownB i = true/\i < m.bx.length)
 | [],ins,h=>by simp only [ze2,zyO] at h; subst h; exact ⟨trivial,fun i hi=>by simp at hi⟩
 | i :: π,ins,h=>by
  simp only [ze2] at h
  split at h
  ·rename_i B hB
   obtain ⟨h1,h2⟩:=ym h
   simp only [zyL] at h1
   split at h2
   ·rename_i bs hbs
    cases h2
    obtain ⟨q1,q2⟩:=zba hbs
    refine ⟨⟨⟨?_,zd3 h1.1⟩,q1⟩,fun j hj=>?_⟩
    ·show (zz ro m i).map zE = _
     rw [hB]; rfl
    ·simp at hj
     rcases hj with rfl | hj
     ·exact ⟨h1.2,zgs hB h1.2⟩
     ·exact q2 j hj
   ·cases h2
  ·cases h
theorem zb6:∀ {π:List Nat} {outs:List qg} {bx:List (Option qg)} {sl:T (S × Tk)},π.length = outs.length->(∀ i ∈ π,ro.ownB i = true/\i < bx.length) ->
  zh ro ⟨sl,zhW bx π outs⟩ = (zh ro ⟨sl,bx⟩).setBoxes π (outs.map zE)
 | [],[],bx,sl,_,_=>by simp [zhW,St.setBoxes]
 | [],_ :: _,_,_,h,_=>by simp at h
 | _ :: _,[],_,_,h,_=>by simp at h
 | i :: π,B :: outs,bx,sl,h,ho=>by
  simp only [zhW,List.map_cons,St.setBoxes]
  rw [zb6 (by simpa using h) (fun j hj=>by
   have:=ho j (by simp [hj])
   exact ⟨this.1,by simpa using this.2⟩),Q7 (ho i (by simp)).1 (ho i (by simp)).2]
theorem zbb {m:Mm} (h:Nat.ble ro.nb m.bx.length = true):(zh ro m).box (zh ro m).nb = none:=by
 show (zz ro m m.bx.length).map zE = none
 unfold zz RO.ownB
 rw [h]
 simp
variable {Kp:St->Prop}
theorem znD {dr:Bool} {f:FuncId} {first args cap:List S} {dst:Option Nat} {k:Mm->Option β} (hK:∀ m',k m' = some r->Kp (zh ro m')) (h:zul X ro dr m f args dst k = some r) :
  znQ P f (zi args) (fun v=>Kp ((zh ro m).put dst v none)) ∨ (dr = false/\zki P f (zi args) (zh ro m) dst (Kp)):=by
 unfold zul at h
 split at h
 ·rename_i hd
  split at h
  ·rename_i o ho
   subst h
   obtain ⟨res,outs,h1,h2,h3,h4,h5,h6⟩:=Yt (ss:=X.known) ho
   obtain ⟨m',e,hk⟩:=zR h1
   have ho:outs = []:=List.eq_nil_of_length_eq_zero (by simpa using h6)
   subst ho
   refine .inl ⟨h2,?_,toV res,h3,?_⟩
   rotate_left
   ·have:=hK m' hk; rw [<- e] at this; exact this
   have hl:yW args = []:=by
    cases hq:yW args with
    | nil=>rfl
    | cons i l =>
     have:=(QS (yW args) [] (by simp)).2.2.1 i (by rw [hq]; simp)
     rw [hd] at this; simp at this
   exact Zw _ (qb _ hl)
  ·cases h
 ·rename_i hd
  have hdr:dr = false/\Nat.ble ro.nb m.bx.length = true:=by
   cases dr <;> cases hb:Nat.ble ro.nb m.bx.length <;> rw [hb] at h <;> first | (cases h; done) | exact ⟨rfl,rfl⟩
  obtain ⟨hdr,hnb⟩:=hdr
  subst hdr
  ·rw [hnb] at h
   simp only [Bool.not_true,Bool.or_self,cond_false] at h
   split at h
   ·rename_i ins hins
    split at h
    ·rename_i o ho
     subst h
     obtain ⟨res,outs,h1,h2,h3,h4,h5,h6⟩:=Yt (ss:=X.known) ho
     obtain ⟨m',e,hk⟩:=zR h1
     obtain ⟨b1,b2⟩:=zba hins
     obtain ⟨d1,_,d3,_⟩:=QS (yW args) [] (by simp)
     obtain ⟨l1,l2⟩:=Zm b1
     have hlen:(YT (yW args) []).length = outs.length:=by rw [l1,h6]; simp
     refine .inr ⟨rfl,h2,YT (yW args) [],_,_,_,_,d1,zbb hnb,?_,b1,by simp [h6],?_,zd2 _ h4,h3,?_⟩
     ·rw [Ys]
      intro i hi
      have:=zc8 _ i (d3 i hi)
      simp [List.getD,this]
     ·intro B hB
      obtain ⟨B',hB',rfl⟩:=List.mem_map.1 hB
      exact zd3 (h5 B' hB')
     ·have:=hK m' hk
      rw [<- e,zb6 hlen b2] at this
      exact this
    ·cases h
   ·cases h
theorem zcH {B:qg} {dst:Option Nat} {v:S} {k:Mm->Option β} (hK:∀ m',k m' = some r->Kp (zh ro m')) (h:zgr ro m B dst v k = some r) :
  (zh ro m).box (zh ro m).nb = none/\Kp (({ nb:=m.bx.length + 1,sl:=(zh ro m).sl,box:=upd (zh ro m).box m.bx.length (some (zE B)) }:St).put dst (toV v) none):=by
 unfold zgr at h
 obtain ⟨h1,h2⟩:=ym h
 refine ⟨zbb h1,?_⟩
 obtain ⟨m',e,hk⟩:=zR h2
 have:=hK m' hk
 rw [<- e] at this
 refine (congrArg Kp ?_).mp this
 congr 1
 unfold zh
 congr 1
 ·simp
 ·funext j
  unfold upd
  rw [zrJ h1]
  split <;> rfl
theorem zh9 {e:TypeId} {v:S} {dst:Option Nat} {k:Mm->Option β} (hK:∀ m',k m' = some r->Kp (zh ro m')) (h:zvC ro m e v dst k = some r):zr0 (zh ro m) e (toV v) dst (Kp):=by
 unfold zvC at h
 split at h
 ·rename_i n hn
  obtain ⟨h1,h2⟩:=ym h
  obtain ⟨h3,h4⟩:=zcH hK h2
  refine ⟨?_,by rw [za8 hn]; rfl,h3,?_⟩
  ·exact zh8 h1
  ·have e1:zE (.cells (qP v) e) = ⟨(toV v).cellsL,e⟩:=by simp [zE,zaF hn]
   rw [e1] at h4
   simp only [toV] at h4
   exact h4
 ·cases h
theorem zia {c:C}:∀ (n:Nat) (l:List (den c)) (k:Nat),zi (zd0 c n l k) = (List.range' k n).map fun k=>enc c (l.getD k (dfl c))
 | 0,_,_=>rfl
 | n + 1,l,k=>by
  simp only [zd0,zi,List.range'_succ,List.map_cons,qz]
  rw [zia n l (k + 1)]
theorem zlH {t:TypeId} {x y:S} {dst:Option Nat} {k:Mm->Option β} (hK:∀ m',k m' = some r->Kp (zh ro m')) (h:zpC X ro m t x y dst k = some r):QU P t (zh ro m) (toV x) (toV y) dst (Kp):=by
 unfold zpC at h
 split at h
 ·rename_i i off
  split at h
  ·rename_i cs ty n n' hB hs hy
   obtain ⟨h1,h2⟩:=ym h
   simp only [zyL] at h1
   obtain ⟨⟨⟨a1,a2⟩,a3⟩,a4⟩:=h1
   have a2':=zyM a2
   subst a2'
   have hb:(zh ro m).box i = some ⟨zi cs,ty⟩:=by show (zz ro m i).map zE = _; rw [hB]; rfl
   simp only [toV,QU,hb,hs]
   refine ⟨?_,za8 hy,by rw [qf]; exact zyN a3,trivial,?_⟩
   ·exact zh8 a1
   ·have:=hK _ h2
    rw [Q7 a4 (zgs hB a4)] at this
    simp only [zE,qV,zcn,zcm,zaF hy] at this
    exact this
  ·cases h
 ·rename_i i a n ix
  split at h
  ·rename_i cs ty c z hB hc hz
   split at h
   ·rename_i l v hl hv
    obtain ⟨h1,h2⟩:=ym h
    simp only [zyL] at h1
    obtain ⟨⟨⟨⟨⟨a1,a2⟩,a5⟩,a6⟩,a3⟩,a4⟩:=h1
    have hz1:=zyM a2
    subst hz1
    have hc1:=zyM a5
    have hle:=zyN a3
    obtain ⟨l',h3,h4⟩:=bind_some h2
    unfold putA at h3
    split at h3
    case isFalse=>cases h3
    rename_i hin
    cases h3
    have hb:(zh ro m).box i = some ⟨zi cs,ty⟩:=by show (zz ro m i).map zE = _; rw [hB]; rfl
    have hseg:=Qq hl
    have hlen:l.length = n:=by
     have:=congrArg List.length hseg
     rw [qf,List.length_map,List.length_take,List.length_drop] at this
     omega
    have hvv:toV y = enc c v:=yV hv
    have hcell:(toV y).cellsL = [toV y]:=by cases y <;> first | rfl | (simp only [toV]; exact zco _) | (simp only [toV]; split <;> rfl) | exact absurd a6 (by simp [zv5])
    simp only [toV,QU,hb,hz]
    refine ⟨zh8 a1,by rw [hvv,zjx,hc1],by rw [qf]; omega,trivial,?_⟩
    have:=hK _ h4
    rw [Q7 a4 (zgs hB a4)] at this
    simp only [zE,qV,zcn,zcm,zia,hcell] at this ⊢
    have e:(zi cs).take a++((List.range' 0 n).map fun k=>enc c ((l.set ix.toNat v).getD k (dfl c)))++(zi cs).drop (a + n) = (zi cs).take (a + ix.toNat)++[toV y]++(zi cs).drop (a + ix.toNat + 1):=by
     have hx:ix.toNat < n:=by omega
     have hN:(zi cs).length = cs.length:=qf cs
     refine List.ext_getElem? fun q=>?_
     rw [YW] at hseg
     have hsg:∀ q,q < n->(zi cs)[a + q]? = some (enc c (l.getD q (dfl c))):=by
      intro q hq
      have:(((zi cs).drop a).take n)[q]? = (l.map (enc c))[q]?:=by rw [hseg]
      rw [List.getElem?_take,if_pos hq,List.getElem?_drop,List.getElem?_map] at this
      rw [this,List.getElem?_eq_getElem (by omega),List.getD_eq_getElem?_getD,List.getElem?_eq_getElem (by omega)]
      rfl
     rw [List.append_assoc,List.append_assoc]
     by_cases q1:q < a
     ·rw [List.getElem?_append_left (by simp; omega),List.getElem?_append_left (by simp; omega),List.getElem?_take,List.getElem?_take,if_pos q1,if_pos (by omega)]
     ·rw [List.getElem?_append_right (by simp; omega),List.length_take,Nat.min_eq_left (by omega)]
      by_cases q2:q < a + n
      ·rw [List.getElem?_append_left (by simp; omega),List.getElem?_map,List.getElem?_range' (by omega)]
       simp only [Option.map_some,Nat.zero_add,Nat.one_mul]
       by_cases q3:q = a + ix.toNat
       ·subst q3
        rw [List.getElem?_append_right (by simp; omega),List.length_take,Nat.min_eq_left (by omega)]
        have:a + ix.toNat - a = ix.toNat:=by omega
        rw [this,List.getD_eq_getElem?_getD,List.getElem?_set_self (by omega),hvv]
        simp
       ·have hs':(l.set ix.toNat v).getD (q - a) (dfl c) = l.getD (q - a) (dfl c):=by
         rw [List.getD_eq_getElem?_getD,List.getD_eq_getElem?_getD,List.getElem?_set_ne (by omega)]
        rw [hs',<- hsg (q - a) (by omega)]
        have:a + (q - a) = q:=by omega
        rw [this]
        by_cases q4:q < a + ix.toNat
        ·rw [List.getElem?_append_left (by simp; omega),List.getElem?_take,if_pos q4]
        ·rw [List.getElem?_append_right (by simp; omega),List.length_take,Nat.min_eq_left (by omega),List.getElem?_append_right (by simp; omega),List.getElem?_drop]
         congr 1
         simp; omega
      ·rw [List.getElem?_append_right (by simp; omega),List.getElem?_drop,List.getElem?_append_right (by simp; omega),List.length_take,Nat.min_eq_left (by omega),List.getElem?_append_right (by simp; omega),List.getElem?_drop]
       congr 1
       simp; omega
    rw [e] at this
    exact this
   ·cases h
  ·cases h
 ·cases h
theorem zxg (t:Nat) (x:S × Tk):(toV (zby t x).1,(zby t x).2) = clr t (toV x.1,x.2):=by
 obtain ⟨s,tk⟩:=x
 unfold zby clr
 cases tk with
 | none=>rfl
 | some p =>
  obtain ⟨t',e⟩:=p
  simp only
  by_cases h:t' = t
  ·subst h; simp
  ·have h1:Nat.beq t' t = false:=beqF h
   by_cases h2:t' = t + 3000000
   ·subst h2; simp
   ·have h3:Nat.beq t' (t + 3000000) = false:=beqF h2
    rw [h1,h3]; simp [h,h2]
structure zaH (mu:Bool) (ro:RO):Prop where
 idem:∀ s,qo mu (ro.sl s) = ro.sl s
 tok:∀ s t e,(ro.sl s).2 = some (t,e)->tcl t = 2
 flat:ro.fl = true->∀ s,ro.own s = false->(ro.sl s).2 ≠ none ∨ qk (ro.sl s).1 = true
 boxes:ro.fl = true->∀ i B,ro.ownB i = false->ro.bx i = some B->zbZ B = true
theorem zuy {t:Nat} (ht:tcl t < 2) {x:S × Tk} (h:∀ t' e,x.2 = some (t',e)->tcl t' = 2):zby t x = x:=by
 obtain ⟨s,tk⟩:=x
 unfold zby
 cases tk with
 | none=>rfl
 | some p =>
  obtain ⟨t',e⟩:=p
  have h2:=h t' e rfl
  simp only
  have h1:Nat.beq t' t = false:=beqF (fun e=>by subst e; omega)
  have h3:Nat.beq t' (t + 3000000) = false:=beqF (fun e=>by unfold tcl at *; omega)
  rw [h1,h3]; rfl
theorem zuz {mu:Bool} (hro:zaH mu ro) {t:Nat} (ht:tcl t < 2) (s:Nat):zN ro ⟨m.sl.mapV (zby t),m.bx⟩ s = zby t (zN ro m s):=by
 unfold zN
 cases ro.own s
 ·exact (zuy ht (hro.tok s)).symm
 ·simp only [cond_true]
  rw [T.get_mapV]
  cases m.sl.get s <;> rfl
theorem YF {mu:Bool} (hro:zaH mu ro) {t:Nat} (ht:tcl t < 2):zh ro ⟨m.sl.mapV (zby t),m.bx⟩ = (zh ro m).clear t:=by
 unfold zh St.clear
 congr 1
 funext s
 rw [zuz hro ht]
 exact zxg t _
theorem zfI {mu:Bool} (hro:zaH mu ro) {dr:Bool} {o:Oper} {v:S} {tk:Tk} {k:Mm->Option β} (h:zqF ro m dr o v tk k = some r) :
  ∃ m',zi6 dr o tk/\zj1 o (zh ro m) (toV v) tk = zh ro m'/\k m' = some r:=by
 unfold zqF at h
 unfold zj1 zi6
 cases hcp:yr o with
 | true =>
  rw [hcp] at h
  obtain ⟨m',q1,q2⟩:=zR h
  exact ⟨m',(fun _ h=>by cases h),q1,q2⟩
 | false =>
  rw [hcp] at h
  simp only [cond_false] at h ⊢
  cases tk with
  | none =>
   obtain ⟨m',q1,q2⟩:=zR h
   exact ⟨m',(fun _ _ _ _ h=>by cases h),q1,q2⟩
  | some te =>
   obtain ⟨t,e⟩:=te
   simp only at h
   obtain ⟨h1,h2⟩:=ym h
   simp only [zyL,Bool.or_eq_true] at h1
   obtain ⟨m',q1,q2⟩:=zR h2
   rw [YF hro (zh8 h1.1)] at q1
   refine ⟨m',fun hdr _ t' e' ht=>?_,q1,q2⟩
   cases ht
   have h3:=h1.2
   rw [hdr] at h3
   simp only [Bool.not_true,Bool.false_eq_true,false_or] at h3
   refine ⟨h3.1,?_,zh8 h1.1⟩
   have h3:=h3.2
   split at h3
   ·rename_i d hd
    rw [hd,zyM h3]
   ·cases h3
theorem znE {α:Type} {b:Nat} {l q y:List α} (h:app b l q = some y):(l.length + q.length) * b <= 140737488355328/\y = l++q:=by
 obtain ⟨h1,h2⟩:=zb0 h; cases h2; exact ⟨h1,rfl⟩
theorem ziW {mu:Bool} (hro:zaH mu ro) {ss:Nat} {x:S} {t u:TypeId} {dst:Option Nat} {k:Mm->Option β} (hK:∀ m',k m' = some r->Kp (zh ro m')) (h:zlw (P:=P) ro m ss x t u dst k = some r):YN P (zh ro m) ss (toV x) t u dst (Kp):=by
 unfold zlw at h
 split at h
 ·rename_i c l tk e e' hg ht
  have henv:(zh ro m).env ss = .list (l.map (enc c)):=by show toV (zN ro m ss).1 = _; rw [hg]; simp [toV]
  have htok:(zh ro m).tok ss = some (tk,e):=by show (zN ro m ss).2 = _; rw [hg]
  unfold YN
  simp only [henv,htok,ht]
  split at h
  ·rename_i sz by' zv hs hb hz
   simp only [hs,hb,zcq hz]
   split at h
   ·rename_i zn hzn
    obtain ⟨h1,h2⟩:=ym h
    simp only [zyL,Bool.not_eq_true'] at h1
    obtain ⟨⟨⟨⟨⟨a1,a0⟩,a2⟩,a3⟩,a4⟩,a5⟩:=h1
    have a0':=zh8 a0
    have a1':=zyM a1
    have a3':=zyM a3
    have a4':=zyM a4
    subst a3'
    refine ⟨⟨a1',a0',a2,za8 hzn,fun e=>by subst e; cases a5⟩,by rw [<- a4']; exact Zb c l,?_⟩
    have fin:∀ (l2:List (den c)),((app by' l l2).bind fun r=>ZT ro ⟨m.sl.mapV (zby tk),m.bx⟩ dst (.lst c r) (some (tk,e)) k) = some r ->
      ((l.map (enc c)).length + l2.length) * by' <= 140737488355328/\Kp (((zh ro m).clear tk).put dst (.list (l.map (enc c)++l2.map (enc c))) (some (tk,e))):=by
     intro l2 h
     obtain ⟨y,q1,q2⟩:=bind_some h
     obtain ⟨q3,rfl⟩:=znE q1
     obtain ⟨m',e1,hk⟩:=zR q2
     have:=hK m' hk
     rw [<- e1,YF hro a0'] at this
     refine ⟨by simpa using q3,?_⟩
     simpa [toV] using this
    split at h2
    ·rename_i c' l2
     split at h2
     ·rename_i hc
      subst hc
      obtain ⟨q1,q2⟩:=fin l2 h2
      simp only [toV]
      exact ⟨by rw [<- a4']; exact Zb _ l2,by simpa using q1,q2⟩
     ·cases h2
    ·obtain ⟨q1,q2⟩:=fin [] h2
     simp only [toV,zi]
     exact ⟨fun v hv=>by simp at hv,by simpa using q1,by simpa using q2⟩
    ·rename_i s
     split at h2
     ·rename_i hc
      subst hc
      obtain ⟨q1,q2⟩:=fin (zY s) h2
      simp only [toV]
      refine ⟨a4'.symm,by simpa [zY] using q1,?_⟩
      rwa [znz] at q2
     ·cases h2
    ·cases h2
   ·cases h
  ·cases h
 ·cases h
theorem zib (mu:Bool) (x:S × Tk):qo mu (qo mu x) = qo mu x:=by
 obtain ⟨s,tok⟩:=x
 unfold qo
 cases tok with
 | none =>
  simp only
  cases h:!mu || qk s
  ·simp [qk]
  ·simp [h]
 | some te =>
  obtain ⟨t,e⟩:=te
  simp only
  cases h2:Nat.beq (tcl t) 2
  ·simp only [cond_false]
   cases h:!mu || qk s
   ·simp [qk]
   ·simp [h]
  ·simp [h2]
theorem zic (mu:Bool) (x:S × Tk):Wk (pv (qo mu x)) (pv x):=by
 obtain ⟨s,tok⟩:=x
 unfold qo
 cases tok with
 | none =>
  simp only
  cases h:!mu || qk s
  ·exact .inr (.inr (by simp [pv,toV]))
  ·exact .inl rfl
 | some te =>
  obtain ⟨t,e⟩:=te
  simp only
  cases h2:Nat.beq (tcl t) 2
  ·simp only [cond_false]
   cases h:!mu || qk s
   ·exact .inr (.inr (by simp [pv,toV]))
   ·exact .inr (.inl rfl)
  ·exact .inl rfl
theorem zd6 {mu:Bool} {n:Nat} {x:S × Tk} (h:ltV n (toV x.1) = true):ltV n (toV (qo mu x).1) = true:=by
 rcases zic mu x with q | q | q
 ·have:=congrArg Prod.fst q; simp only [pv] at this; rw [this]; exact h
 ·have:=congrArg Prod.fst q; simp only [pv] at this; rw [this]; exact h
 ·have:=congrArg Prod.fst q; simp only [pv] at this; rw [this]; rfl
theorem zjR {mu:Bool} {x:S × Tk} {t:Nat} {e:TypeId} (h:(qo mu x).2 = some (t,e)):tcl t = 2:=by
 obtain ⟨s,tok⟩:=x
 unfold qo at h
 cases tok with
 | none =>
  simp only at h
  cases hq:!mu || qk s <;> rw [hq] at h <;> cases h
 | some te =>
  obtain ⟨t',e'⟩:=te
  simp only at h
  cases h2:Nat.beq (tcl t') 2
  ·rw [h2] at h
   simp only [cond_false] at h
   cases hq:!mu || qk s <;> rw [hq] at h <;> cases h
  ·rw [h2] at h
   cases h
   exact zyM h2
theorem zid {x:S × Tk}:(qo true x).2 ≠ none ∨ qk (qo true x).1 = true:=by
 obtain ⟨s,tok⟩:=x
 unfold qo
 cases tok with
 | none =>
  simp only [Bool.not_true,Bool.false_or]
  cases h:qk s
  ·exact .inr rfl
  ·exact .inr h
 | some te =>
  obtain ⟨t,e⟩:=te
  simp only [Bool.not_true,Bool.false_or]
  cases h2:Nat.beq (tcl t) 2
  ·simp only [cond_false]
   cases h:qk s
   ·exact .inr rfl
   ·exact .inr h
  ·exact .inl (by simp)
theorem zxh:∀ s:S,qk s = true->(toV s).flat = true/\True:=by
 intro s
 suffices h:∀ s:S,qk s = true->(toV s).flat = true from fun hs=>⟨h s hs,trivial⟩
 intro s
 induction s using S.rec (motive_2:=fun cs=>QO cs = true->V.flatL (zi cs) = true) with
 | any=>intro; simp [toV,V.flat]
 | un=>intro; simp [toV,V.flat]
 | int=>intro; simp [toV,V.flat]
 | bool=>intro; simp [toV,V.flat]
 | str=>intro; simp [toV,V.flat]
 | agg cs ih=>intro h; simp only [qk] at h; simp only [toV,V.flat]; exact ih h
 | tup cs ih=>intro h; simp only [qk] at h; simp only [toV,V.flat]; exact ih h
 | loc=>intro; simp [toV,V.flat]
 | loco=>intro; simp [toV,V.flat]
 | elt cs off ih=>intro h; simp only [qk,List.isEmpty_iff] at h; subst h; simp [toV,zi,V.flat]
 | gel=>intro h; simp [qk] at h
 | nilp=>intro; simp [toV,V.flat]
 | lst=>intro h; simp [qk] at h
 | rows vs ih=>intro h; simp only [qk,List.isEmpty_iff] at h; subst h; simp [toV,zi,V.flat]
 | fn f a b iha ihb =>
  intro h; simp only [qk,zyL] at h
  simp only [toV,V.flat,zyL]; exact ⟨iha h.1,ihb h.2⟩
 | nilfn=>intro; simp [toV,V.flat]
 | iface t v ih=>intro h; simp only [qk] at h; simp only [toV,V.flat]; exact ih h
 | nilif=>intro; simp [toV,V.flat]
 | mref=>intro; simp [toV,V.flat]
 | nilm=>intro; simp [toV,V.flat]
 | ptr=>intro; simp [toV,V.flat]
 | ivd x=>intro; simp only [toV]; cases x <;> simp [zaj,V.flat,V.flatL]
 | nil=>simp [zi,V.flatL]
 | cons c cs ih1 ih2 =>
  rename_i h; simp only [QO,zyL] at h
  simp only [zi,V.flatL,zyL]; exact ⟨ih1 h.1,ih2 h.2⟩
theorem zd7 {s:S} (h:qk s = true):(toV s).flat = true:=(zxh s h).1
theorem zie:∀ {cs:List S},QO cs = true->V.flatL (zi cs) = true
 | [],_=>by simp [zi,V.flatL]
 | c :: cs,h=>by
  simp only [QO,zyL] at h
  simp only [zi,V.flatL,zyL]; exact ⟨zd7 h.1,zie h.2⟩
theorem ziX {c:C} (h:Yq c = true) (x:den c):qk (refl c x) = true:=by
 cases c <;> first | rfl | (simp [Yq] at h)
theorem zbc {c:C} (h:Yq c = true) (x:den c):(enc c x).flat = true:=by
 rw [<- qz]; exact zd7 (ziX h x)
theorem zd8 {c:C} (h:Yq c = true) (l:List (den c)):V.flatL (l.map (enc c)) = true :=
 zgv fun v hv=>by obtain ⟨x,_,rfl⟩:=List.mem_map.1 hv; exact zbc h x
theorem zvG {B:qg} (h:zbZ B = true):V.flatL (zE B).cells = true:=by
 cases B with
 | cells cs ty=>exact zie h
 | map mt kc vc l =>
  simp only [zbZ,zyL] at h
  refine zgv fun v hv=>?_
  obtain ⟨x,_,rfl⟩:=List.mem_map.1 hv
  simp [V.flat,V.flatL,zbc h.1,zbc h.2]
theorem zvH (tk:Nat) {c:C} (l':List (den c)) (x:S × Tk):Wk (pv (zhX tk (.lst c l') x)) (Yx tk (l'.map (enc c)) (pv x)):=by
 obtain ⟨s,tok⟩:=x
 cases tok with
 | none =>
  unfold zhX Yx pv
  simp only
  cases hf:qk s with
  | true=>rw [if_pos (zd7 hf)]; exact .inl rfl
  | false=>exact .inr (.inr (by simp [toV]))
 | some te =>
  obtain ⟨t,e⟩:=te
  unfold zhX Yx pv
  simp only
  by_cases h1:t = tk
  ·subst h1
   simp only [Nat.beq_refl,cond_true,if_true]
   exact .inl (by simp [toV])
  ·have:Nat.beq t tk = false:=beqF h1
   rw [this,if_neg h1]
   simp only [cond_false]
   by_cases h2:tcl t = 2
   ·rw [if_pos h2,h2]; exact .inl rfl
   ·have:Nat.beq (tcl t) 2 = false:=beqF h2
    rw [this,if_neg h2]
    simp only [cond_false]
    cases hf:qk s with
    | true=>rw [if_pos (zd7 hf)]; exact .inl rfl
    | false =>
     simp only [cond_false]
     by_cases h4:tcl t = 0
     ·rw [h4]
      simp only [Nat.beq_refl,cond_true]
      cases s with
      | lst c' l2 =>
       simp only
       cases hcf:Yq c' with
       | false=>exact .inr (.inr (by simp [toV]))
       | true =>
        have htv:toV (S.lst c' l2) = .list (l2.map (enc c')):=by simp [toV]
        rw [htv]
        simp only [cond_true]
        have hfl:=zd8 hcf l2
        by_cases hq:(V.list (l2.map (enc c'))).flat = true
        ·rw [if_pos hq]; exact .inl rfl
        ·rw [if_neg hq,if_pos trivial,if_pos hfl]; exact .inl rfl
      | _=>exact .inr (.inr (by simp [toV]))
     ·have:Nat.beq (tcl t) 0 = false:=beqF h4
      rw [this]
      exact .inr (.inr (by simp [toV]))
theorem ze7 {γ:Type} {A B:Option γ} {r:γ} (h:zhY A B = some r):A = some r/\B = some r:=by
 unfold zhY at h
 split at h
 ·rename_i he
  exact ⟨he.trans h,h⟩
 ·cases h
theorem zjS {α γ:Type} {l:List α} {A B:Option γ} {r:γ} (h:znw l A B = some r):B = some r/\(l = []->A = some r):=by
 unfold znw at h
 split at h
 ·exact ⟨(ze7 h).2,fun _=>(ze7 h).1⟩
 ·exact ⟨h,fun he=>by cases he⟩
theorem zlI {o:Oper} {op:BinOp} {t u:TypeId} {x:Operand} {k:Mm->Option β} (ho:o.op = .binOp op t x (.const (.slice none 0 0)) u) (hK:∀ m',k m' = some r->Kp (zh ro m'))
  (h:zpD (P:=P) ro m op t (evalX ro m x) o.dst k = some (some r)):zfd P o (zh ro m) Kp:=by
 intro n' hd _
 unfold zpD at h
 split at h
 ·rename_i c l e hx he
  simp only [zyO] at h
  obtain ⟨h1,h2⟩:=zjS h
  refine zh7 (rows:=l.map (enc c)) ho (.inl ⟨rfl,rfl⟩) (yF he) (by rw [<- zw,hx]; simp only [toV]) hd fun b hb=>?_
  cases b with
  | false =>
   obtain ⟨m',p1,p2⟩:=zR h1
   rw [show V.bool false = toV (.bool false) from by simp only [toV],p1]
   exact hK m' p2
  | true =>
   have hl:l = []:=by
    apply Classical.byContradiction
    intro hne
    have:=hb (by simpa using hne)
    cases this
   obtain ⟨m',p1,p2⟩:=zR (h2 hl)
   rw [show V.bool true = toV (.bool true) from by simp only [toV],p1]
   exact hK m' p2
 ·rename_i c l e hx he
  simp only [zyO] at h
  obtain ⟨h1,h2⟩:=zjS h
  refine zh7 (rows:=l.map (enc c)) ho (.inr ⟨rfl,rfl⟩) (yF he) (by rw [<- zw,hx]; simp only [toV]) hd fun b hb=>?_
  cases b with
  | true =>
   obtain ⟨m',p1,p2⟩:=zR h1
   rw [show V.bool true = toV (.bool true) from by simp only [toV],p1]
   exact hK m' p2
  | false =>
   have hl:l = []:=by
    apply Classical.byContradiction
    intro hne
    have:=hb (by simpa using hne)
    cases this
   obtain ⟨m',p1,p2⟩:=zR (h2 hl)
   rw [show V.bool false = toV (.bool false) from by simp only [toV],p1]
   exact hK m' p2
 ·cases h
theorem zd9:∀ {ss:List (zlv P)} {f:FuncId} {Q:zlv P},zgq ss f = some Q->Q.f = f
 | [],_,_,h=>by cases h
 | s :: ss,f,Q,h=>by
  simp only [zgq] at h
  cases hb:Nat.beq s.f f with
  | true=>rw [hb] at h; cases h; exact zyM hb
  | false=>rw [hb] at h; exact zd9 h
theorem zpQ {mu:Bool} (hro:zaH mu ro) {o:Oper} {Q:zlv P} {fo:Operand} {args:Array Operand} {tys:Array TypeId} {first cap:List S} {k:Mm->Option β} (ho:o.op = .call { callee:=.value fo,args:=args,argTypes:=tys })
  (hfo:evalX ro m fo = .fn (.func Q.f) first cap) (hK:∀ m',k m' = some r->Kp (zh ro m')) (h:zxc ro m Q (first++args.toList.map (evalX ro m)++cap) o.dst k = some r):zfd P o (zh ro m) Kp:=by
 intro n' hd _
 unfold zxc at h
 obtain ⟨h1,h2⟩:=ym h
 simp only [zyL,List.isEmpty_iff] at h1
 obtain ⟨a1,a2⟩:=h1
 have a2':=zyM a2
 split at h2
 ·rename_i q hq
  obtain ⟨l,hl,h3⟩:=bind_some h2
  subst hl
  obtain ⟨hgo,hF⟩:=Q.sound _ l hq
  obtain ⟨m',p1,p2⟩:=zR h3
  have ea:zi first++args.toList.map (zh ro m).eval++zi cap = zi (first++args.toList.map (evalX ro m)++cap):=by rw [qV,qV,zb1]
  refine YD (fr:=some (0,Q.e)) (tk:=some (o.dst.getD 0,Q.e)) (zsg (first:=zi first) (cap:=zi cap) ho (by rw [<- zw,hfo]; simp only [toV]) hgo (by rw [ea]; exact Zw _ (qb _ a1)) (by rw [ea]; exact hF)) (fun t e he=>by cases he; rw [a2']) hd ?_
  have:=hK m' p2
  rw [<- p1,YF hro (by omega)] at this
  simpa [toV,St.fresh] using this
 ·cases h2
theorem zqK {mu:Bool} (hro:zaH mu ro) (hf:ro.fl = true) {tk:Nat} (htk:tcl tk = 0) (rows:List V) {s:Nat} (hw:ro.own s = false):(∀ e,(ro.sl s).2 ≠ some (tk,e))/\Wk (pv (ro.sl s)) (Yx tk rows (pv (ro.sl s))):=by
 have hfl:=hro.flat hf s hw
 have ht:=hro.tok s
 revert hfl ht
 generalize ro.sl s = z
 intro hfl ht
 obtain ⟨zs,zt⟩:=z
 cases zt with
 | none =>
  refine ⟨fun e h=>(by cases h),?_⟩
  rcases hfl with hfl | hfl
  ·exact absurd rfl hfl
  ·have hfz:=zd7 hfl
   have:Yx tk rows (pv (zs,none)) = pv (zs,none):=by simp [pv,Yx,hfz]
   rw [this]; exact .inl rfl
 | some te =>
  obtain ⟨t7,e7⟩:=te
  have h2:=ht t7 e7 rfl
  have hne:t7 ≠ tk:=fun e=>by subst e; omega
  refine ⟨fun e h=>by cases h; exact hne rfl,?_⟩
  have:Yx tk rows (pv (zs,some (t7,e7))) = pv (zs,some (t7,e7)):=by simp [pv,Yx,hne,h2]
  rw [this]; exact .inl rfl
theorem zuA {mu:Bool} (hro:zaH mu ro) (hf:ro.fl = true) (hb:m.bx.all (fun B=>match B with | some B=>zbZ B | none=>true) = true):∀ j B,(zh ro m).box j = some B->V.flatL B.cells = true:=by
 intro j B hB
 change (zz ro m j).map zE = some B at hB
 cases hq:zz ro m j with
 | none=>rw [hq] at hB; cases hB
 | some B' =>
  rw [hq] at hB
  cases hB
  refine zvG ?_
  unfold zz at hq
  cases hw:ro.ownB j with
  | false=>rw [hw] at hq; exact hro.boxes hf j B' hw hq
  | true =>
   rw [hw] at hq
   simp only [cond_true] at hq
   cases hq2:m.bx[j]? with
   | none=>rw [hq2] at hq; cases hq
   | some ob =>
    rw [hq2] at hq
    simp only [Option.getD_some] at hq
    subst hq
    exact List.all_eq_true.1 hb _ (List.mem_of_getElem? hq2)
theorem zea:∀ {ss:List (ziR P)} {f:FuncId} {Q:ziR P},zgp ss f = some Q->Q.f = f
 | [],_,_,h=>by cases h
 | s :: ss,f,Q,h=>by
  simp only [zgp] at h
  cases hb:Nat.beq s.f f with
  | true=>rw [hb] at h; cases h; exact zyM hb
  | false=>rw [hb] at h; exact zea h
theorem zqL (tk:Nat) (x:S × Tk):Wk (pv (Yz tk x)) (Yy tk (pv x)):=by
 obtain ⟨s,t⟩:=x
 have hk:=zvH tk ([]:List (den .i64)) (s,t)
 unfold Yz Yy
 cases t with
 | none=>exact hk
 | some te =>
  obtain ⟨t,e⟩:=te
  simp only [pv] at hk ⊢
  by_cases h:t = tk
  ·subst h
   simp only [Nat.beq_refl,cond_true,if_true]
   exact .inl (by simp [toV])
  ·have:Nat.beq t tk = false:=by
    cases hq:Nat.beq t tk with
    | true=>exact absurd (zyM hq) h
    | false=>rfl
   rw [this]
   simp only [cond_false,if_neg h]
   exact hk
theorem znF:∀ (l:List S) (i:Nat) (x:S),zi (l.set i x) = (zi l).set i (toV x)
 | [],i,x=>by simp [zi]
 | y :: l,0,x=>by simp [zi]
 | y :: l,i + 1,x=>by simp [zi,znF l i x]
theorem zlJ {mu:Bool} (hro:zaH mu ro) (a4:ro.fl = true) {tk:Nat} (a1':tcl tk = 0):∀ s,Wk ((zh ro ⟨m.sl.mapV (Yz tk),m.bx⟩).sl s) (((zh ro m).dropped tk).sl s):=by
 intro s
 show Wk (pv (zN ro _ s)) (Yy tk (pv (zN ro m s)))
 unfold zN
 cases hw:ro.own s with
 | true =>
  simp only [cond_true]
  rw [T.get_mapV]
  cases m.sl.get s with
  | none =>
   simp only [Option.map_none,Option.getD_none]
   exact .inl (by simp [pv,Yy,Yx,toV,V.flat])
  | some z =>
   simp only [Option.map_some,Option.getD_some]
   exact zqL tk z
 | false =>
  simp only [cond_false]
  obtain ⟨k1,k2⟩:=zqK hro a4 a1' [] hw
  have:Yy tk (pv (ro.sl s)) = Yx tk [] (pv (ro.sl s)):=by
   unfold Yy
   split
   ·rename_i t e' he
    rw [if_neg]
    rintro rfl
    exact k1 e' he
   ·rfl
  rw [this]
  exact k2
theorem zpR {mu:Bool} (hro:zaH mu ro) {o:Oper} {Q:ziR P} {fo:Operand} {args:Array Operand} {tys:Array TypeId} {cap:List S} {k:Mm->Option β} (ho:o.op = .call { callee:=.value fo,args:=args,argTypes:=tys })
  (hfo:evalX ro m fo = .fn (.func Q.f) [] cap) (hK:∀ m',k m' = some r->Kp (zh ro m')) (h:zxd ro m Q args.toList cap o.dst k = some r):zfd P o (zh ro m) Kp:=by
 intro n' hd _
 unfold zxd at h
 split at h
 case h_2=>cases h
 rename_i ss hp
 split at h
 case h_2=>cases h
 rename_i c l tk e hs
 obtain ⟨h1,h2⟩:=ym h
 simp only [zyL] at h1
 obtain ⟨⟨⟨⟨⟨⟨a1,a2⟩,a3⟩,a4⟩,a5⟩,a6⟩,a7⟩:=h1
 have a1':tcl tk = 0:=zyM a1
 have a2':e = Q.e:=zyM a2
 have a3':tcl (o.dst.getD 0) = 0:=zyM a3
 subst a2'
 split at h2
 case h_2=>cases h2
 rename_i ins hins
 split at h2
 case h_2=>cases h2
 rename_i q hq
 subst h2
 obtain ⟨lr,outs,hk,hgo,hF,hno,hlen⟩:=Q.sound _ _ _ _ hq
 obtain ⟨b1,b2⟩:=zba hins
 generalize hA:zcl ro m tk args.toList Q.p (.lst c l) cap = A at hins hq hk hF b1 b2
 obtain ⟨d1,_,d3,_⟩:=QS (yW A) [] (by simp)
 obtain ⟨l1,l2⟩:=Zm b1
 have hlen':(YT (yW A) []).length = outs.length:=by rw [l1,hlen]; simp
 obtain ⟨m',p1,p2⟩:=zR hk
 have hKm:=hK m' p2
 have hwk:∀ s,Wk ((zh ro ⟨m.sl.mapV (Yz tk),m.bx⟩).sl s) (((zh ro m).dropped tk).sl s):=by
  intro s
  show Wk (pv (zN ro _ s)) (Yy tk (pv (zN ro m s)))
  unfold zN
  cases hw:ro.own s with
  | true =>
   simp only [cond_true]
   rw [T.get_mapV]
   cases m.sl.get s with
   | none =>
    simp only [Option.map_none,Option.getD_none]
    exact .inl (by simp [pv,Yy,Yx,toV,V.flat])
   | some z =>
    simp only [Option.map_some,Option.getD_some]
    exact zqL tk z
  | false =>
   simp only [cond_false]
   obtain ⟨k1,k2⟩:=zqK hro a4 a1' [] hw
   have:Yy tk (pv (ro.sl s)) = Yx tk [] (pv (ro.sl s)):=by
    unfold Yy
    split
    ·rename_i t e' he
     rw [if_neg]
     rintro rfl
     exact k1 e' he
    ·rfl
   rw [this]
   exact k2
 have hst1:zh ro ⟨m.sl.mapV (Yz tk),m.bx⟩ = ⟨(zh ro m).nb,(zh ro ⟨m.sl.mapV (Yz tk),m.bx⟩).sl,(zh ro m).box⟩:=rfl
 refine zn1 (st:=zh ro m) (tk:=tk) (ss:=ss) (rows:=l.map (enc c)) (cap:=zi cap) (st1:=zh ro ⟨m.sl.mapV (Yz tk),m.bx⟩) (π:=YT (yW A) []) (args':=zi (zaD (ze0 (YT (yW A) [])) A)) (ins:=ins.map zE) (outs:=outs.map zE) (tn:=o.dst.getD 0)
  ho (by rw [<- zw,hfo]; simp [toV,zi]) hd hgo hp (by show toV (zN ro m ss).1 = _; rw [hs]; simp only [toV]) (by show (zN ro m ss).2 = _; rw [hs]) a1' (zuA hro a4 a5) a3' (fun h=>by rw [hst1]; exact zC.weak h hwk) ?_ (fun _=>rfl) d1 (zbb a7) ?_ b1 (by simp [hlen]) ?_ ?_ (zie a6) hF ?_
 ·intro s t e' hq
  rcases hwk s with w1 | w1 | w1
  ·show (((zh ro m).dropped tk).sl s).2 = _
   rw [<- w1]; exact hq
  ·have:((zh ro ⟨m.sl.mapV (Yz tk),m.bx⟩).sl s).2 = some (t,e'):=hq
   rw [w1] at this; cases this
  ·have:((zh ro ⟨m.sl.mapV (Yz tk),m.bx⟩).sl s).2 = some (t,e'):=hq
   rw [w1] at this; cases this
 ·rw [Ys]
  ·rw [<- hA]
   unfold zcl
   rw [qV]
   congr 1
   rw [znF,zb1]
   simp only [toV]
  ·intro i hi
   have:=zc8 _ i (d3 i hi)
   simp [List.getD,this]
 ·intro B hB
  obtain ⟨B',hB',rfl⟩:=List.mem_map.1 hB
  exact zd3 (hno B' hB')
 ·simp only [V.noLoc]; exact zL (Qp Q.c) lr
 ·rw [<- p1] at hKm
  have e1:=YF (ro:=ro) (m:=⟨m.sl.mapV (Yz tk),zhW m.bx (YT (yW A) []) outs⟩) hro (t:=o.dst.getD 0) (by omega)
  rw [e1,zb6 hlen' b2] at hKm
  simpa [toV] using hKm
theorem znG {mu:Bool} (hro:zaH mu ro) {o:Oper} {s t:TypeId} {ss:Nat} {k:Mm->Option β} (ho:o.op = .convert s t (.tmp ss)) (hK:∀ m',k m' = some r->Kp (zh ro m')) (h:zun (P:=P) ro m s t ss o.dst k = some (some r)) :
  zfd P o (zh ro m) Kp:=by
 intro n' hd _
 unfold zun at h
 split at h
 case h_2=>cases h
 rename_i l0 tk e hs
 have a02:=(ym h).1
 have hh:=(ym h).2
 clear h
 simp only [zyL] at a02
 obtain ⟨a2,a0⟩:=a02
 split at hh
 case h_2=>cases hh
 rename_i x l
 simp only [zyO] at hh
 split at hh
 case h_2=>cases hh
 rename_i e' sz he hbt
 obtain ⟨h1,h2⟩:=ym hh
 simp only [zyL] at h1
 obtain ⟨⟨a1,a5⟩,a6⟩:=h1
 have a0':=zyM a0
 have a1':=zyM a1
 have a2':tcl tk = 0:=zyM a2
 subst a0'
 subst a1'
 obtain ⟨e1,e2,rfl⟩:=QR he
 obtain ⟨m',p1,p2⟩:=zR h2
 have hKm:=hK m' p2
 have hwk:=zlJ (m:=m) hro a5 a2'
 have hst1:zh ro ⟨m.sl.mapV (Yz tk),m.bx⟩ = ⟨(zh ro m).nb,(zh ro ⟨m.sl.mapV (Yz tk),m.bx⟩).sl,(zh ro m).box⟩:=rfl
 refine zqV (st:=zh ro m) (tk:=tk) (ss:=ss) (rows:=(x :: l).map (enc .u8)) (st1:=zh ro ⟨m.sl.mapV (Yz tk),m.bx⟩) ho (by show toV (zN ro m ss).1 = _; rw [hs]; simp only [toV]) (by show (zN ro m ss).2 = _; rw [hs]) a2'
  (yF e1) (Qu hbt) e2 (Zb .u8 (x :: l)) (zd8 (by rfl) (x :: l)) (by simp) (zuA hro a5 a6) (fun h=>by rw [hst1]; exact zC.weak h hwk) ?_ (fun _=>rfl) hd ?_
 ·intro s t' e' hq'
  rcases hwk s with w1 | w1 | w1
  ·show (((zh ro m).dropped tk).sl s).2 = _
   rw [<- w1]; exact hq'
  ·have:((zh ro ⟨m.sl.mapV (Yz tk),m.bx⟩).sl s).2 = some (t',e'):=hq'
   rw [w1] at this; cases this
  ·have:((zh ro ⟨m.sl.mapV (Yz tk),m.bx⟩).sl s).2 = some (t',e'):=hq'
   rw [w1] at this; cases this
 ·rw [<- p1] at hKm
  simpa only [toV] using hKm
theorem ziY {mu:Bool} (hro:zaH mu ro) {o:Oper} {ss:Nat} {x:Operand} {t u:TypeId} {k:Mm->Option β} (ho:o.op = .call { callee:=.builtin .append,args:=#[.tmp ss,x],argTypes:=#[t,u] }) (hK:∀ m',k m' = some r->Kp (zh ro m'))
  (h:zlx (P:=P) ro m ss (evalX ro m x) t u o.dst k = some r):zfd P o (zh ro m) Kp:=by
 intro n' hd _
 unfold zlx at h
 split at h
 case h_2=>cases h
 rename_i c l tk e e' c' y l2 hg ht hx
 split at h
 case h_2=>cases h
 rename_i sz by' zv hs hb hz
 split at h
 case h_2=>cases h
 rename_i zn hzn
 obtain ⟨h1,h2⟩:=ym h
 simp only [zyL,Bool.not_eq_true'] at h1
 obtain ⟨⟨⟨⟨⟨⟨a1,a0⟩,a2⟩,a3⟩,a4⟩,a5⟩,a6⟩:=h1
 have a0':=zh8 a0
 have a1':=zyM a1
 have a3':=zyM a3
 have a4':=zyM a4
 have a6':tcl (o.dst.getD 0) = 0:=zyM a6
 subst a1'
 subst a3'
 split at h2
 case isFalse=>cases h2
 rename_i hc
 subst hc
 obtain ⟨q,q1,q2⟩:=bind_some h2
 obtain ⟨q3,rfl⟩:=znE q1
 obtain ⟨m',e1,hk⟩:=zR q2
 have hKm:=hK m' hk
 have hb0:by' ≠ 0:=fun e=>by subst e; cases a5
 have henv:(zh ro m).env ss = .list (l.map (enc c')):=by show toV (zN ro m ss).1 = _; rw [hg]; simp [toV]
 have htok:(zh ro m).tok ss = some (tk,e):=by show (zN ro m ss).2 = _; rw [hg]
 have hlen:((l.map (enc c')).length + ((y :: l2).map (enc c')).length) * by' <= 140737488355328:=by simpa using q3
 have hmax:(l.map (enc c')).length + ((y :: l2).map (enc c')).length <= maxLen:=by
  have:((l.map (enc c')).length + ((y :: l2).map (enc c')).length) * 1 <= ((l.map (enc c')).length + ((y :: l2).map (enc c')).length) * by':=Nat.mul_le_mul_left _ (Nat.one_le_iff_ne_zero.2 hb0)
  simp only [maxLen]; omega
 refine zfS (st:=zh ro m) (tk:=tk) (ss:=ss) (rows:=l.map (enc c')) (rows2:=(y :: l2).map (enc c')) (tn:=o.dst.getD 0) ho henv htok a0' (yF ht) a2 hs hb (zcq hz) (za8 hzn) (by rw [<- a4']; exact Zb c' l)
  (fun w pr lam xv hxv=>Src.list (by rw [<- zw,hx] at hxv; simpa [toV] using hxv) (by rw [<- a4']; exact Zb c' (y :: l2))) hlen hmax a6' (by simp) hd ?_
 rw [<- e1] at hKm
 have e3:=YF (ro:=ro) (m:=⟨m.sl.mapV (zby tk),m.bx⟩) hro (t:=o.dst.getD 0) (by omega)
 have e4:=YF (ro:=ro) (m:=m) hro (t:=tk) a0'
 rw [e3,e4] at hKm
 simpa [toV] using hKm
theorem zrK {n':Nat} {o:Oper} {st:St} {K:St->Prop} {e:TypeId} {x:Operand} {n:Nat} {v:V} (ho:o.op = .box e x) (hx:st.eval x = v) (hv:v.csize = some n) (hd:∀ d,o.dst = some d->d < n')
  (hk:K (st.put o.dst (.elt v.cellsL 0) none)):Y0 P n' o st K:=by
 refine YD (v:=.elt v.cellsL 0) (fr:=none) (tk:=none) (QV.of_run fun a w pr lam hlt hop _=>?_) (fun _ _ h=>by cases h) hd (by simpa [St.fresh] using hk)
 have q1:=hop x (by simp [ho,Op.operands])
 rw [hx] at q1
 obtain ⟨q2,q3⟩:=q1.cells hv
 have hext:Ext w pr (w.alloc (.cells (a.eval x).cells e)) (fun b o=>pr b o ∨ b = w.heap.size):=Ext.protect w pr _ ((Below.refl _ _).alloc (Nat.le_refl _) _) (DLE.of_eq rfl) _ (fun b o hp=>by rw [hp]; simp)
 refine ⟨.pointer (some ⟨w.heap.size,0,none⟩),_,_,by simp [execOp,ho,Instr.box,zcJ],hext,?_,fun _ _ h=>by cases h⟩
 simp only [R]
 have hg:=heap_alloc_new w (.cells (a.eval x).cells e)
 refine ⟨w.heap.size,0,rfl,RC.of_vals (q2.mono (hext.le hlt.lt)) fun j y hy=>⟨⟨?_,.inr rfl⟩,q3 y (List.mem_of_getElem? hy)⟩⟩
 show World.cell? _ _ = _
 unfold World.cell?
 rw [hg]
 simpa using hy
theorem znH {o:Oper} {e:TypeId} {x:Operand} {k:Mm->Option β} (ho:o.op = .box e x) (hK:∀ m',k m' = some r->Kp (zh ro m')) (h:zuo ro m (evalX ro m x) o.dst k = some r):zfd P o (zh ro m) Kp:=by
 intro n' hd _
 unfold zuo at h
 split at h
 ·rename_i n hn
  refine zrK ho rfl (n:=n) (by rw [<- zw]; exact za8 hn) hd ?_
  rw [<- zw]
  obtain ⟨m',e1,h1⟩:=zR h
  simp only [toV,zaF hn] at e1
  rw [e1]
  exact hK m' h1
 ·cases h
theorem zpS {mu:Bool} (hro:zaH mu ro) {o:Oper} {k:Mm->Option β} (hK:∀ m',k m' = some r->Kp (zh ro m')) (h:zxe X ro o m k = some (some r)):zfd P o (zh ro m) Kp:=by
 unfold zxe at h
 split at h
 ·rename_i e x ho
  obtain ⟨_,h⟩:=ym h
  simp only [zyO] at h
  exact znH ho hK h
 ·rename_i fo args tys ho
  split at h
  ·rename_i f first cap hfo
   split at h
   ·rename_i Q hQ
    simp only [zyO] at h
    obtain rfl:=zd9 hQ
    exact zpQ hro ho hfo hK h
   ·split at h
    ·rename_i Q hQ
     simp only [zyO] at h
     obtain rfl:=zea hQ
     exact zpR hro ho hfo hK h
    ·cases h
  ·cases h
 ·rename_i args tys ho
  have hh:=(ym h).2
  clear h
  split at hh
  ·rename_i ss x t u ha ht
   have ea:args = #[.tmp ss,x]:=by obtain ⟨l⟩:=args; simpa using ha
   have et:tys = #[t,u]:=by obtain ⟨l⟩:=tys; simpa using ht
   subst ea; subst et
   simp only [zyO] at hh
   exact ziY hro ho hK hh
  ·cases hh
 ·rename_i s t ss ho
  exact znG hro ho hK h
 ·rename_i op t x u ho
  exact zlI ho hK h
 ·cases h
theorem zlK {t:TypeId} {dst:Option Nat} {k:Mm->Option β} (hK:∀ m',k m' = some r->Kp (zh ro m')) (h:zpE X ro m t dst k = some r):zp2 (zh ro m) t dst Kp:=by
 unfold zpE at h
 split at h
 ·split at h
  ·obtain ⟨h3,h4⟩:=zcH hK h
   refine ⟨h3,?_⟩
   simp only [toV] at h4
   exact h4
  ·cases h
 ·cases h
theorem zrL {α β:Type} [d:DecidableEq α] {kin:α->Bool} {l:List (α × β)} {k:α} {o:Option β} (h:znr kin l k = some o):kin k = true/\(∀ e ∈ l,kin e.1 = true)/\o = zct l k:=by
 unfold znr at h
 obtain ⟨h1,h2⟩:=ym h
 cases h2
 simp only [zyL,List.all_eq_true] at h1
 exact ⟨h1.1,h1.2,rfl⟩
theorem zrM {α β:Type} [d:DecidableEq α] {kin:α->Bool} {l l':List (α × β)} {k:α} {v:β} (h:zns kin l k v = some l'):kin k = true/\(∀ e ∈ l,kin e.1 = true)/\l' = zfT l k v:=by
 unfold zns at h
 obtain ⟨h1,h2⟩:=ym h
 cases h2
 simp only [zyL,List.all_eq_true] at h1
 exact ⟨h1.1,h1.2,rfl⟩
theorem ziZ {t:TypeId} {mx x:S} {ok:Bool} {K:S->Option β} {K2:V->Prop} (hK:∀ s,K s = some r->K2 (toV s)) (h:zly X ro m t mx x ok K = some r):zdi P t (zh ro m).box (toV mx) (toV x) ok K2:=by
 unfold zly at h
 split at h
 ·rename_i i kt et hT
  split at h
  ·rename_i mt kc vc l hB
   split at h
   ·rename_i ag ks d ag' ks' zv hck hd hkt hz
    split at h
    ·rename_i kk z hk hzv
     obtain ⟨h1,h2⟩:=ym h
     simp only [zyL] at h1
     obtain ⟨⟨h1,h3⟩,h4⟩:=h1
     have h3:=eq_of_beq h3
     have h4:=zlp h4
     subst h3; subst h4
     obtain ⟨o,ho,h2⟩:=bind_some h2
     obtain ⟨g1,g2,rfl⟩:=zrL ho
     have hb:(zh ro m).box i = some ⟨zgF (enc kc) (enc vc) l,1000000000 + mt⟩:=by show (zz ro m i).map zE = _; rw [hB]; rfl
     have ek:=yV hk
     have ez:=yV hzv
     have hget:=zn2 (ev:=enc vc) (znt hd) l kk
     simp only [toV,zdi,hT,hb,hkt,zcq hz]
     refine ⟨Nat.le_add_right 1000000000 mt,X.keyed kt h1,by rw [ek]; exact zgo hck g1,zgG _ fun e he=>zgo hck (g2 e he),?_⟩
     have:=hK _ h2
     rw [ek,ez,hget]
     cases hq:zct l kk with
     | none =>
      rw [hq] at this
      cases ok with
      | true=>simpa [toV,zi,qz] using this
      | false=>simpa [toV,zi,qz] using this
     | some y =>
      rw [hq] at this
      cases ok with
      | true=>simpa [toV,zi,qz] using this
      | false=>simpa [toV,zi,qz] using this
    ·cases h
   ·cases h
  ·cases h
 ·cases h
theorem zi0 {t:TypeId} {mx x y:S} {dst:Option Nat} {k:Mm->Option β} (hK:∀ m',k m' = some r->Kp (zh ro m')) (h:zlz X ro m t mx x y dst k = some r):zbB P t (zh ro m) (toV mx) (toV x) (toV y) dst Kp:=by
 unfold zlz at h
 split at h
 ·rename_i i kt et hT
  split at h
  ·rename_i mt kc vc l hB
   split at h
   ·rename_i ag ks d ag' ks' hck hd hkt
    split at h
    ·rename_i kk v hk hv
     obtain ⟨h1,h2⟩:=ym h
     simp only [zyL] at h1
     obtain ⟨⟨⟨h1,h3⟩,h4⟩,hown⟩:=h1
     have h3:=eq_of_beq h3
     have h4:=zlp h4
     subst h3; subst h4
     obtain ⟨o,ho,h2⟩:=bind_some h2
     obtain ⟨g1,g2,rfl⟩:=zrM ho
     have hb:(zh ro m).box i = some ⟨zgF (enc kc) (enc vc) l,1000000000 + mt⟩:=by show (zz ro m i).map zE = _; rw [hB]; rfl
     have ek:=yV hk
     have ev:=yV hv
     have hput:=zn3 (ev:=enc vc) (znt hd) l kk v
     simp only [toV,zbB,hT,hb,hkt]
     refine ⟨Nat.le_add_right 1000000000 mt,X.keyed kt h1,by rw [ek]; exact zgo hck g1,zgG _ fun e he=>zgo hck (g2 e he),trivial,?_⟩
     have:=hK _ h2
     rw [Q7 hown (zgs hB hown)] at this
     rw [ek,ev,hput]
     exact this
    ·cases h
   ·cases h
  ·cases h
 ·cases h
theorem zjT {mu:Bool} (hro:zaH mu ro) {dr:Bool} {o:Oper} {k:Mm->Option β} (hK:∀ m',k m' = some r->Kp (zh ro m')) (h:opX X ro dr o m k = some r):zfR P dr o (zh ro m) Kp:=by
 unfold opX at h
 split at h
 ·rename_i q hq
  subst h
  cases dr with
  | true=>cases hq
  | false=>exact .inr ⟨rfl,zpS (X:=X) hro hK hq⟩
 left
 split at h
 ·rename_i ho; simp only [ZY,ho]; rw [<- zw]; exact zh9 hK h
 ·rename_i e ho
  simp only [ZY,ho]
  split at h
  ·rename_i v hv; simp only [zcq hv]; exact zh9 hK h
  ·cases h
 ·rename_i ho; simp only [ZY,ho]; rw [<- zw,<- zw]; exact zlH hK h
 ·rename_i args tys ho
  simp only [ZY,ho]
  split at h
  ·rename_i ss x t u ha ht; simp only [ha,ht]; rw [<- zw]; exact ziW hro hK h
  ·cases h
 ·rename_i f args tys ho
  simp only [ZY,ho]
  rw [<- zw]
  split at h
  ·rename_i g first cap hf
   simp only [hf,toV,zgb]
   have:=znD (X:=X) (first:=first) (cap:=cap) hK h
   rw [qV,qV,zb1] at this
   exact this
  ·cases h
 ·rename_i ho; simp only [ZY,ho]; exact zlK (X:=X) hK h
 ·rename_i ho; simp only [ZY,ho]; rw [<- zw,<- zw,<- zw]; exact zi0 (X:=X) hK h
 ·rename_i t mx x ok ho
  simp only [ZY,ho,Zh]
  rw [<- zw,<- zw]
  refine ziZ (X:=X) (K2:=fun v=>zi6 dr o none/\Kp (zj1 o (zh ro m) v none)) (fun s hs=>?_) h
  obtain ⟨m',ht,e,hk⟩:=zfI hro hs
  exact ⟨ht,e ▸ hK m' hk⟩
 ·rename_i n1 n2 n3 n4 n5 n6 n7 n8
  have hv:Zh P o (zh ro m) (fun v tk=>zi6 dr o tk/\Kp (zj1 o (zh ro m) v tk)):=zpO (K2p:=fun v tk=>zi6 dr o tk/\Kp (zj1 o (zh ro m) v tk)) (fun s tk hs=>by
   obtain ⟨m',ht,e,hk⟩:=zfI hro hs
   exact ⟨ht,e ▸ hK m' hk⟩) h
  unfold ZY
  split
  ·rename_i ho; exact absurd ho (n1 _ _)
  ·rename_i ho; exact absurd ho (n2 _)
  ·rename_i ho; exact absurd ho (n3 _ _ _)
  ·rename_i ho; exact absurd ho (n4 _ _)
  ·rename_i t ho; simp [zuk,ho] at h
  ·rename_i t m' x y ho; simp [zuk,ho] at h
  ·rename_i ho; exact absurd ho (n5 _ _ _)
  ·exact hv
end
end Go.X
namespace Go.X
open Go.Eng
open Go.RowKit
variable {β:Type}
section
variable {P:Program} {X:ze1 P} {ro:RO} {r:β} {Kp:St->Prop}
theorem ZV {m:Mm} {t:Nat} {b:Bool} (h:(zN ro m t).1 = .bool b):zh ro (Yr ro m (.tmp t) b) = zh ro m:=by
 unfold Yr
 simp only
 cases ho:ro.own t with
 | false=>rfl
 | true =>
  simp only [cond_true]
  rw [znx ho]
  show (⟨_,upd _ t _,_⟩:St) = zh ro m
  have:upd (zh ro m).sl t (toV (S.bool b),(zN ro m t).2) = (zh ro m).sl:=by
   funext s
   unfold upd
   split
   ·rename_i e; subst e; rw [<- h]; rfl
   ·rfl
  rw [this]
theorem zif {m:Mm} {x:Operand} {b:Bool} (h:evalX ro m x = .bool b):zh ro (Yr ro m x b) = zh ro m:=by
 cases x with
 | tmp t=>exact ZV h
 | const v=>rfl
 | global g=>rfl
 | func f=>rfl
theorem zbd {mu:Bool} (hro:zaH mu ro) {dr:Bool} {ds:List (Option Nat)} {k:Mm->Option β} (hK:∀ m',k m' = some r->Kp (zh ro m')):∀ (os:List Oper) (m:Mm),zpF X ro dr ds os m k = some r->Qz P dr ds os (zh ro m) Kp
 | [],m,h=>hK m h
 | o :: os,m,h=>by
  simp only [zpF] at h
  simp only [Qz]
  left
  have hA:∀ m',zh ro m' = zh ro m->opX X ro dr o m' (fun m'=>zpF X ro dr ds os m' k) = some r->zfR P dr o (zh ro m) fun st'=>Qz P dr ds os st' Kp:=by
   intro m' e h
   rw [<- e]
   exact zjT hro (fun m'' h'=>zbd hro hK os m'' h') h
  have hB:∀ m',zh ro m' = zh ro m->ZT ro m' o.dst .un none (fun m'=>zpF X ro dr ds os m' k) = some r->Qz P dr ds os ((zh ro m).put o.dst .un none) Kp:=by
   intro m' e h
   obtain ⟨m'',e',h'⟩:=zR h
   rw [<- e]
   have:toV S.un = .un:=by simp [toV]
   rw [this] at e'
   rw [e']
   exact zbd hro hK os m'' h'
  unfold gdX at h
  unfold znR
  split at h
  ·rename_i hg
   simp only [hg]
   exact hA m rfl h
  ·rename_i j want hg
   simp only [hg]
   split at h
   ·rename_i d hd
    simp only [hd]
    have he:(zh ro m).env d = toV (zN ro m d).1:=rfl
    rw [he]
    split at h
    ·rename_i b hb
     rw [hb]
     simp only [toV]
     refine ⟨fun hw=>?_,fun hw=>?_⟩
     ·rcases brS h with ⟨q,h⟩ | ⟨q,h⟩
      ·subst q
       have:want = true:=by simpa using hw
       subst this
       exact hA _ (ZV hb) h
      ·subst q
       have:want = false:=by simpa using hw
       subst this
       exact hA _ (ZV hb) h
     ·rcases brS h with ⟨q,h⟩ | ⟨q,h⟩
      ·subst q
       have:want = false:=by simpa using hw
       subst this
       exact hB _ (ZV hb) h
      ·subst q
       have:want = true:=by simpa using hw
       subst this
       exact hB _ (ZV hb) h
    ·rename_i hb
     rw [hb]
     simp only [toV]
     exact hB m rfl h
    ·cases h
   ·rename_i hne
    split
    ·rename_i d hd; exact absurd hd (hne d)
    ·exact hB m rfl h
theorem znI {o:Oper} {m:Mm} {k:Mm->Option β} (hK:∀ m',k m' = some r->Kp (zh ro m')) (h:zup (P:=P) ro o m k = some r):zgC P o (zh ro m) Kp:=by
 unfold zup at h
 unfold zgC
 split at h
 ·rename_i x ho
  simp only [ho]
  obtain ⟨m1,f1,h⟩:=zR h
  have:=hK _ h
  rw [<- f1,zw,zpI] at this
  exact this
 ·rename_i xT x y yT ho
  simp only [ho]
  rw [<- zw,<- zw]
  split at h
  ·rename_i k1 a k2 b h1 h2
   rw [h1,h2]
   simp only [toV]
   split at h
   ·rename_i hk
    obtain ⟨n,hn,h⟩:=bind_some h
    unfold yj at hn
    split at hn
    ·rename_i hin
     cases hn
     obtain ⟨m1,f1,h⟩:=zR h
     have:=hK _ h
     rw [<- f1] at this
     exact ⟨hk,hin,by simpa [toV] using this⟩
    ·cases hn
   ·cases h
  ·cases h
 ·rename_i xT x y yT ho
  simp only [ho]
  rw [<- zw,<- zw]
  split at h
  ·rename_i k1 a k2 b h1 h2
   rw [h1,h2]
   simp only [toV]
   split at h
   ·rename_i hk
    obtain ⟨n,hn,h⟩:=bind_some h
    unfold zf5 at hn
    split at hn
    ·rename_i hin
     cases hn
     obtain ⟨m1,f1,h⟩:=zR h
     have:=hK _ h
     rw [<- f1] at this
     exact ⟨hk,hin,by simpa [toV] using this⟩
    ·cases hn
   ·cases h
  ·cases h
 ·rename_i t x ix ho
  simp only [ho]
  rw [<- zw,<- zw]
  split at h
  ·rename_i c l k1 i h1 h2
   rw [h1,h2]
   simp only [toV]
   split at h
   ·rename_i en he
    obtain ⟨e,n⟩:=en
    obtain ⟨e1,e2,rfl⟩:=QR he
    obtain ⟨y,g1,h⟩:=bind_some h
    obtain ⟨q1,q2,q3⟩:=zb2 g1
    obtain ⟨m1,f1,h⟩:=zR h
    have:=hK _ h
    rw [<- f1] at this
    simp only [e1,e2]
    refine ⟨Zb c l,⟨q1,by simpa using q2⟩,?_⟩
    have hg:(l.map (enc c)).getD i.toNat .any = enc c y:=by simp [List.getD,q3]
    rw [hg]
    simpa only [toV,QQ] using this
   ·cases h
  ·cases h
 ·rename_i t x lo hi ho
  simp only [ho]
  rw [<- zw]
  split at h
  ·rename_i c l h1
   have hs:=zd4 (r:=r) (K2p:=fun v tk=>Kp ((zh ro m).put o.dst v tk)) (fun s tk hk=>by
    obtain ⟨m1,f1,hk⟩:=zR hk
    have:=hK _ hk
    rwa [<- f1] at this) h
   rw [h1]
   simp only [toV] at hs ⊢
   exact hs
  ·cases h
 ·cases h
theorem zjU {γ:Type} {f:Nat->Option γ} {r:γ}:∀ {l:List Nat},zvE f l = some r->∀ j ∈ l,f j = some r
 | [],h,j,hj=>by simp at hj
 | [i],h,j,hj=>by
  simp only [List.mem_singleton] at hj
  subst hj
  exact h
 | i :: i' :: l,h,j,hj=>by
  unfold zvE at h
  obtain ⟨h1,h2⟩:=ze7 h
  rcases List.mem_cons.1 hj with rfl | hj
  ·exact h1
  ·exact zjU h2 j hj
theorem Q8 {mu:Bool} (hro:zaH mu ro) {ops:Array Oper} {k:Mm->Option β} (hK:∀ m',k m' = some r->Kp (zh ro m')):∀ (fuel:Nat) (listed:Array Bool) (m:Mm),zd1 X ro ops (ops.toList.map (·.dst)) fuel listed m k = some r->QA P ops fuel listed (zh ro m) Kp
 | 0,listed,m,h=>by
  unfold zd1 at h
  unfold QA
  split at h
  ·rename_i hr; exact ⟨hr,hK _ h⟩
  ·cases h
 | fuel + 1,listed,m,h=>by
  unfold zd1 at h
  unfold QA
  split at h
  ·rename_i hr; rw [hr]; exact hK _ h
  ·rename_i i is hr
   rw [hr]
   dsimp only at h ⊢
   split at h
   ·rename_i j hj
    rw [hj]
    dsimp only
    split at h
    ·rename_i o ho
     rw [ho]
     exact znI (fun m' h'=>Q8 hro hK fuel _ m' h') h
    ·cases h
   ·rename_i hj
    rw [hj]
    dsimp only
    intro j hjm
    have h:=zjU h j hjm
    split at h
    case h_2=>cases h
    rename_i o ho
    rw [ho]
    dsimp only
    have hA:∀ m',zh ro m' = zh ro m->opX X ro false o m' (fun m'=>zd1 X ro ops (ops.toList.map (·.dst)) fuel (listed.setIfInBounds j true) m' k) = some r->zfR P false o (zh ro m) fun st'=>QA P ops fuel (listed.setIfInBounds j true) st' Kp:=by
     intro m' e h
     rw [<- e]
     exact zjT hro (fun m'' h'=>Q8 hro hK fuel _ m'' h') h
    have hB:∀ m',zh ro m' = zh ro m->ZT ro m' o.dst .un none (fun m'=>zd1 X ro ops (ops.toList.map (·.dst)) fuel (listed.setIfInBounds j true) m' k) = some r->QA P ops fuel (listed.setIfInBounds j true) ((zh ro m).put o.dst .un none) Kp:=by
     intro m' e h
     obtain ⟨m'',e',h'⟩:=zR h
     rw [<- e]
     have:toV S.un = .un:=by simp [toV]
     rw [this] at e'
     rw [e']
     exact Q8 hro hK fuel _ m'' h'
    unfold gdX at h
    unfold znR
    split at h
    ·rename_i hg
     simp only [hg]
     exact hA m rfl h
    ·rename_i j want hg
     simp only [hg]
     split at h
     ·rename_i d hd
      simp only [hd]
      have he:(zh ro m).env d = toV (zN ro m d).1:=rfl
      rw [he]
      split at h
      ·rename_i b hb
       rw [hb]
       simp only [toV]
       refine ⟨fun hw=>?_,fun hw=>?_⟩
       ·rcases brS h with ⟨q,h⟩ | ⟨q,h⟩
        ·subst q
         have:want = true:=by simpa using hw
         subst this
         exact hA _ (ZV hb) h
        ·subst q
         have:want = false:=by simpa using hw
         subst this
         exact hA _ (ZV hb) h
       ·rcases brS h with ⟨q,h⟩ | ⟨q,h⟩
        ·subst q
         have:want = false:=by simpa using hw
         subst this
         exact hB _ (ZV hb) h
        ·subst q
         have:want = true:=by simpa using hw
         subst this
         exact hB _ (ZV hb) h
      ·rename_i hb
       rw [hb]
       simp only [toV]
       exact hB m rfl h
      ·cases h
     ·rename_i hne
      split
      ·rename_i d hd; exact absurd hd (hne d)
      ·exact hB m rfl h
end
end Go.X
namespace Go.X
open Go.Eng
open Go.RowKit
theorem zc9 {σ ρ:Type} {F:σ->Option (zcy σ ρ)} {r:ρ}:∀ {n m:Nat} {s:σ},n <= m->zbv F n s = some r->zbv F m s = some r
 | 0,_,s,_,h=>by cases h
 | n + 1,0,s,hm,h=>by omega
 | n + 1,m + 1,s,hm,h=>by
  unfold zbv at h ⊢
  split at h
  ·exact zc9 (by omega) h
  ·exact h
  ·cases h
theorem Qr {σ ρ:Type} {F:σ->Option (zcy σ ρ)} {s:σ} {r:ρ}:qQ F s = some r ↔ ∃ n,zbv F n s = some r:=by
 unfold qQ
 constructor
 ·intro h
  split at h
  ·rename_i hex
   cases h
   exact hex.choose_spec
  ·cases h
 ·rintro ⟨n,hn⟩
  have hex:∃ r n,zbv F n s = some r:=⟨r,n,hn⟩
  rw [dif_pos hex]
  obtain ⟨n',hn'⟩:=hex.choose_spec
  have h1:=zc9 (Nat.le_max_left n n') hn
  have h2:=zc9 (Nat.le_max_right n n') hn'
  rw [h1] at h2
  exact h2.symm
theorem zgt {σ ρ:Type} (F:σ->Option (zcy σ ρ)) (s:σ):qQ F s = match F s with | some (.next s')=>qQ F s' | some (.done r)=>some r | none=>none:=by
 apply Option.ext
 intro r
 rw [Qr]
 constructor
 ·rintro ⟨n,h⟩
  cases n with
  | zero=>cases h
  | succ n =>
   unfold zbv at h
   split at h
   ·rename_i s' e; rw [e]; exact Qr.2 ⟨n,h⟩
   ·rename_i r' e; rw [e]; exact h
   ·cases h
 ·intro h
  split at h
  ·rename_i s' e
   obtain ⟨n,hn⟩:=Qr.1 h
   exact ⟨n + 1,by unfold zbv; rw [e]; exact hn⟩
  ·rename_i r' e
   exact ⟨1,by unfold zbv; rw [e]; exact h⟩
  ·cases h
theorem zig:∀ (l:List Nat) (a i:Nat),(l.foldl (fun a s=>a ||| (1 <<< s)) a).testBit i = (a.testBit i || decide (i ∈ l))
 | [],a,i=>by simp
 | s :: l,a,i=>by
  rw [List.foldl_cons,zig l]
  rw [Nat.testBit_or,Nat.one_shiftLeft,Nat.testBit_two_pow]
  by_cases h:s = i
  ·subst h; simp
  ·have:¬ i = s:=fun e=>h e.symm
   simp [h,this]
theorem Q9 (l:List Nat) (i:Nat):(zlA l).testBit i = decide (i ∈ l):=by
 unfold zlA; rw [zig]; simp
theorem zrN {a b:Tk} (h:zxf a b = true):a = none ∨ a = b:=by
 cases a with
 | none=>exact .inl rfl
 | some p =>
  cases b with
  | none=>cases h
  | some q =>
   obtain ⟨t,e⟩:=p; obtain ⟨t',e'⟩:=q
   simp only [zxf,zyL] at h
   have h1:=zyM h.1
   have h2:=zyM h.2
   subst h1; subst h2; exact .inr rfl
theorem znJ {ro:RO} {sl:T (S × Tk)} {bx:List (Option qg)} {s0:Nat} {x:S × Tk} (s:Nat):zN ro ⟨sl.set s0 x,bx⟩ s = if s = s0/\ro.own s = true then x else zN ro ⟨sl,bx⟩ s:=by
 unfold zN
 cases ho:ro.own s with
 | false=>simp
 | true =>
  simp only [cond_true,and_true]
  rw [T.get_set]
  split <;> rfl
theorem zaa {ro:RO} {sl:T (S × Tk)} {bx:List (Option qg)} {i j:Nat} {B:qg} (hi:i < bx.length):zz ro ⟨sl,bx.set i (some B)⟩ j = if j = i/\ro.ownB j = true then some B else zz ro ⟨sl,bx⟩ j:=by
 unfold zz
 cases ho:ro.ownB j with
 | false=>simp
 | true =>
  simp only [cond_true,and_true]
  by_cases h:j = i
  ·subst h; simp [hi]
  ·rw [if_neg h,List.getElem?_set_ne (Ne.symm h)]
variable {β:Type}
section
variable {old:Nat->Option qg} {roS roT:RO} {mS:Mm} {n:Nat}
theorem zeb {v:LV} {x:v.ty} {m1:Mm} (hr:ze3 old roS mS v = some x) (hlen:m1.bx.length = n) (hbs:∀ i,yH [v] i = true->i < n) :
  (Zo old m1 v x).bx.length = n/\(∀ s,Wk (pv (zN roT m1 s)) (pv (zN roS mS s))->Wk (pv (zN roT (Zo old m1 v x) s)) (pv (zN roS mS s))) /\
  (∀ i,((zz roT m1 i).map zE = (zz roS mS i).map zE ∨ (yH [v] i = true/\roT.ownB i = true))->(zz roT (Zo old m1 v x) i).map zE = (zz roS mS i).map zE) /\
  (∀ k,(∀ s,ltV k (toV (zN roT m1 s).1) = true)->∀ s,ltV k (toV (zN roT (Zo old m1 v x) s).1) = true) /\
  (∀ k,(∀ i B,zz roT m1 i = some B->ZC k (zE B).cells = true)->∀ i B,zz roT (Zo old m1 v x) i = some B->ZC k (zE B).cells = true):=by
 cases v with
 | slot s0 c tk =>
  simp only [ze3] at hr
  obtain ⟨h1,h2⟩:=ym hr
  have e:=yV h2
  refine ⟨hlen,fun s hs=>?_,fun i hi=>?_,fun k hk s=>?_,fun k hk i B hB=>hk i B hB⟩
  ·simp only [Zo]
   rw [znJ]
   split
   ·rename_i hc
    obtain ⟨rfl,_⟩:=hc
    unfold pv
    simp only
    rw [qz,<- e]
    rcases zrN h1 with q | q
    ·subst q; exact .inr (.inl rfl)
    ·subst q; exact .inl rfl
   ·exact hs
  ·rcases hi with hi | hi
   ·exact hi
   ·simp [yH] at hi
  ·simp only [Zo]
   rw [znJ]
   split
   ·exact zh5 _ _ (by rw [qz]; exact Qp c x)
   ·exact hk s
 | box i0 c =>
  have hi0:i0 < n:=hbs i0 (by simp [yH])
  simp only [ze3] at hr
  split at hr
  ·rename_i cs ty hB
   obtain ⟨h1,h2⟩:=ym hr
   have ht:=zyM h1
   have hcells:zi (qP (refl c x)) = zi cs:=by
    rw [QQ]
    split at h2
    ·rename_i y hy
     cases h2
     have:=yV hy
     simp only [toV] at this
     rw [<- this]; rfl
    ·split at h2
     ·cases h2
     ·rename_i z hz _
      have:=yV h2
      rw [<- this]
      have hne:∀ ds,z ≠ .agg ds:=fun ds e=>hz ds (by rw [e])
      have hcl:(toV z).cellsL = [toV z]:=by
       cases z with
       | agg ds=>exact absurd rfl (hne ds)
       | gel g o=>simp only [toV]; split <;> rfl
       | ivd x=>simp only [toV]; exact zco x
       | _=>rfl
      rw [hcl]; simp [zi]
     ·cases h2
   refine ⟨by simp [Zo,hlen],fun s hs=>hs,fun i hi=>?_,fun k hk s=>hk s,fun k hk i B hB=>?_⟩
   ·simp only [Zo]
    rw [zaa (by omega)]
    split
    ·rename_i hc
     obtain ⟨rfl,_⟩:=hc
     rw [hB]
     simp only [Option.map_some,zE,hcells,ht]
    ·rename_i hne
     rcases hi with hi | ⟨hi,ho⟩
     ·exact hi
     ·simp [yH] at hi
      exact absurd ⟨hi.symm,ho⟩ hne
   ·simp only [Zo] at hB
    rw [zaa (by omega)] at hB
    split at hB
    ·cases hB
     simp only [zE]
     refine ZU _ _ ?_
     rw [QQ]
     have:=Qp c x
     cases he:enc c x <;> rw [he] at this <;> simp_all [V.noLoc,V.cellsL,V.noLocL]
    ·exact hk i B hB
  ·cases hr
 | mapb i0 kc vc =>
  have hi0:i0 < n:=hbs i0 (by simp [yH])
  simp only [ze3] at hr
  split at hr
  ·rename_i mt kc' vc' l hB
   obtain ⟨h1,h2⟩:=ym hr
   have ht:=zyM h1
   split at h2
   ·rename_i hc
    obtain ⟨rfl,rfl⟩:=hc
    cases h2
    refine ⟨by simp [Zo,hlen],fun s hs=>hs,fun i hi=>?_,fun k hk s=>hk s,fun k hk i B hB=>?_⟩
    ·simp only [Zo]
     rw [zaa (by omega)]
     split
     ·rename_i hc
      obtain ⟨rfl,_⟩:=hc
      rw [hB]
      simp only [Option.map_some,zE,ht]
     ·rename_i hne
      rcases hi with hi | ⟨hi,ho⟩
      ·exact hi
      ·simp [yH] at hi
       exact absurd ⟨hi.symm,ho⟩ hne
    ·simp only [Zo] at hB
     rw [zaa (by omega)] at hB
     split at hB
     ·cases hB
      exact ZU _ _ (zh2 l)
     ·exact hk i B hB
   ·cases h2
  ·cases hr
theorem zb7 (v w:LV) (L:List LV) (i:Nat):yH (v :: w :: L) i = (yH [v] i || yH (w :: L) i):=by
 cases v <;> simp [yH]
theorem zih:∀ {L:List LV} {x:zf7 L} {m1:Mm},Q4 old roS mS L = some x->m1.bx.length = n->(∀ i,yH L i = true->i < n) ->
  (Zf old m1 L x).bx.length = n/\((∀ s,Wk (pv (zN roT m1 s)) (pv (zN roS mS s)))->∀ s,Wk (pv (zN roT (Zf old m1 L x) s)) (pv (zN roS mS s))) /\
  (∀ i,((zz roT m1 i).map zE = (zz roS mS i).map zE ∨ (yH L i = true/\roT.ownB i = true))->(zz roT (Zf old m1 L x) i).map zE = (zz roS mS i).map zE) /\
  (∀ k,(∀ s,ltV k (toV (zN roT m1 s).1) = true)->∀ s,ltV k (toV (zN roT (Zf old m1 L x) s).1) = true) /\
  (∀ k,(∀ i B,zz roT m1 i = some B->ZC k (zE B).cells = true)->∀ i B,zz roT (Zf old m1 L x) i = some B->ZC k (zE B).cells = true)
 | [],x,m1,_,hlen,_=>⟨hlen,fun h=>h,fun i hi=>by
   rcases hi with hi | hi
   ·exact hi
   ·simp [yH] at hi,fun k h=>h,fun k h=>h⟩
 | [v],x,m1,hr,hlen,hb=>by
  obtain ⟨h1,h2,h3,h4,h5⟩:=zeb (roT:=roT) hr hlen hb
  exact ⟨h1,fun h s=>h2 s (h s),h3,h4,h5⟩
 | v :: w :: L,x,m1,hr,hlen,hb=>by
  simp only [Q4] at hr
  split at hr
  ·rename_i y z hy hz
   cases hr
   obtain ⟨h1,h2,h3,h4,h5⟩:=zeb (roT:=roT) (m1:=m1) hy hlen (fun i hi=>hb i (by rw [zb7,hi]; rfl))
   obtain ⟨g1,g2,g3,g4,g5⟩:=zih (L:=w :: L) hz h1 (fun i hi=>hb i (by rw [zb7,hi]; simp))
   refine ⟨g1,fun h=>g2 fun s=>h2 s (h s),fun i hi=>g3 i ?_,fun k h=>g4 k (h4 k h),fun k h=>g5 k (h5 k h)⟩
   rcases hi with hi | ⟨hi,ho⟩
   ·exact .inl (h3 i (.inl hi))
   ·rw [zb7,Bool.or_eq_true] at hi
    rcases hi with hi | hi
    ·exact .inl (h3 i (.inr ⟨hi,ho⟩))
    ·exact .inr ⟨hi,ho⟩
  ·cases hr
end
theorem zC.carry {P:Program} {F:Fr} {a:Act} {w:World} {pr:Nat->Nat->Prop} {lam:Nat->Option Nat} {old:Nat->Option qg} {roS roT:RO} {mS m1:Mm} {n:Nat} {L:List LV} {x:zf7 L}
  (h:zC P F (zh roS mS) a w pr lam) (hr:Q4 old roS mS L = some x) (hlen:m1.bx.length = n) (hnT:roT.nb <= n) (hL:∀ i,yH L i = true->i < n)
  (H1:∀ s,Wk (pv (zN roT m1 s)) (pv (zN roS mS s)))
  (H2:∀ i,i < n->(zz roT m1 i).map zE = (zz roS mS i).map zE ∨ (yH L i = true/\roT.ownB i = true))
  (E1:∀ s,ltV n (toV (zN roT m1 s).1) = true) (E2:∀ i B,zz roT m1 i = some B->ZC n (zE B).cells = true) (E3:∀ i b,F.lam0 i = some b->i < n) :
  ∃ lam',zC P F (zh roT (Zf old m1 L x)) a w pr lam':=by
 obtain ⟨g1,g2,g3,g4,g5⟩:=zih (roT:=roT) (m1:=m1) hr hlen hL
 have hw:=zC.weak h (nb':=n) (sl':=(zh roT (Zf old m1 L x)).sl) (fun s=>g2 H1 s)
 have hd:=zC.drop hw (n:=n) (nb':=n) (fun s=>g4 n E1 s) (fun i B hi hB=>?_) E3
 ·refine ⟨_,(congrArg (fun st=>zC P F st a w pr _) ?_).mp hd⟩
  show (⟨n,_,_⟩:St) = zh roT (Zf old m1 L x)
  unfold zh
  rw [g1]
  congr 1
  funext i
  by_cases hi:i < n
  ·rw [if_pos hi]
   exact (g3 i (H2 i hi)).symm
  ·rw [if_neg hi]
   have:zz roT (Zf old m1 L x) i = none:=by
    unfold zz RO.ownB
    have hb:Nat.ble roT.nb i = true:=Nat.ble_eq_true_of_le (by omega)
    rw [hb]
    simp only [cond_true]
    rw [List.getElem?_eq_none (by omega)]; rfl
   rw [this]; rfl
 ·have hB':(zz roS mS i).map zE = some B:=hB
  rw [<- g3 i (H2 i hi)] at hB'
  cases hq:zz roT (Zf old m1 L x) i with
  | none=>rw [hq] at hB'; cases hB'
  | some B' =>
   rw [hq] at hB'
   cases hB'
   exact g5 n E2 i B' hq
theorem zC.below {P:Program} {F:Fr} {a:Act} {w:World} {pr:Nat->Nat->Prop} {lam:Nat->Option Nat} {ro:RO} {m:Mm} (h:zC P F (zh ro m) a w pr lam) (hn:Nat.ble ro.nb m.bx.length = true) :
  (∀ s,ltV m.bx.length (toV (zN ro m s).1) = true)/\(∀ i B,zz ro m i = some B->ZC m.bx.length (zE B).cells = true)/\(∀ i b,F.lam0 i = some b->i < m.bx.length):=by
 have hl:∀ i,m.bx.length <= i->lam i = none:=by
  intro i hi
  refine h.nolam i ?_
  show (zz ro m i).map zE = none
  unfold zz RO.ownB
  have hb:Nat.ble ro.nb i = true:=Nat.ble_eq_true_of_le (Nat.le_trans (zyN hn) hi)
  rw [hb]
  simp only [cond_true]
  rw [List.getElem?_eq_none hi]; rfl
 refine ⟨fun s=>zpP hl _ _ (h.env s),fun i B hB=>?_,fun i b hi=>?_⟩
 ·have hB':(zh ro m).box i = some (zE B):=by show (zz ro m i).map zE = _; rw [hB]; rfl
  obtain ⟨b,q1,q2,_⟩:=h.box i _ hB'
  exact zuw hl q2
 ·rcases Nat.lt_or_ge i m.bx.length with q | q
  ·exact q
  ·have:=h.lamsub i b hi
   rw [hl i q] at this; cases this
end Go.X
namespace Go.X
open Go.Eng
open Go.RowKit
variable {β:Type}
section
variable {P:Program} {n':Nat}
theorem zqM {x y:Code} {st:St} {Q:Exit->St->Prop} (h:AWp P n' x st (zvQ (fun st'=>AWp P n' y st' Q) Q)):AWp P n' (.seq x y) st Q:=by
 intro F a w pr lam hF hs
 refine wp_seq (wp_mono (h F a w pr lam hF hs) ?_)
 rintro e a' w' ⟨st',pr',lam',q,r⟩
 cases e with
 | normal=>exact q F a' w' pr' lam' hF r
 | exit id=>exact ⟨st',pr',lam',q,r⟩
 | goto l=>exact ⟨st',pr',lam',q,r⟩
 | ret=>exact ⟨st',pr',lam',q,r⟩
 | panic c=>exact ⟨st',pr',lam',q,r⟩
 | outgrown=>exact ⟨st',pr',lam',q,r⟩
theorem zrO {id:Nat} {x:Code} {st:St} {Q:Exit->St->Prop} (h:AWp P n' x st (zgA id Q)):AWp P n' (.block id x) st Q:=by
 intro F a w pr lam hF hs
 refine wp_block (wp_mono (h F a w pr lam hF hs) ?_)
 rintro e a' w' ⟨st',pr',lam',q,r⟩
 cases e with
 | exit id' =>
  simp only [zgA] at q
  simp only [Exit.inBlock]
  split at q
  ·rename_i hid; rw [if_pos hid]; exact ⟨st',pr',lam',q,r⟩
  ·rename_i hid; rw [if_neg hid]; exact ⟨st',pr',lam',q,r⟩
 | normal=>exact ⟨st',pr',lam',q,r⟩
 | goto l=>exact ⟨st',pr',lam',q,r⟩
 | ret=>exact ⟨st',pr',lam',q,r⟩
 | panic c=>exact ⟨st',pr',lam',q,r⟩
 | outgrown=>exact ⟨st',pr',lam',q,r⟩
theorem zuB {c:Operand} {x y:Code} {st:St} {Q:Exit->St->Prop} {b:Bool} (hc:st.eval c = .bool b) (h1:b = true->AWp P n' x st Q) (h2:b = false->AWp P n' y st Q):AWp P n' (.cond c x y) st Q:=by
 intro F a w pr lam hF hs
 have hr:=hs.eval c
 rw [hc] at hr
 simp only [R] at hr
 exact wp_cond_split hr (fun ht=>h1 ht F a w pr lam hF hs) (fun hf=>h2 hf F a w pr lam hF hs)
end
theorem zao {old:Nat->Option qg} {roI:RO} {mI m1:Mm} {e:EX} {k:Exit->Mm->Option β} {r:β}:∀ {es:List (EX × List LV)} {w:zry es},Q5 old roI mI e es = some w->QP old m1 k es w = some r ->
  ∃ L,∃ x:zf7 L,(∃ e',(e',L) ∈ es)/\Q4 old roI mI L = some x/\k e.to (Zf old m1 L x) = some r
 | [],w,h,_=>by cases h
 | [(e0,L)],w,h,hk=>by
  simp only [Q5] at h
  obtain ⟨h1,h2⟩:=ym h
  have he:e0 = e:=by
   cases e0 <;> cases e <;> simp only [EX.beq,Bool.false_eq_true] at h1
   ·rw [zyM h1]
   ·rfl
   ·rfl
  subst he
  exact ⟨L,w,⟨e0,by simp⟩,h2,hk⟩
 | (e0,L) :: f :: es,w,h,hk=>by
  simp only [Q5] at h
  cases hb:e0.beq e with
  | true =>
   rw [hb] at h
   simp only [cond_true] at h
   have he:e0 = e:=by
    cases e0 <;> cases e <;> simp only [EX.beq,Bool.false_eq_true] at hb
    ·rw [zyM hb]
    ·rfl
    ·rfl
   subst he
   split at h
   ·rename_i x hx
    cases h
    simp only [QP,Sum.elim_inl] at hk
    exact ⟨L,x,⟨e0,by simp⟩,hx,hk⟩
   ·cases h
  | false =>
   rw [hb] at h
   simp only [cond_false] at h
   split at h
   ·rename_i x hx
    cases h
    simp only [QP,Sum.elim_inr] at hk
    obtain ⟨L',y,⟨e',q1⟩,q2,q3⟩:=zao (es:=f :: es) hx hk
    exact ⟨L',y,⟨e',List.mem_cons_of_mem _ q1⟩,q2,q3⟩
   ·cases h
theorem EX.of_to {ex:Exit} {e:EX} (h:EX.of ex = some e):e.to = ex:=by
 cases ex <;> simp only [EX.of,zyO,reduceCtorEq] at h <;> subst h <;> rfl
theorem EX.ofJ_to {ex:Exit} {e:EX} (h:EX.ofJ ex = some e):e.to = ex:=by
 cases ex <;> simp only [EX.ofJ,zyO,reduceCtorEq] at h <;> subst h <;> rfl
theorem zb8:∀ (l:List Nat) (sl:T (S × Tk)) (s:Nat),(zhZ sl l).get s = if s ∈ l then some (.any,none) else sl.get s
 | [],sl,s=>by simp [zhZ]
 | x :: l,sl,s=>by
  simp only [zhZ]
  rw [zb8 l,T.get_set]
  by_cases h1:s ∈ l
  ·simp [h1]
  ·by_cases h2:s = x
   ·subst h2; simp
   ·simp [h1,h2]
def okX (n':Nat):Code->Ann->Bool
 | .region id ops draw,a=>bif draw && a.isFull then ops.toList.all (Qx n') && Region.noSelect ops else zab n' [] (.region id ops draw)
 | .seq x y,a=>okX n' x a.l.inn && okX n' y a.r.un
 | .cond _ x y,a=>okX n' x a.l && okX n' y a.r
 | .block _ b,a=>okX n' b a
 | .loop b,.loop _ _ _ _ a=>okX n' b a
 | _,_=>true
theorem Zp:∀ {L:List LV} {i:Nat},yH L i = true->i ∈ Z5 L
 | [],i,h=>by simp [yH] at h
 | .slot _ _ _ :: L,i,h=>Zp (L:=L) h
 | .box j _ :: L,i,h=>by
  simp only [yH,Bool.or_eq_true] at h
  rcases h with h | h
  ·rw [zyM h]; simp [Z5]
  ·simp [Z5,Zp h]
 | .mapb j _ _ :: L,i,h=>by
  simp only [yH,Bool.or_eq_true] at h
  rcases h with h | h
  ·rw [zyM h]; simp [Z5]
  ·simp [Z5,Zp h]
section
variable {P:Program} {X:ze1 P}
theorem zpT {ro:RO} {m:Mm} {mu:Bool} (hro:zaH mu ro) (ops:Array Oper):zvR ops (zh ro ⟨m.sl.mapV (ziS ((ops.toList.filter Qw).map (·.dst))),m.bx⟩):=by
 intro s t e ht h2 o ho hno hd
 have ht':(zN ro ⟨m.sl.mapV (ziS ((ops.toList.filter Qw).map (·.dst))),m.bx⟩ s).2 = some (t,e):=ht
 unfold zN at ht'
 cases hw:ro.own s with
 | false =>
  rw [hw] at ht'
  simp only [cond_false] at ht'
  rw [hro.tok s t e ht'] at h2
  omega
 | true =>
  rw [hw] at ht'
  simp only [cond_true,T.get_mapV] at ht'
  cases hg:m.sl.get s with
  | none=>rw [hg] at ht'; cases ht'
  | some x =>
   rw [hg] at ht'
   simp only [Option.map_some,Option.getD_some] at ht'
   unfold ziS at ht'
   cases hx:x.2 with
   | none=>rw [hx] at ht'; simp only at ht'; rw [hx] at ht'; cases ht'
   | some te =>
    obtain ⟨t',e'⟩:=te
    rw [hx] at ht'
    simp only at ht'
    cases hb:(Nat.blt (tcl t') 2 && inD ((ops.toList.filter Qw).map (·.dst)) t') with
    | true=>rw [hb] at ht'; cases ht'
    | false =>
     rw [hb] at ht'
     simp only [cond_false] at ht'
     rw [hx] at ht'
     cases ht'
     rw [Bool.and_eq_false_iff] at hb
     rcases hb with hb | hb
     ·have:Nat.blt (tcl t) 2 = true:=Nat.ble_eq_true_of_le h2
      rw [this] at hb; cases hb
     ·have:inD ((ops.toList.filter Qw).map (·.dst)) t = true:=by
       unfold inD
       rw [List.any_eq_true]
       exact ⟨some (t % 1000000),List.mem_map.2 ⟨o,List.mem_filter.2 ⟨ho,hno⟩,hd⟩,Nat.beq_refl _⟩
      rw [this] at hb; cases hb
theorem zvI (ds:List (Option Nat)) (x:S × Tk):Wk (pv (ziS ds x)) (pv x):=by
 unfold ziS
 split
 ·generalize (Nat.blt _ 2 && _:Bool) = b
  cases b with
  | true=>exact .inr (.inl rfl)
  | false=>exact .inl rfl
 ·exact .inl rfl
theorem zrP {ro:RO} {m:Mm} (ds:List (Option Nat)) (s:Nat):Wk ((zh ro ⟨m.sl.mapV (ziS ds),m.bx⟩).sl s) ((zh ro m).sl s):=by
 show Wk (pv (zN ro ⟨m.sl.mapV (ziS ds),m.bx⟩ s)) (pv (zN ro m s))
 unfold zN
 cases hw:ro.own s with
 | false=>exact .inl rfl
 | true =>
  simp only [cond_true,T.get_mapV]
  cases hg:m.sl.get s with
  | none=>exact .inl rfl
  | some x=>exact zvI ds x
theorem zuC {mu:Bool} {ro:RO} {m:Mm} {ds bs:List Nat}:zaH mu (yR mu ro m ds bs):=by
 have ownBI':∀ i,m.bx.length <= i->(yR mu ro m ds bs).ownB i = true:=fun i hi=>by
  unfold RO.ownB yR
  rw [Nat.ble_eq_true_of_le hi]; rfl
 refine ⟨fun s=>zib _ _,fun s t e h=>zjR h,fun hfl s _=>?_,fun hfl i B hi hB=>?_⟩
 ·have hfl':mu = true:=by
   have:(mu && _) = true:=hfl
   rw [zyL] at this; exact this.1
  show (qo mu (zN ro m s)).2 ≠ none ∨ qk (qo mu (zN ro m s)).1 = true
  rw [hfl']
  exact zid
 ·have hfl':((List.range m.bx.length).all fun i=>match zz ro m i with | some B=>zbZ B | none=>true) = true:=by
   have:(mu && _) = true:=hfl
   rw [zyL] at this; exact this.2
  have hil:i < m.bx.length:=by
   rcases Nat.lt_or_ge i m.bx.length with q | q
   ·exact q
   ·rw [ownBI' i q] at hi; cases hi
  have:=List.all_eq_true.1 hfl' i (List.mem_range.2 hil)
  have hB':zz ro m i = some B:=hB
  rw [hB'] at this
  exact this
theorem zpU {n':Nat} {x:Code} {ro:RO} {mu:Bool} (hro:zaH mu ro) {m:Mm} {ds bs:List Nat} {L:List LV} {es:List (EX × List LV)} (h0:zpG ro m ds bs L es = true) {v0:zf7 L} (hv0:Q4 (zz ro m) ro m L = some v0)
  {out:zry es} {β:Type} {k:Exit->Mm->Option β} {r:β} (hw:QP (zz ro m) ⟨zhZ (m.sl.mapV (qo mu)) ds,m.bx⟩ k es out = some r) {Q:Exit->St->Prop} (hK:∀ ex m',k ex m' = some r->Q ex (zh ro m'))
  (hbody:AWp P n' x (zh (yR mu ro m ds bs) (Zf (zz ro m) ⟨.nil,List.replicate m.bx.length none⟩ L v0)) fun ex st'=>∃ m' e,st' = zh (yR mu ro m ds bs) m'/\EX.ofJ ex = some e/\Q5 (zz ro m) (yR mu ro m ds bs) m' e es = some out) :
  AWp P n' x (zh ro m) Q:=by
 unfold zpG at h0
 simp only [zyL] at h0
 obtain ⟨⟨⟨⟨⟨⟨⟨c1,c2⟩,c3⟩,c4⟩,c5⟩,c6⟩,c7⟩,c8⟩:=h0
 have d1:∀ s ∈ ds,ro.own s = true:=List.all_eq_true.1 c1
 have d2:∀ i ∈ bs,ro.ownB i = true:=List.all_eq_true.1 c2
 have d3:∀ i ∈ bs,i < m.bx.length:=fun i hi=>zh8 (List.all_eq_true.1 c3 i hi)
 have d4:∀ i ∈ bs,yH L i = true:=List.all_eq_true.1 c4
 have d5:∀ e ∈ es,∀ i ∈ bs,yH e.2 i = true:=fun e he=>List.all_eq_true.1 (List.all_eq_true.1 c5 e he)
 have d6:ro.nb <= m.bx.length:=zyN c6
 have ownI:∀ s,(yR mu ro m ds bs).own s = decide (s ∈ ds):=fun s=>by
  unfold RO.own yR; simp only [cond_false]; exact Q9 ds s
 have ownBI:∀ i,i < m.bx.length->(yR mu ro m ds bs).ownB i = decide (i ∈ bs):=fun i hi=>by
  unfold RO.ownB yR
  have:Nat.ble m.bx.length i = false:=by
   cases hb:Nat.ble m.bx.length i
   ·rfl
   ·have:=zyN hb; omega
  rw [this]; simp only [cond_false]; exact Q9 bs i
 have ownBI':∀ i,m.bx.length <= i->(yR mu ro m ds bs).ownB i = true:=fun i hi=>by
  unfold RO.ownB yR
  rw [Nat.ble_eq_true_of_le hi]; rfl
 intro F ac w pr lam hF hs
 obtain ⟨E1,E2,E3⟩:=zC.below hs c6
 have f1:∀ i,yH L i = true->i < m.bx.length:=fun i hi=>d3 i (ze6.1 (List.all_eq_true.1 c7 i (Zp hi)))
 have f2:∀ e ∈ es,∀ i,yH e.2 i = true->i < m.bx.length:=fun e he i hi=>d3 i (ze6.1 (List.all_eq_true.1 (List.all_eq_true.1 c8 e he) i (Zp hi)))
 have hlen0:(⟨.nil,List.replicate m.bx.length none⟩:Mm).bx.length = m.bx.length:=by simp
 have getS0:∀ s,zN (yR mu ro m ds bs) ⟨.nil,List.replicate m.bx.length none⟩ s = if s ∈ ds then (.any,none) else qo mu (zN ro m s):=by
  intro s
  rw [zN,ownI]
  by_cases hs:s ∈ ds
  ·simp [hs,T.get_nil]
  ·simp only [hs,decide_false,cond_false,if_false]
   rfl
 have getB0:∀ i,i < m.bx.length->i ∉ bs->zz (yR mu ro m ds bs) ⟨.nil,List.replicate m.bx.length none⟩ i = zz ro m i:=by
  intro i hi hb
  rw [zz,ownBI i hi]
  simp only [hb,decide_false,cond_false]
  rfl
 have E1':∀ s,ltV m.bx.length (toV (zN (yR mu ro m ds bs) ⟨.nil,List.replicate m.bx.length none⟩ s).1) = true:=by
  intro s
  rw [getS0]
  split
  ·simp [toV,ltV]
  ·exact zd6 (E1 s)
 have E2':∀ i B,zz (yR mu ro m ds bs) ⟨.nil,List.replicate m.bx.length none⟩ i = some B->ZC m.bx.length (zE B).cells = true:=by
  intro i B hB
  rcases Nat.lt_or_ge i m.bx.length with hi | hi
  ·by_cases hb:i ∈ bs
   ·rw [zz,ownBI i hi] at hB
    simp [hb,hi] at hB
   ·rw [getB0 i hi hb] at hB
    exact E2 i B hB
  ·rw [zz,ownBI' i hi] at hB
   simp [Nat.not_lt.2 hi] at hB
 have enter:∀ (roS:RO) (mS:Mm) (v:zf7 L) (a':Act) (w':World) (pr':Nat->Nat->Prop) (lam':Nat->Option Nat),Q4 (zz ro m) roS mS L = some v->zC P F (zh roS mS) a' w' pr' lam' ->
   (∀ s,s ∉ ds->Wk (pv (qo mu (zN ro m s))) (pv (zN roS mS s)))->(∀ i,i < m.bx.length->i ∉ bs->(zz roS mS i).map zE = (zz ro m i).map zE) ->
   ∃ lam'',zC P F (zh (yR mu ro m ds bs) (Zf (zz ro m) ⟨.nil,List.replicate m.bx.length none⟩ L v)) a' w' pr' lam'':=by
  intro roS mS v a' w' pr' lam' hr hs' hw1 hw2
  refine zC.carry hs' hr hlen0 (Nat.le_refl _) f1 (fun s=>?_) (fun i hi=>?_) E1' E2' E3
  ·rw [getS0]
   split
   ·exact .inr (.inr (by simp [pv,toV]))
   ·exact hw1 s ‹_›
  ·by_cases hb:i ∈ bs
   ·exact .inr ⟨d4 i hb,by rw [ownBI i hi]; simp [hb]⟩
   ·rw [getB0 i hi hb]
    exact .inl (hw2 i hi hb).symm
 obtain ⟨lam0,hs0⟩:=enter ro m v0 ac w pr lam hv0 hs (fun s _=>zic _ _) (fun i _ _=>rfl)
 have insS:∀ (mI:Mm) s,s ∉ ds->zN (yR mu ro m ds bs) mI s = qo mu (zN ro m s):=by
  intro mI s hsd
  rw [zN,ownI]
  simp only [hsd,decide_false,cond_false]
  rfl
 have insB:∀ (mI:Mm) i,i < m.bx.length->i ∉ bs->zz (yR mu ro m ds bs) mI i = zz ro m i:=by
  intro mI i hi hb
  rw [zz,ownBI i hi]
  simp only [hb,decide_false,cond_false]
  rfl
 refine wp_mono (hbody F ac w pr lam0 hF hs0) ?_
 rintro ex a'' w'' ⟨st',pr'',lam'',⟨m',e,rfl,he,hr⟩,hs'⟩
 obtain ⟨L',y,⟨e',hmem⟩,hr',hk'⟩:=zao hr hw
 have getS1:∀ s,zN ro ⟨zhZ (m.sl.mapV (qo mu)) ds,m.bx⟩ s = if s ∈ ds then (.any,none) else qo mu (zN ro m s):=by
  intro s
  unfold zN
  by_cases hsd:s ∈ ds
  ·rw [d1 s hsd,if_pos hsd]
   simp [zb8,hsd]
  ·rw [if_neg hsd]
   cases ho:ro.own s
   ·exact (hro.idem s).symm
   ·simp only [cond_true]
    rw [zb8,if_neg hsd,T.get_mapV]
    cases m.sl.get s
    ·simp [qo,qk]
    ·rfl
 obtain ⟨lam3,hs3⟩:=zC.carry (roT:=ro) (m1:=⟨zhZ (m.sl.mapV (qo mu)) ds,m.bx⟩) (n:=m.bx.length) hs' hr' rfl d6 (f2 _ hmem) (fun s=>by
   rw [getS1]
   split
   ·exact .inr (.inr (by simp [pv,toV]))
   ·rw [insS m' s ‹_›]; exact .inl rfl) (fun i hi=>by
   by_cases hb:i ∈ bs
   ·exact .inr ⟨d5 _ hmem i hb,d2 i hb⟩
   ·rw [insB m' i hi hb]; exact .inl rfl) (fun s=>by
   rw [getS1]
   split
   ·simp [toV,ltV]
   ·exact zd6 (E1 s)) E2 E3
 have hfin:=hK _ _ hk'
 rw [EX.ofJ_to he] at hfin
 exact ⟨_,pr'',lam3,hfin,hs3⟩
theorem qI (hm:P.follows .mixedOrders = true) {n':Nat}:∀ (c:Code) (a:Ann) (ro:RO) (hro:zaH (!Nat.beq X.wr 0) ro) (m:Mm) {β:Type} (k:Exit->Mm->Option β) (r:β) (Kp:Exit->St->Prop),okX n' c a = true ->
  (∀ ex m',k ex m' = some r->Kp ex (zh ro m'))->YU X c a ro m k = some r->AWp P n' c (zh ro m) Kp
 | .skip,_,ro,hro,m,β,k,r,Kp,_,hK,h=>fun F a w pr lam _ hs=>wp_skip ⟨_,pr,lam,hK _ _ h,hs⟩
 | .label _,_,ro,hro,m,β,k,r,Kp,_,hK,h=>fun F a w pr lam _ hs=>wp_label ⟨_,pr,lam,hK _ _ h,hs⟩
 | .exit id,_,ro,hro,m,β,k,r,Kp,_,hK,h=>fun F a w pr lam _ hs=>wp_exit ⟨_,pr,lam,hK _ _ h,hs⟩
 | .ret,_,ro,hro,m,β,k,r,Kp,_,hK,h=>fun F a w pr lam _ hs=>wp_ret ⟨_,pr,lam,hK _ _ h,hs⟩
 | .region id ops dr,a,ro,hro,m,β,k,r,Kp,hok,hK,h=>by
  cases hful:(dr && a.isFull) with
  | true =>
   simp only [okX,hful,cond_true,zyL] at hok
   simp only [YU,hful,cond_true] at h
   rw [zyL] at hful
   obtain ⟨rfl,_⟩:=hful
   exact AWp.full hm hok.1 hok.2 (Q8 hro (fun m' h'=>hK _ _ h') _ _ m h)
  | false =>
  simp only [okX,hful,cond_false] at hok
  simp only [YU,hful,cond_false] at h
  clear hful
  cases dr with
  | false =>
   refine Zl hm (.region id ops false) _ _ hok ?_
   show (if ([]:List Nat).contains id = true then _ else zsd P false ops (zh ro m) (Kp .normal))
   rw [if_neg (by simp)]
   exact ⟨(fun h=>by cases h),zbd hro (fun m' h'=>hK _ _ h') _ _ h⟩
  | true =>
   have hv:Qz P true (ops.toList.map (·.dst)) ops.toList (zh ro ⟨m.sl.mapV (ziS ((ops.toList.filter Qw).map (·.dst))),m.bx⟩) (Kp .normal):=zbd hro (fun m' h'=>hK _ _ h') _ _ h
   have hn:=zpT (m:=m) hro ops
   have hw:=zrP (ro:=ro) (m:=m) ((ops.toList.filter Qw).map (·.dst))
   generalize hm1:zh ro ⟨m.sl.mapV (ziS ((ops.toList.filter Qw).map (·.dst))),m.bx⟩ = st1 at hv hn hw
   have hc:AWp P n' (.region id ops true) st1 Kp:=by
    refine Zl hm (.region id ops true) _ _ hok ?_
    show (if ([]:List Nat).contains id = true then _ else zsd P true ops st1 (Kp .normal))
    rw [if_neg (by simp)]
    exact ⟨fun _=>hn,hv⟩
   intro F a w pr lam hF hs
   refine hc F a w pr lam hF ?_
   have:=zC.weak hs (nb':=st1.nb) (sl':=st1.sl) hw
   have hb:st1.box = (zh ro m).box:=by rw [<- hm1]; rfl
   rw [<- hb] at this
   exact this
 | .seq x y,a,ro,hro,m,β,k,r,Kp,hok,hK,h=>by
  simp only [okX,zyL] at hok
  have plain:∀ al:Ann,al = a.l->al.inn = al->YU X x al ro m (fun ex m'=>match ex with
    | .normal=>YU X y a.r.un ro m' k
    | e=>k e m') = some r->AWp P n' (.seq x y) (zh ro m) Kp:=fun al e1 e2 h=>by
   rw [<- e1,e2] at hok
   refine zqM (qI hm x al ro hro m _ r _ hok.1 ?_ h)
   intro ex m' h'
   cases ex with
   | normal =>
    exact qI hm y a.r.un ro hro m' k r Kp hok.2 hK h'
   | exit id=>exact hK _ _ h'
   | goto l=>exact hK _ _ h'
   | ret=>exact hK _ _ h'
   | panic c=>exact hK _ _ h'
   | outgrown=>exact hK _ _ h'
  unfold YU at h
  split at h
  ·rename_i ds bs L es a1 hal
   rw [hal] at hok
   obtain ⟨h0,h⟩:=ym h
   split at h
   case h_2=>cases h
   rename_i v0 hv0
   obtain ⟨out,hit,hw⟩:=bind_some h
   refine zqM (zpU hro h0 hv0 hw ?_ (qI hm x a1 _ zuC _ _ _ _ hok.1 ?_ hit))
   ·intro ex m' h'
    cases ex with
    | normal=>exact qI hm y a.r.un ro hro m' k r Kp hok.2 hK h'
    | exit id=>exact hK _ _ h'
    | goto l=>exact hK _ _ h'
    | ret=>exact hK _ _ h'
    | panic c=>exact hK _ _ h'
    | outgrown=>exact hK _ _ h'
   ·intro ex m' h'
    split at h'
    ·rename_i e he
     exact ⟨m',e,rfl,he,h'⟩
    ·cases h'
  ·rename_i hno
   refine plain a.l rfl ?_ h
   cases hal:a.l with
   | join ds bs L es a1=>exact (hno ds bs L es a1 hal).elim
   | _=>rfl
 | .cond c x y,a,ro,hro,m,β,k,r,Kp,hok,hK,h=>by
  simp only [okX,zyL] at hok
  simp only [YU] at h
  split at h
  ·rename_i b hb
   have he:(zh ro m).eval c = .bool b:=by rw [<- zw,hb]; simp [toV]
   refine zuB he (fun hbt=>?_) (fun hbf=>?_)
   ·subst hbt
    have:=qI hm x a.l ro hro (Yr ro m c true) k r Kp hok.1 hK h
    rwa [zif hb] at this
   ·subst hbf
    have:=qI hm y a.r ro hro (Yr ro m c false) k r Kp hok.2 hK h
    rwa [zif hb] at this
  ·cases h
 | .block id x,a,ro,hro,m,β,k,r,Kp,hok,hK,h=>by
  refine zrO (qI hm x a ro hro m _ r _ hok ?_ h)
  intro ex m' h'
  cases ex with
  | exit id' =>
   simp only at h'
   simp only [zgA]
   cases hb:Nat.beq id' id with
   | true=>rw [hb] at h'; rw [if_pos (zyM hb)]; exact hK _ _ h'
   | false =>
    rw [hb] at h'
    rw [if_neg (fun e=>by subst e; simp at hb)]
    exact hK _ _ h'
  | normal=>exact hK _ _ h'
  | goto l=>exact hK _ _ h'
  | ret=>exact hK _ _ h'
  | panic c=>exact hK _ _ h'
  | outgrown=>exact hK _ _ h'
 | .loop x,.loop ds bs L es a,ro,hro,m,β,k,r,Kp,hok,hK,h=>by
  simp only [YU] at h
  obtain ⟨h0,h⟩:=ym h
  simp only [zyL] at h0
  obtain ⟨⟨⟨⟨⟨⟨⟨c1,c2⟩,c3⟩,c4⟩,c5⟩,c6⟩,c7⟩,c8⟩:=h0
  split at h
  case h_2=>cases h
  rename_i v0 hv0
  obtain ⟨out,hit,hw⟩:=bind_some h
  obtain ⟨N,hN⟩:=Qr.1 hit
  have d1:∀ s ∈ ds,ro.own s = true:=List.all_eq_true.1 c1
  have d2:∀ i ∈ bs,ro.ownB i = true:=List.all_eq_true.1 c2
  have d3:∀ i ∈ bs,i < m.bx.length:=fun i hi=>zh8 (List.all_eq_true.1 c3 i hi)
  have d4:∀ i ∈ bs,yH L i = true:=List.all_eq_true.1 c4
  have d5:∀ e ∈ es,∀ i ∈ bs,yH e.2 i = true:=fun e he=>List.all_eq_true.1 (List.all_eq_true.1 c5 e he)
  have d6:ro.nb <= m.bx.length:=zyN c6
  have ownI:∀ s,(yR (!Nat.beq X.wr 0) ro m ds bs).own s = decide (s ∈ ds):=fun s=>by
   unfold RO.own yR; simp only [cond_false]; exact Q9 ds s
  have ownBI:∀ i,i < m.bx.length->(yR (!Nat.beq X.wr 0) ro m ds bs).ownB i = decide (i ∈ bs):=fun i hi=>by
   unfold RO.ownB yR
   have:Nat.ble m.bx.length i = false:=by
    cases hb:Nat.ble m.bx.length i
    ·rfl
    ·have:=zyN hb; omega
   rw [this]; simp only [cond_false]; exact Q9 bs i
  have ownBI':∀ i,m.bx.length <= i->(yR (!Nat.beq X.wr 0) ro m ds bs).ownB i = true:=fun i hi=>by
   unfold RO.ownB yR
   rw [Nat.ble_eq_true_of_le hi]; rfl
  have hroI:zaH (!Nat.beq X.wr 0) (yR (!Nat.beq X.wr 0) ro m ds bs):=by
   refine ⟨fun s=>zib _ _,fun s t e h=>zjR h,fun hfl s _=>?_,fun hfl i B hi hB=>?_⟩
   ·have hfl':(!Nat.beq X.wr 0) = true:=by
     have:((!Nat.beq X.wr 0) && _) = true:=hfl
     rw [zyL] at this; exact this.1
    show (qo (!Nat.beq X.wr 0) (zN ro m s)).2 ≠ none ∨ qk (qo (!Nat.beq X.wr 0) (zN ro m s)).1 = true
    rw [hfl']
    exact zid
   ·have hfl':((List.range m.bx.length).all fun i=>match zz ro m i with | some B=>zbZ B | none=>true) = true:=by
     have:((!Nat.beq X.wr 0) && _) = true:=hfl
     rw [zyL] at this; exact this.2
    have hil:i < m.bx.length:=by
     rcases Nat.lt_or_ge i m.bx.length with q | q
     ·exact q
     ·rw [ownBI' i q] at hi; cases hi
    have:=List.all_eq_true.1 hfl' i (List.mem_range.2 hil)
    have hB':zz ro m i = some B:=hB
    rw [hB'] at this
    exact this
  intro F ac w pr lam hF hs
  obtain ⟨E1,E2,E3⟩:=zC.below hs c6
  have f1:∀ i,yH L i = true->i < m.bx.length:=fun i hi=>d3 i (ze6.1 (List.all_eq_true.1 c7 i (Zp hi)))
  have f2:∀ e ∈ es,∀ i,yH e.2 i = true->i < m.bx.length:=fun e he i hi=>d3 i (ze6.1 (List.all_eq_true.1 (List.all_eq_true.1 c8 e he) i (Zp hi)))
  have hlen0:(⟨.nil,List.replicate m.bx.length none⟩:Mm).bx.length = m.bx.length:=by simp
  have getS0:∀ s,zN (yR (!Nat.beq X.wr 0) ro m ds bs) ⟨.nil,List.replicate m.bx.length none⟩ s = if s ∈ ds then (.any,none) else qo (!Nat.beq X.wr 0) (zN ro m s):=by
   intro s
   rw [zN,ownI]
   by_cases hs:s ∈ ds
   ·simp [hs,T.get_nil]
   ·simp only [hs,decide_false,cond_false,if_false]
    rfl
  have getB0:∀ i,i < m.bx.length->i ∉ bs->zz (yR (!Nat.beq X.wr 0) ro m ds bs) ⟨.nil,List.replicate m.bx.length none⟩ i = zz ro m i:=by
   intro i hi hb
   rw [zz,ownBI i hi]
   simp only [hb,decide_false,cond_false]
   rfl
  have E1':∀ s,ltV m.bx.length (toV (zN (yR (!Nat.beq X.wr 0) ro m ds bs) ⟨.nil,List.replicate m.bx.length none⟩ s).1) = true:=by
   intro s
   rw [getS0]
   split
   ·simp [toV,ltV]
   ·exact zd6 (E1 s)
  have E2':∀ i B,zz (yR (!Nat.beq X.wr 0) ro m ds bs) ⟨.nil,List.replicate m.bx.length none⟩ i = some B->ZC m.bx.length (zE B).cells = true:=by
   intro i B hB
   rcases Nat.lt_or_ge i m.bx.length with hi | hi
   ·by_cases hb:i ∈ bs
    ·rw [zz,ownBI i hi] at hB
     simp [hb,hi] at hB
    ·rw [getB0 i hi hb] at hB
     exact E2 i B hB
   ·rw [zz,ownBI' i hi] at hB
    simp [Nat.not_lt.2 hi] at hB
  have enter:∀ (roS:RO) (mS:Mm) (v:zf7 L) (a':Act) (w':World) (pr':Nat->Nat->Prop) (lam':Nat->Option Nat),Q4 (zz ro m) roS mS L = some v->zC P F (zh roS mS) a' w' pr' lam' ->
    (∀ s,s ∉ ds->Wk (pv (qo (!Nat.beq X.wr 0) (zN ro m s))) (pv (zN roS mS s)))->(∀ i,i < m.bx.length->i ∉ bs->(zz roS mS i).map zE = (zz ro m i).map zE) ->
    ∃ lam'',zC P F (zh (yR (!Nat.beq X.wr 0) ro m ds bs) (Zf (zz ro m) ⟨.nil,List.replicate m.bx.length none⟩ L v)) a' w' pr' lam'':=by
   intro roS mS v a' w' pr' lam' hr hs' hw1 hw2
   refine zC.carry hs' hr hlen0 (Nat.le_refl _) f1 (fun s=>?_) (fun i hi=>?_) E1' E2' E3
   ·rw [getS0]
    split
    ·exact .inr (.inr (by simp [pv,toV]))
    ·exact hw1 s ‹_›
   ·by_cases hb:i ∈ bs
    ·exact .inr ⟨d4 i hb,by rw [ownBI i hi]; simp [hb]⟩
    ·rw [getB0 i hi hb]
     exact .inl (hw2 i hi hb).symm
  obtain ⟨lam0,hs0⟩:=enter ro m v0 ac w pr lam hv0 hs (fun s _=>zic _ _) (fun i _ _=>rfl)
  have insS:∀ (mI:Mm) s,s ∉ ds->zN (yR (!Nat.beq X.wr 0) ro m ds bs) mI s = qo (!Nat.beq X.wr 0) (zN ro m s):=by
   intro mI s hsd
   rw [zN,ownI]
   simp only [hsd,decide_false,cond_false]
   rfl
  have insB:∀ (mI:Mm) i,i < m.bx.length->i ∉ bs->zz (yR (!Nat.beq X.wr 0) ro m ds bs) mI i = zz ro m i:=by
   intro mI i hi hb
   rw [zz,ownBI i hi]
   simp only [hb,decide_false,cond_false]
   rfl
  refine znX (fun j a' w'=>∃ v pr' lam',zbv _ j v = some out/\zC P F (zh (yR (!Nat.beq X.wr 0) ro m ds bs) (Zf (zz ro m) ⟨.nil,List.replicate m.bx.length none⟩ L v)) a' w' pr' lam') ?_ N ac w ⟨v0,pr,lam0,hN,hs0⟩
  rintro j a' w' ⟨v,pr',lam',hj,hsv⟩
  cases j with
  | zero=>cases hj
  | succ j =>
   unfold zbv at hj
   split at hj
   ·rename_i v' hF'
    have hbody:=qI hm x a _ hroI _ _ _ (fun ex st'=>∃ m',st' = zh (yR (!Nat.beq X.wr 0) ro m ds bs) m'/\ex = .normal/\Q4 (zz ro m) (yR (!Nat.beq X.wr 0) ro m ds bs) m' L = some v') hok (fun ex m' h'=>?_) hF'
    ·refine wp_mono (hbody F a' w' pr' lam' hF hsv) ?_
     rintro ex a'' w'' ⟨st',pr'',lam'',⟨m',rfl,rfl,hr⟩,hs'⟩
     obtain ⟨lam3,hs3⟩:=enter _ m' v' a'' w'' pr'' lam'' hr hs' (fun s hsd=>by rw [insS m' s hsd]; exact .inl rfl) (fun i hi hb=>by rw [insB m' i hi hb])
     exact ⟨j,by omega,v',pr'',lam3,hj,hs3⟩
    ·cases ex with
     | normal =>
      simp only at h'
      split at h'
      ·rename_i w2 hw2; cases h'; exact ⟨m',rfl,rfl,hw2⟩
      ·cases h'
     | exit id =>
      simp only at h'
      split at h'
      ·split at h' <;> cases h'
      ·cases h'
     | ret =>
      simp only at h'
      split at h'
      ·split at h' <;> cases h'
      ·cases h'
     | goto l=>simp [EX.of] at h'
     | panic l=>simp [EX.of] at h'
     | outgrown=>simp [EX.of] at h'
   ·rename_i out' hF'
    cases hj
    have hbody:=qI hm x a _ hroI _ _ _ (fun ex st'=>∃ m' e,st' = zh (yR (!Nat.beq X.wr 0) ro m ds bs) m'/\EX.of ex = some e/\Q5 (zz ro m) (yR (!Nat.beq X.wr 0) ro m ds bs) m' e es = some out) hok (fun ex m' h'=>?_) hF'
    ·refine wp_mono (hbody F a' w' pr' lam' hF hsv) ?_
     rintro ex a'' w'' ⟨st',pr'',lam'',⟨m',e,rfl,he,hr⟩,hs'⟩
     obtain ⟨L',y,⟨e',hmem⟩,hr',hk'⟩:=zao hr hw
     have getS1:∀ s,zN ro ⟨zhZ (m.sl.mapV (qo (!Nat.beq X.wr 0))) ds,m.bx⟩ s = if s ∈ ds then (.any,none) else qo (!Nat.beq X.wr 0) (zN ro m s):=by
      intro s
      unfold zN
      by_cases hsd:s ∈ ds
      ·rw [d1 s hsd,if_pos hsd]
       simp [zb8,hsd]
      ·rw [if_neg hsd]
       cases ho:ro.own s
       ·exact (hro.idem s).symm
       ·simp only [cond_true]
        rw [zb8,if_neg hsd,T.get_mapV]
        cases m.sl.get s
        ·simp [qo,qk]
        ·rfl
     obtain ⟨lam3,hs3⟩:=zC.carry (roT:=ro) (m1:=⟨zhZ (m.sl.mapV (qo (!Nat.beq X.wr 0))) ds,m.bx⟩) (n:=m.bx.length) hs' hr' rfl d6 (f2 _ hmem) (fun s=>by
       rw [getS1]
       split
       ·exact .inr (.inr (by simp [pv,toV]))
       ·rw [insS m' s ‹_›]; exact .inl rfl) (fun i hi=>by
       by_cases hb:i ∈ bs
       ·exact .inr ⟨d5 _ hmem i hb,d2 i hb⟩
       ·rw [insB m' i hi hb]; exact .inl rfl) (fun s=>by
       rw [getS1]
       split
       ·simp [toV,ltV]
       ·exact zd6 (E1 s)) E2 E3
     have hfin:=hK _ _ hk'
     rw [EX.of_to he] at hfin
     cases ex with
     | normal=>simp [EX.of] at he
     | exit id=>exact ⟨_,pr'',lam3,hfin,hs3⟩
     | ret=>exact ⟨_,pr'',lam3,hfin,hs3⟩
     | goto l=>simp [EX.of] at he
     | panic l=>simp [EX.of] at he
     | outgrown=>simp [EX.of] at he
    ·cases ex with
     | normal =>
      simp only at h'
      split at h' <;> cases h'
     | exit id =>
      simp only at h'
      split at h'
      ·rename_i e he
       split at h'
       ·rename_i w2 hw2; cases h'; exact ⟨m',e,rfl,he,hw2⟩
       ·cases h'
      ·cases h'
     | ret =>
      simp only at h'
      split at h'
      ·rename_i e he
       split at h'
       ·rename_i w2 hw2; cases h'; exact ⟨m',e,rfl,he,hw2⟩
       ·cases h'
      ·cases h'
     | goto l=>simp [EX.of] at h'
     | panic l=>simp [EX.of] at h'
     | outgrown=>simp [EX.of] at h'
   ·cases hj
 | .loop _,.no,ro,hro,m,β,k,r,Kp,_,_,h=>by cases h
 | .loop _,.two _ _,ro,hro,m,β,k,r,Kp,_,_,h=>by cases h
 | .rangeFunc _ _ _ _,a,ro,hro,m,β,k,r,Kp,_,_,h=>by cases a <;> cases h
 | .scope _,a,ro,hro,m,β,k,r,Kp,_,_,h=>by cases a <;> cases h
 | .goto _,a,ro,hro,m,β,k,r,Kp,_,_,h=>by cases a <;> cases h
 | .refuse _,a,ro,hro,m,β,k,r,Kp,_,_,h=>by cases a <;> cases h
end
end Go.X
namespace Go.X
open Go.Eng
open Go.RowKit
variable {β:Type}
section
variable {P:Program}
theorem zii:∀ (args:List S) (n s:Nat),(Qa n args).get s = if n <= s then (args[s - n]?).map (·,some (2000000,0)) else none
 | [],n,s=>by simp [Qa,T.get_nil]
 | a :: args,n,s=>by
  simp only [Qa]
  rw [T.get_set,zii args (n + 1) s]
  by_cases h:s = n
  ·subst h; simp
  ·rw [if_neg h]
   by_cases h1:n + 1 <= s
   ·rw [if_pos h1,if_pos (by omega)]
    have:s - n = s - (n + 1) + 1:=by omega
    rw [this,List.getElem?_cons_succ]
   ·rw [if_neg h1,if_neg (by omega)]
theorem zrQ {F:Fr} {a:Act} {w:World} {pr:Nat->Nat->Prop} {lam:Nat->Option Nat} {args:List S} {ins:List qg} (h:zC P F (St.init (zi args) (ins.map zE)) a w pr lam) :
  zC P F (zh Zu ⟨Qa 0 args,ins.map some⟩) a w pr lam:=by
 have hw:=zC.weak h (nb':=ins.length) (sl':=(zh Zu ⟨Qa 0 args,ins.map some⟩).sl) (fun s=>?_)
 ·refine (congrArg (fun st=>zC P F st a w pr lam) ?_).mp hw
  show (⟨ins.length,_,_⟩:St) = zh _ _
  unfold zh
  congr 1
  ·simp
  ·funext i
   show (ins.map zE)[i]? = (zz Zu ⟨Qa 0 args,ins.map some⟩ i).map zE
   have:zz Zu ⟨Qa 0 args,ins.map some⟩ i = ((ins.map some)[i]?).getD none:=rfl
   rw [this,List.getElem?_map,List.getElem?_map]
   cases ins[i]? <;> rfl
 ·show Wk (pv (zN Zu ⟨Qa 0 args,ins.map some⟩ s)) ((zi args).getD s .un,some (2000000,0))
  have:zN Zu ⟨Qa 0 args,ins.map some⟩ s = ((Qa 0 args).get s).getD (.any,none):=rfl
  rw [this,zii]
  simp only [Nat.zero_le,if_true,Nat.sub_zero]
  cases hq:args[s]? with
  | none=>exact .inr (.inr (by simp [pv,toV]))
  | some x =>
   refine .inl ?_
   simp only [Option.map_some,Option.getD_some,pv,List.getD,YV,hq]
theorem zjV {m:Mm}:∀ {rs:List ResultVar} {vs:List S},zpH (P:=P) m rs = some vs->zaK (zh Zu m) P rs = some (zi vs)
 | [],vs,h=>by simp only [zpH,zyO] at h; subst h; simp [zaK,zi]
 | r :: rs,vs,h=>by
  simp only [zpH] at h
  simp only [zaK]
  split at h
  ·rename_i v vs' h1 h2
   cases h
   rw [zjV h2]
   have:zej (zh Zu m) P r = some (toV v):=by
    cases r with
    | tmp t =>
     simp only [zyO] at h1
     subst h1; rfl
    | cell a t =>
     simp only at h1
     have he:(zh Zu m).env a = toV (zN Zu m a).1:=rfl
     simp only [zej]
     rw [he]
     split at h1
     ·rename_i i off hl
      rw [hl]
      simp only [toV]
      split at h1
      ·rename_i cs ty hB ha
       have hb:(zh Zu m).box i = some ⟨zi cs,ty⟩:=by show (zz Zu m i).map zE = _; rw [hB]; rfl
       simp only [hb,ha]
       split at h1
       ·rename_i n hn
        obtain ⟨q1,q2⟩:=ym h1
        simp only [zyL] at q1
        cases q2
        simp only [hn]
        rw [if_pos ⟨zh8 q1.1,by rw [qf]; exact zyN q1.2⟩]
        simp [toV,YW]
       ·cases h1
      ·rename_i cs ty hB ha
       have hb:(zh Zu m).box i = some ⟨zi cs,ty⟩:=by show (zz Zu m i).map zE = _; rw [hB]; rfl
       simp only [hb,ha]
       cases hq:Nat.blt ty 1000000000 with
       | false=>rw [hq] at h1; cases h1
       | true =>
        rw [hq] at h1
        simp only [cond_true] at h1
        rw [if_pos (zh8 hq),YV,h1]; rfl
      ·cases h1
     ·cases h1
   rw [this]
   simp [zi]
  ·cases h
theorem zij {m:Mm}:∀ {n i:Nat} {outs:List qg},zh0 m i n = some outs->outs.length = n/\(∀ B ∈ outs,zbY B = true)/\∀ j B,outs[j]? = some B->zz Zu m (i + j) = some B
 | 0,i,outs,h=>by
  simp only [zh0,zyO] at h; subst h
  exact ⟨rfl,by simp,fun j B hj=>by simp at hj⟩
 | n + 1,i,outs,h=>by
  simp only [zh0] at h
  split at h
  ·rename_i B bs h1 h2
   obtain ⟨q1,q2⟩:=ym h
   cases q2
   obtain ⟨a1,a2,a3⟩:=zij h2
   refine ⟨by simp [a1],fun B' hB'=>?_,fun j B' hj=>?_⟩
   ·simp at hB'
    rcases hB' with rfl | hB'
    ·exact q1
    ·exact a2 B' hB'
   ·cases j with
    | zero=>simp at hj; subst hj; exact h1
    | succ j =>
     have:=a3 j B' (by simpa using hj)
     rwa [show i + 1 + j = i + (j + 1) from by omega] at this
  ·cases h
theorem zqN {X:ze1 P} (hm:P.follows .mixedOrders = true) {f:FuncId} {fn:Func} {c:Code} {a:Ann} (hf:P.funcs[f]? = some fn) (hb:fn.body = some c) (hok:okX fn.ntmps c a = true) {args:List S} {ins:List qg}
  (hsz:args.length <= fn.ntmps) {K:S->List qg->Option β} {r:β} {vres:V} {vouts:List Box} (h:zqH X fn.results.toList c a args ins K = some r)
  (hK:∀ res outs,K res outs = some r->outs.length = ins.length->toV res = vres/\outs.map zE = vouts) (hnl:vres.noLoc = true) (hno:∀ B ∈ vouts,V.noLocL B.cells = true) (hl:vouts.length <= ins.length) :
  Go.Eng.Fn P f (zi args) (ins.map zE) vres vouts:=by
 refine Fn.of_AWp hf hb (by rw [qf]; exact hsz) hnl hno (by simpa using hl) ?_
 have hc:=qI (X:=X) hm c a Zu ⟨fun s=>by simp [Zu,qo,qk],fun s t e h=>(by cases h),fun _ s _=>.inr rfl,fun _ i B hi=>(by cases hi)⟩ _ _ r (zxq P fn.results.toList vres vouts) hok ?_ h
 ·intro F ac w pr lam hF hs
  exact hc F ac w pr lam hF (zrQ hs)
 ·intro ex m' hk
  have key:(∃ vs outs,zpH (P:=P) m' fn.results.toList = some vs/\zh0 m' 0 ins.length = some outs/\K (match vs with | [v]=>v | vs=>.tup vs) outs = some r)->zqU (zh Zu m') P fn.results.toList = some vres/\(∀ i B,vouts[i]? = some B->(zh Zu m').box i = some B):=by
   rintro ⟨vs,outs,h1,h2,h3⟩
   obtain ⟨q1,q2,q3⟩:=zij h2
   obtain ⟨e1,e2⟩:=hK _ _ h3 q1
   refine ⟨?_,fun i B hB=>?_⟩
   ·unfold zqU
    rw [zjV h1,<- e1]
    match vs with
    | []=>simp [zi,toV]
    | [v]=>simp [zi]
    | v :: w :: vs=>simp [zi,toV]
   ·rw [<- e2,List.getElem?_map] at hB
    cases ho:outs[i]? with
    | none=>rw [ho] at hB; cases hB
    | some B' =>
     rw [ho] at hB
     cases hB
     show (zz Zu m' i).map zE = _
     have:=q3 i B' ho
     rw [Nat.zero_add] at this
     rw [this]; rfl
  have hk':(ex = .ret ∨ ex = .normal)/\∃ vs outs,zpH (P:=P) m' fn.results.toList = some vs/\zh0 m' 0 ins.length = some outs/\K (match vs with | [v]=>v | vs=>.tup vs) outs = some r:=by
   split at hk
   ·rename_i v outs hex h1 h2
    obtain ⟨_,hk⟩:=ym hk
    refine ⟨?_,_,_,h1,h2,hk⟩
    cases ex <;> simp at hex ⊢
   ·rename_i vs outs hne hex h1 h2
    obtain ⟨_,hk⟩:=ym hk
    refine ⟨?_,_,_,h1,h2,?_⟩
    ·cases ex <;> simp at hex ⊢
    ·match vs,hne with
     | [],_=>exact hk
     | [v],hne=>exact absurd rfl (hne v)
     | v :: w :: vs,_=>exact hk
   ·cases hk
  obtain ⟨hex,hk'⟩:=hk'
  rcases hex with rfl | rfl
  ·exact key hk'
  ·exact key hk'
end
@[reducible] def qW:List C->Type
 | []=>Unit
 | [c]=>den c
 | c :: d :: cs=>den c × qW (d :: cs)
def Yu:(cs:List C)->List S->Option (qW cs)
 | [],[]=>some ()
 | [c],[s]=>Ze c s
 | c :: d :: cs,s :: ss=>(match Ze c s,Yu (d :: cs) ss with | some x,some y=>some (x,y) | _,_=>none)
 | _,_=>none
def ZW:(cs:List C)->qW cs->List S
 | [],_=>[]
 | [c],x=>[refl c x]
 | c :: d :: cs,x=>refl c x.1 :: ZW (d :: cs) x.2
def zi1:(cs:List C)->qW cs->List V
 | [],_=>[]
 | [c],x=>[enc c x]
 | c :: d :: cs,x=>enc c x.1 :: zi1 (d :: cs) x.2
theorem zcr:∀ (cs:List C) (x:qW cs),zi (ZW cs x) = zi1 cs x
 | [],_=>by simp [ZW,zi1,zi]
 | [c],x=>by simp [ZW,zi1,zi,qz]
 | c :: d :: cs,x=>by simp [ZW,zi1,zi,qz,zcr (d :: cs) x.2]
theorem YY:∀ {cs:List C} {ss:List S} {x:qW cs},Yu cs ss = some x->zi ss = zi1 cs x
 | [],[],x,h=>by simp [zi1,zi]
 | [],_ :: _,x,h=>by simp [Yu] at h
 | [c],[],x,h=>by simp [Yu] at h
 | [c],[s],x,h=>by
  simp only [Yu] at h
  simp [zi1,zi,yV h]
 | [c],_ :: _ :: _,x,h=>by simp [Yu] at h
 | c :: d :: cs,[],x,h=>by simp [Yu] at h
 | c :: d :: cs,s :: ss,x,h=>by
  simp only [Yu] at h
  split at h
  ·rename_i y z hy hz
   cases h
   simp [zi1,zi,yV hy,YY hz]
  ·cases h
theorem zfJ:∀ (cs:List C) (x:qW cs),qD (ZW cs x) = true
 | [],_=>rfl
 | [c],x=>by simp [ZW,qD,Q6]
 | c :: d :: cs,x=>by simp [ZW,qD,Q6,zfJ (d :: cs) x.2]
def zpV (rs:List C) (x:qW rs):S:=match ZW rs x with
 | [v]=>v
 | vs=>.tup vs
def zik (rs:List C) (x:qW rs):V:=toV (zpV rs x)
def zbe (rs:List C) (s:S):Option (qW rs):=match rs with
 | [c]=>Ze c s
 | rs=>(match s with | .tup vs=>Yu rs vs | _=>none)
theorem zfK:∀ {rs:List C} {s:S} {x:qW rs},zbe rs s = some x->toV s = zik rs x
 | [c],s,x,h=>by
  simp only [zbe] at h
  show toV s = toV (refl c x)
  rw [qz]; exact yV h
 | [],s,x,h=>by
  simp only [zbe] at h
  split at h
  ·rename_i vs
   have e:=YY h
   simp only [toV,e,zi1]
   show _ = toV (.tup [])
   simp [toV,zi]
  ·cases h
 | c :: d :: rs,s,x,h=>by
  simp only [zbe] at h
  split at h
  ·rename_i vs
   have e:=YY h
   rw [<- zcr] at e
   have hq:zpV (c :: d :: rs) x = .tup (ZW (c :: d :: rs) x):=by
    unfold zpV
    cases rs <;> simp [ZW]
   unfold zik
   rw [hq]
   simp only [toV,e]
  ·cases h
theorem zda (rs:List C) (x:qW rs):yk (zpV rs x) = true:=by
 unfold zpV
 have h:=zfJ rs x
 split
 ·rename_i v e
  rw [e] at h
  simpa [qD] using h
 ·rename_i e; simpa [yk] using h
theorem zfL (rs:List C) (x:qW rs):(zik rs x).noLoc = true:=zd2 _ (zda rs x)
inductive AK where
 | d (c:C)
 | f (g:FuncId) (caps:List Nat)
 | l (i off:Nat)
 | m (g:FuncId)
 | e
def Zq:List AK->List C
 | []=>[]
 | .d c :: ak=>c :: Zq ak
 | _ :: ak=>Zq ak
def zuD:List Nat->List S
 | []=>[]
 | i :: is=>.loc i 0 :: zuD is
def buildA:List AK->List S->List S
 | [],_=>[]
 | .d _ :: ak,s :: ss=>s :: buildA ak ss
 | .d _ :: ak,[]=>[]
 | .f g caps :: ak,ss=>.fn (.func g) [] (zuD caps) :: buildA ak ss
 | .l i off :: ak,ss=>.loc i off :: buildA ak ss
 | .m g :: ak,ss=>.fn (.func g) [.agg []] [] :: buildA ak ss
 | .e :: ak,ss=>.agg [] :: buildA ak ss
def ze8:List Nat->List S->Bool
 | [],[]=>true
 | i :: is,.loc j o :: ss=>Nat.beq i j && Nat.beq o 0 && ze8 is ss
 | _,_=>false
def qE:List AK->List S->Option (List S)
 | [],[]=>some []
 | .d _ :: ak,s :: ss=>(match qE ak ss with | some ds=>some (s :: ds) | none=>none)
 | .f g caps :: ak,.fn (.func g') [] cs :: ss=>bif Nat.beq g g' && ze8 caps cs then qE ak ss else none
 | .l i off :: ak,.loc i' off' :: ss=>bif Nat.beq i i' && Nat.beq off off' then qE ak ss else none
 | .m g :: ak,.fn (.func g') [.agg []] [] :: ss=>bif Nat.beq g g' then qE ak ss else none
 | .e :: ak,.agg [] :: ss=>qE ak ss
 | _,_=>none
theorem zfM:∀ {is:List Nat} {ss:List S},ze8 is ss = true->ss = zuD is
 | [],[],_=>rfl
 | [],_ :: _,h=>by simp [ze8] at h
 | _ :: _,[],h=>by simp [ze8] at h
 | i :: is,s :: ss,h=>by
  cases s <;> simp only [ze8,zyL,Bool.false_eq_true] at h
  rename_i j o
  obtain ⟨⟨h1,h2⟩,h3⟩:=h
  rw [zyM h1,zyM h2,zfM h3]
  rfl
theorem ZO:∀ {ak:List AK} {ss ds:List S},qE ak ss = some ds->ss = buildA ak ds
 | [],[],ds,h=>by simp only [qE,zyO] at h; subst h; rfl
 | [],_ :: _,ds,h=>by simp [qE] at h
 | .d c :: ak,[],ds,h=>by simp [qE] at h
 | .d c :: ak,s :: ss,ds,h=>by
  simp only [qE] at h
  split at h
  ·rename_i ds' hd; cases h; simp only [buildA]; rw [<- ZO hd]
  ·cases h
 | .f g caps :: ak,[],ds,h=>by simp [qE] at h
 | .l i off :: ak,[],ds,h=>by simp [qE] at h
 | .f g caps :: ak,s :: ss,ds,h=>by
  cases s with
  | fn f first cap =>
   cases f with
   | func g' =>
    cases first with
    | nil =>
     simp only [qE] at h
     obtain ⟨h1,h2⟩:=ym h
     simp only [zyL] at h1
     simp only [buildA]
     rw [<- ZO h2,zyM h1.1,zfM h1.2]
    | cons=>simp [qE] at h
   | _=>simp [qE] at h
  | _=>simp [qE] at h
 | .l i off :: ak,s :: ss,ds,h=>by
  cases s with
  | loc i' off' =>
   simp only [qE] at h
   obtain ⟨h1,h2⟩:=ym h
   simp only [zyL] at h1
   simp only [buildA]
   rw [<- ZO h2,zyM h1.1,zyM h1.2]
  | _=>simp [qE] at h
 | .m g :: ak,[],ds,h=>by simp [qE] at h
 | .e :: ak,[],ds,h=>by simp [qE] at h
 | .m g :: ak,s :: ss,ds,h=>by
  unfold qE at h
  split at h
  all_goals first | (simp at *; done) | skip
  ·rename_i heq1 heq2
   cases heq1
   cases heq2
   obtain ⟨h1,h2⟩:=ym h
   simp only [buildA]
   rw [<- ZO h2,zyM h1]
 | .e :: ak,s :: ss,ds,h=>by
  unfold qE at h
  split at h
  all_goals first | (simp at *; done) | skip
  ·rename_i heq1 heq2
   cases heq1
   cases heq2
   simp only [buildA]
   rw [<- ZO h]
theorem YG:∀ (ak:List AK) (ss:List S),(buildA ak ss).length <= ak.length
 | [],_=>by simp [buildA]
 | .d c :: ak,[]=>by simp [buildA]
 | .d c :: ak,s :: ss=>by simp [buildA]; exact YG ak ss
 | .f g caps :: ak,ss=>by simp [buildA]; exact YG ak ss
 | .l i o :: ak,ss=>by simp [buildA]; exact YG ak ss
 | .m g :: ak,ss=>by simp [buildA]; exact YG ak ss
 | .e :: ak,ss=>by simp [buildA]; exact YG ak ss
theorem Zr:∀ (ak:List AK) {ss ds:List S},zi ss = zi ds->zi (buildA ak ss) = zi (buildA ak ds)
 | [],_,_,_=>rfl
 | .d c :: ak,[],[],_=>rfl
 | .d c :: ak,[],_ :: _,h=>by simp [zi] at h
 | .d c :: ak,_ :: _,[],h=>by simp [zi] at h
 | .d c :: ak,s :: ss,d :: ds,h=>by
  simp only [zi,List.cons.injEq] at h
  simp only [buildA,zi,h.1,Zr ak h.2]
 | .f g caps :: ak,ss,ds,h=>by simp only [buildA,zi,Zr ak h]
 | .l i off :: ak,ss,ds,h=>by simp only [buildA,zi,Zr ak h]
 | .m g :: ak,ss,ds,h=>by simp only [buildA,zi,Zr ak h]
 | .e :: ak,ss,ds,h=>by simp only [buildA,zi,Zr ak h]
abbrev BK:=List (C × TypeId)
@[reducible] def bkC (b:BK):List C:=b.map (·.1)
def Yv:(b:BK)->qW (bkC b)->List qg
 | [],_=>[]
 | [c],x=>[.cells (qP (refl c.1 x)) c.2]
 | c :: d :: b,x=>.cells (qP (refl c.1 x.1)) c.2 :: Yv (d :: b) x.2
def zlL (c:C) (ty:TypeId):qg->Option (den c)
 | .cells cs ty'=>bif Nat.beq ty' ty then (match Ze c (.agg cs) with
  | some y=>some y
  | none=>(match cs with
   | [.agg _]=>none
   | [x]=>Ze c x
   | _=>none)) else none
 | _=>none
def YL:(b:BK)->List qg->Option (qW (bkC b))
 | [],[]=>some ()
 | [c],[B]=>zlL c.1 c.2 B
 | c :: d :: b,B :: Bs=>(match zlL c.1 c.2 B,YL (d :: b) Bs with | some x,some y=>some (x,y) | _,_=>none)
 | _,_=>none
theorem zfN {c:C} {ty:TypeId} {B:qg} {x:den c} (h:zlL c ty B = some x):zE B = zE (.cells (qP (refl c x)) ty):=by
 cases B with
 | map=>cases h
 | cells cs ty' =>
  simp only [zlL] at h
  obtain ⟨h1,h2⟩:=ym h
  have ht:=zyM h1
  subst ht
  simp only [zE]
  congr 1
  rw [QQ]
  split at h2
  ·rename_i y hy
   cases h2
   have:=yV hy
   simp only [toV] at this
   rw [<- this]; rfl
  ·split at h2
   ·cases h2
   ·rename_i z hz _
    have:=yV h2
    rw [<- this]
    have hne:∀ ds,z ≠ .agg ds:=fun ds e=>hz ds (by rw [e])
    have hcl:(toV z).cellsL = [toV z]:=by
     cases z with
     | agg ds=>exact absurd rfl (hne ds)
     | gel g o=>simp only [toV]; split <;> rfl
     | ivd x=>simp only [toV]; exact zco x
     | _=>rfl
    rw [hcl]; simp [zi]
   ·cases h2
theorem zbf:∀ {b:BK} {Bs:List qg} {x:qW (bkC b)},YL b Bs = some x->Bs.map zE = (Yv b x).map zE
 | [],[],x,h=>rfl
 | [],_ :: _,x,h=>by simp [YL] at h
 | [c],[],x,h=>by simp [YL] at h
 | [c],[B],x,h=>by
  simp only [YL] at h
  simp only [Yv,List.map_cons,List.map_nil,zfN h]
 | [c],_ :: _ :: _,x,h=>by simp [YL] at h
 | c :: d :: b,[],x,h=>by simp [YL] at h
 | c :: d :: b,B :: Bs,x,h=>by
  simp only [YL] at h
  split at h
  ·rename_i y z hy hz
   cases h
   simp only [Yv,List.map_cons,zfN hy]
   congr 1
   exact zbf hz
  ·cases h
theorem YM:∀ (b:BK) (x:qW (bkC b)),(Yv b x).length = b.length
 | [],_=>rfl
 | [c],_=>rfl
 | c :: d :: b,x=>by simp [Yv,YM (d :: b) x.2]
theorem zec {s:S} (h:yk s = true):qD (qP s) = true:=by
 cases s <;> simp_all [qP,yk,qD]
theorem zbg:∀ (b:BK) (x:qW (bkC b)),∀ B ∈ Yv b x,zbY B = true
 | [],_=>by simp [Yv]
 | [c],x=>by
  intro B hB
  simp [Yv] at hB; subst hB
  exact zec (Q6 _ _)
 | c :: d :: b,x=>by
  intro B hB
  simp only [Yv,List.mem_cons] at hB
  rcases hB with rfl | hB
  ·exact zec (Q6 _ _)
  ·exact zbg (d :: b) x.2 B hB
def FnT (P:Program) (f:FuncId) (ak:List AK) (rs:List C) (g:qW (Zq ak)->Option (qW rs)):Prop :=
 ∀ x r,g x = some r->Go.Eng.Fn P f (zi (buildA ak (ZW _ x))) [] (zik rs r) []
def FnB (P:Program) (f:FuncId) (ak:List AK) (b:BK) (rs:List C) (g:qW (Zq ak)->qW (bkC b)->Option (qW rs × qW (bkC b))):Prop :=
 ∀ x y r y',g x y = some (r,y')->Go.Eng.Fn P f (zi (buildA ak (ZW _ x))) ((Yv b y).map zE) (zik rs r) ((Yv b y').map zE)
def XSpec.t {P:Program} (f:FuncId) (ak:List AK) (rs:List C) (g:qW (Zq ak)->Option (qW rs)) (hgo:zbH P f = true) (h:FnT P f ak rs g):XSpec P where
 f:=f
 run:=fun args ins K=>match ins with
  | []=>(match qE ak args with
   | some ds=>(match Yu (Zq ak) ds with
    | some x=>some ((g x).bind fun r=>K (zpV rs r) [])
    | none=>none)
   | none=>none)
  | _=>none
 sound:=by
  intro β args ins K r hr
  split at hr
  ·split at hr
   ·rename_i ds hd
    split at hr
    ·rename_i x hx
     simp only [zyO] at hr
     obtain ⟨y,h1,h2⟩:=bind_some hr
     refine ⟨_,_,h2,hgo,?_,zda rs y,by simp,rfl⟩
     have hF:=h x y h1
     have e:=YY hx
     rw [<- zcr] at e
     rw [<- Zr ak e,<- ZO hd] at hF
     exact hF
    ·cases hr
   ·cases hr
  ·cases hr
def XSpec.b {P:Program} (f:FuncId) (ak:List AK) (b:BK) (rs:List C) (g:qW (Zq ak)->qW (bkC b)->Option (qW rs × qW (bkC b))) (hgo:zbH P f = true) (h:FnB P f ak b rs g):XSpec P where
 f:=f
 run:=fun args ins K=>match qE ak args,YL b ins with
  | some ds,some y=>(match Yu (Zq ak) ds with
    | some x=>some ((g x y).bind fun r=>K (zpV rs r.1) (Yv b r.2))
    | none=>none)
  | _,_=>none
 sound:=by
  intro β args ins K r hr
  split at hr
  ·rename_i ds y hd hy
   split at hr
   ·rename_i x hx
    simp only [zyO] at hr
    obtain ⟨z,h1,h2⟩:=bind_some hr
    have hb:=zbf hy
    refine ⟨_,_,h2,hgo,?_,zda rs _,zbg b _,?_⟩
    ·have hF:=h x y z.1 z.2 h1
     have e:=YY hx
     rw [<- zcr] at e
     rw [<- Zr ak e,<- ZO hd,<- hb] at hF
     exact hF
    ·rw [YM,<- YM b y]
     have:=congrArg List.length hb
     simpa using this.symm
   ·cases hr
  ·cases hr
theorem FnT.of {P:Program} {X:ze1 P} (hm:P.follows .mixedOrders = true) {f:FuncId} {fn:Func} {c:Code} {ak:List AK} {rs:List C} {g:qW (Zq ak)->Option (qW rs)} (a:Ann)
  (hf:P.funcs[f]? = some fn) (hb:fn.body = some c) (hok:okX fn.ntmps c a = true) (hsz:ak.length <= fn.ntmps)
  (h:∀ x,zqH X fn.results.toList c a (buildA ak (ZW _ x)) [] (fun res _=>zbe rs res) = g x):FnT P f ak rs g:=by
 intro x r hr
 exact zqN (X:=X) hm hf hb hok (Nat.le_trans (YG _ _) hsz) ((h x).trans hr) (fun res outs hk ho=>⟨zfK hk,by
  have:outs = []:=List.eq_nil_of_length_eq_zero ho
  rw [this]; rfl⟩) (zfL rs r) (by simp) (Nat.le_refl _)
theorem FnB.of {P:Program} {X:ze1 P} (hm:P.follows .mixedOrders = true) {f:FuncId} {fn:Func} {c:Code} {ak:List AK} {b:BK} {rs:List C} {g:qW (Zq ak)->qW (bkC b)->Option (qW rs × qW (bkC b))} (a:Ann)
  (hf:P.funcs[f]? = some fn) (hb:fn.body = some c) (hok:okX fn.ntmps c a = true) (hsz:ak.length <= fn.ntmps)
  (h:∀ x y,zqH X fn.results.toList c a (buildA ak (ZW _ x)) (Yv b y) (fun res outs=>match zbe rs res,YL b outs with | some r,some z=>some (r,z) | _,_=>none) = g x y):FnB P f ak b rs g:=by
 intro x y r y' hr
 refine zqN (X:=X) hm hf hb hok (Nat.le_trans (YG _ _) hsz) ((h x y).trans hr) (fun res outs hk ho=>?_) (zfL rs r) ?_ (by simp [YM])
 ·split at hk
  ·rename_i r' z h1 h2
   cases hk
   exact ⟨zfK h1,zbf h2⟩
  ·cases hk
 ·intro B hB
  obtain ⟨B',hB',rfl⟩:=List.mem_map.1 hB
  exact zd3 (zbg b y' B' hB')
end Go.X
