import Derived.Test.YtjcbpfhlgebgdaaGreatDoorX3
open Bool renaming and_eq_true -> zuc
open Nat renaming eq_of_beq_eq_true -> zud
open Nat renaming le_of_ble_eq_true -> zue
open Option.some renaming injEq -> zuf
open List renaming eq_nil_of_length_eq_zero -> zui
set_option linter.unusedSimpArgs false
set_option linter.unusedVariables false
namespace Go.X
open Go.Eng
open Go.RowKit
variable {β:Type}
section
variable {P:Program} {code:TypeId->Option C} {ro:RO} {m:Mm} {r:β} {K:S->Option β} {Kp:V->Prop} {K2:S->Tk->Option β} {K2p:V->Tk->Prop}
theorem zjo {s:TypeId} {i:Nat} {x:S} (hK:∀ s,K s = some r->Kp (toV s)) (h:zl8 P s i x K = some r):zcU P s i (toV x) Kp:=by
 unfold zl8 at h
 unfold zcU
 split at h
 ·rename_i off t cs hf
  simp only [hf,toV]
  split at h
  ·rename_i n ha hs
   simp only [ha,hs]
   have:=hK _ h
   simpa only [toV,Ql] using this
  ·rename_i ha
   simp only [ha]
   split at h
   ·rename_i c hc
    simp only [ZS,hc,Option.map_some]
    exact hK _ h
   ·cases h
  ·cases h
 ·cases h
theorem QW {i:Int} {n:Nat} (h:inB i n = true):0 <= i/\i < (n:Int):=by
 simpa [inB] using h
theorem zjp {t:TypeId} {x i:S} (hK:∀ s,K s = some r->Kp (toV s)) (h:zl9 P code t x i K = some r):Qs P t (toV x) (toV i) Kp:=by
 have hK':∀ s v,K s = some r->toV s = v->Kp v:=fun s v h e=>e ▸ hK s h
 unfold zl9 at h
 split at h
 ·rename_i c l k i
  split at h
  ·rename_i en he
   obtain ⟨e,n⟩:=en
   obtain ⟨e1,e2,rfl⟩:=ZT he
   obtain ⟨y,h1,h2⟩:=bind_some h
   obtain ⟨q1,q2,q3⟩:=QU h1
   simp only [toV,Qs,e1,e2]
   refine ⟨yK c l,⟨q1,by simpa using q2⟩,hK' _ _ h2 ?_⟩
   have hg:(l.map (enc c)).getD i.toNat .any = enc c y:=by simp [List.getD,q3]
   rw [hg]
   simp only [toV]
   rw [Y6]
  ·cases h
 ·split at h
  ·rename_i len e ha
   split at h
   ·rename_i n hs
    split at h
    ·have h0:=(zZ h).1
     have h9:=(zZ h).2
     clear h
     simp only [zuc] at h0
     have hn:=zud h0.1
     subst hn
     rcases brS h9 with ⟨h1,h2⟩ | ⟨_,h2⟩
     ·simp only [toV,Qs,ha,hs]
      exact ⟨QW h1,hK' _ _ h2 (by simp [toV])⟩
     ·cases h2
    ·rcases brS h with ⟨h1,h2⟩ | ⟨_,h2⟩
     ·simp only [toV,Qs,ha,hs]
      exact ⟨QW h1,hK' _ _ h2 (by simp [toV])⟩
     ·cases h2
   ·cases h
  ·cases h
 ·split at h
  ·rename_i len e ha
   split at h
   ·rename_i n hs
    rcases brS h with ⟨h1,h2⟩ | ⟨_,h2⟩
    ·simp only [toV,Qs,ha,hs]
     exact ⟨QW h1,hK' _ _ h2 (by simp [toV])⟩
    ·cases h2
   ·cases h
  ·cases h
 ·split at h
  ·rename_i len e ha
   split at h
   ·rename_i n vs hs hv
    rcases brS h with ⟨h1,h2⟩ | ⟨_,h2⟩
    ·simp only [toV,hv,Qs,ha,hs]
     exact ⟨QW h1,hK' _ _ h2 (by simp [toV,hv])⟩
    ·cases h2
   ·cases h
  ·cases h
 ·cases h
theorem zjq {t:TypeId} {x i:S} (hK:∀ s,K s = some r->Kp (toV s)) (h:zma P code t x i K = some r):zaN P t (toV x) (toV i) Kp:=by
 have hK':∀ s v,K s = some r->toV s = v->Kp v:=fun s v h e=>e ▸ hK s h
 unfold zma at h
 split at h
 ·rename_i s k i
  split at h
  ·rename_i hb
   obtain ⟨y,h1,h2⟩:=bind_some h
   simp only [toV,zaN,hb]
   unfold yi at h1
   cases hx:idx s i with
   | none=>rw [hx] at h1; cases h1
   | some z =>
    rw [hx] at h1
    cases h1
    obtain ⟨q1,q2,q3⟩:=QU hx
    refine ⟨⟨q1,q2⟩,hK' _ _ h2 ?_⟩
    simp [toV,List.getD,q3]
  ·cases h
 ·rename_i cs k i
  split at h
  ·rename_i len e ha
   split at h
   ·rename_i n hs1 hs2
    split at h
    ·rename_i c k' hac
     have h0:=(zZ h).1
     have h9:=(zZ h).2
     clear h
     have hn:=zud h0
     subst hn
     rcases brS h9 with ⟨h1,h2⟩ | ⟨_,h2⟩
     ·simp only [toV,zaN,ha,hs1,hs2]
      refine ⟨QW h1,?_⟩
      split at h2
      ·rename_i l hl
       obtain ⟨y,h3,h4⟩:=bind_some h2
       obtain ⟨q1,q2,q3⟩:=QU h3
       have hget:(zg cs)[i.toNat * 1]? = some (enc c y):=by rw [zaL hl,List.getElem?_map,Nat.mul_one,q3]; rfl
       rw [hget]
       simp only
       rw [<- qw]
       exact hK _ h4
      ·cases h2
     ·cases h2
    ·rcases brS h with ⟨h1,h2⟩ | ⟨_,h2⟩
     ·simp only [toV,zaN,ha,hs1,hs2]
      refine ⟨QW h1,?_⟩
      split at h2
      ·rename_i c hc
       simp only [ZS,hc,Option.map_some]
       exact hK _ h2
      ·cases h2
     ·cases h2
   ·cases h
  ·cases h
 ·cases h
theorem znA {place:Nat->Option (Nat × Nat)}:∀ {parts:List (Nat × S)} {cells out:List S},zkQ place cells parts = some out->zex place (zg cells) (parts.map fun x=>(x.1,toV x.2)) = some (zg out)
 | [],cells,out,h=>by simp only [zkQ,zuf] at h; subst h; rfl
 | (i,v) :: rest,cells,out,h=>by
  simp only [zkQ] at h
  simp only [List.map_cons,zex]
  split at h
  ·rename_i off size n hp hc
   obtain ⟨h1,h2⟩:=zZ h
   simp only [zuc] at h1
   have e1:=zud h1.1
   have e2:=zue h1.2
   subst e1
   simp only [hp,QT hc]
   rw [if_neg (by rw [yI]; omega)]
   have:=znA h2
   rw [qH,qH,zaJ,zaI,zaK hc] at this
   exact this
  ·cases h
theorem Qv {t:TypeId} {s:S} (h:zbK P t = some s):ZM P t = some (toV s):=by
 unfold zbK at h
 unfold ZM
 cases hz:(P.info? t).bind (·.zero) with
 | none=>rw [hz] at h; cases h
 | some z=>rw [hz] at h; cases h; simp [zek]
theorem zjr {t:TypeId} {parts:List (Nat × Operand)} (hK:∀ s,K s = some r->Kp (toV s)) (h:zmb P ro m t parts K = some r):zff P t (za ro m) parts Kp:=by
 unfold zmb at h
 unfold zff
 split at h
 ·rename_i zv place hz hp
  simp only [Qv hz,hp]
  split at h
  ·rename_i n hc
   split at h
   ·rename_i out hf
    have:=znA hf
    rw [zaK hc] at this
    have e:(parts.map fun x=>(x.1,zx ro m x.2)).map (fun x=>(x.1,toV x.2)) = parts.map fun x=>(x.1,(za ro m).eval x.2):=by
     rw [List.map_map]
     exact List.map_congr_left fun x _=>by simp [zk]
    rw [e] at this
    refine ⟨by rw [QT hc]; rfl,?_⟩
    rw [this]
    have:=hK _ h
    simpa only [toV] using this
   ·cases h
  ·cases h
 ·cases h
theorem zkW {n:Nat}:∀ {ss:List S},zi5 n ss = true->yO n (zg ss)
 | [],_=>by intro v hv; simp [zg] at hv
 | s :: ss,h=>by
  simp only [zi5,zuc] at h
  intro v hv
  simp only [zg,List.mem_cons] at hv
  rcases hv with rfl | hv
  ·have h1:=h.1
   split at h1
   ·rename_i k hk
    rw [QT hk,zud h1]
   ·cases h1
  ·exact zkW h.2 v hv
theorem zhh {t:TypeId} {len:Nat} {parts:List (Nat × Operand)} {dst:Option Nat} (hK:∀ s tk,K2 s tk = some r->K2p (toV s) tk) (h:zi6 P code ro m t len parts dst K2 = some r) :
  zcV P t (za ro m) len parts dst K2p:=by
 have hK':∀ s tk v,K2 s tk = some r->toV s = v->K2p v tk:=fun s tk v h e=>e ▸ hK s tk h
 have e:zg (parts.map fun x=>zx ro m x.2) = parts.map fun x=>(za ro m).eval x.2:=by
  rw [ZQ,List.map_map]
  exact List.map_congr_left fun x _=>zk ro m x.2
 unfold zi6 at h
 unfold zcV
 split at h
 ·rename_i e' he
  simp only [he]
  split at h
  ·rename_i sz zv hs hz
   simp only [hs,Qv hz]
   split at h
   ·rename_i zn hzn
    obtain ⟨h1,h2⟩:=zZ h
    simp only [zuc,Bool.not_eq_true'] at h1
    obtain ⟨⟨⟨⟨a1,a2⟩,a3⟩,a4⟩,a5⟩:=h1
    have a1':sz ≠ 0:=fun e=>by subst e; cases a1
    have a2':=zud a2
    subst a2'
    refine ⟨⟨a1',QT hzn,zud a3,zue a4,a5⟩,?_⟩
    split at h2
    ·rename_i c hc
     split at h2
     ·rename_i l hl
      obtain ⟨h3,h4⟩:=zZ h2
      have h3':=zud h3
      have hq:=zaL hl
      rw [e] at hq
      rw [hq]
      refine ⟨by rw [<- h3']; exact yK c l,hK' _ _ _ h4 (by simp [toV])⟩
     ·cases h2
    ·obtain ⟨h3,h4⟩:=zZ h2
     rw [<- e]
     exact ⟨zkW h3,hK' _ _ _ h4 (by simp [toV])⟩
   ·cases h
  ·cases h
 ·cases h
theorem zmp {x:S} (hK:∀ s,K s = some r->Kp (toV s)) (h:zsR x K = some r):zhx (toV x) Kp:=by
 have hK':∀ s v,K s = some r->toV s = v->Kp v:=fun s v h e=>e ▸ hK s h
 unfold zsR at h
 split at h
 ·simp only [toV,zhx]; exact hK' _ _ h (by simp [toV])
 ·simp only [toV,zhx]; exact hK' _ _ h (by simp [toV])
 ·split at h
  ·rename_i vs hv
   simp only [toV,hv,zhx]; exact hK' _ _ h (by simp [toV,hv])
  ·cases h
 ·cases h
theorem zmq {t:TypeId} {x:S} (hK:∀ s,K s = some r->Kp (toV s)) (h:zsS P t x K = some r):zhy P t (toV x) Kp:=by
 have hK':∀ s v,K s = some r->toV s = v->Kp v:=fun s v h e=>e ▸ hK s h
 unfold zsS at h
 split at h
 ·split at h
  ·rename_i e he
   simp only [toV,zhy,he]; exact hK' _ _ h (by simp [toV])
  ·cases h
 ·split at h
  ·rename_i e he
   simp only [toV,zhy,he]; exact hK' _ _ h (by simp [toV,yI])
  ·cases h
 ·split at h
  ·rename_i he
   simp only [toV,zhy,he]; exact hK' _ _ h (by simp [toV])
  ·cases h
 ·cases h
theorem zgH {b:Builtin} {args:List S} {tys:List TypeId} (hK:∀ s,K s = some r->Kp (toV s)) (h:zgB P b args tys K = some r):Qz P b (zg args) tys Kp:=by
 have hK':∀ s v,K s = some r->toV s = v->Kp v:=fun s v h e=>e ▸ hK s h
 unfold zgB at h
 split at h
 ·simp only [zg,Qz]; exact zmq hK h
 ·obtain ⟨h1,h2⟩:=zbe h
  simp only [zg,toV,Qz]; exact ⟨h1,hK' _ _ h2 (by simp [toV])⟩
 ·obtain ⟨h1,h2⟩:=zbe h
  simp only [zg,toV,Qz]; exact ⟨h1,hK' _ _ h2 (by simp [toV])⟩
 ·cases h
theorem zhi {o:Oper} {x:Operand} (hK:∀ s tk,K2 s tk = some r->K2p (toV s) tk) (h:zi7 P code ro m o x K2 = some r):zcW P o (za ro m) x K2p:=by
 have hK':∀ s tk v,K2 s tk = some r->toV s = v->K2p v tk:=fun s tk v h e=>e ▸ hK s tk h
 unfold zi7 at h
 unfold zcW
 split at h
 ·split at h
  ·rename_i e he
   simp only [he]
   split at h
   ·exact hK' _ _ _ h (by simp [toV])
   ·exact hK' _ _ _ h (by simp [toV,zg])
  ·rename_i he
   simp only [he]
   exact hK' _ _ _ h (by simp [toV,zg])
 ·rename_i hne
  split
  ·exact absurd rfl hne
  ·have:=hK _ _ h
   rwa [zk,zml] at this
theorem zkX {c a b:S} (hK:∀ s,K s = some r->Kp (toV s)) (h:zp6 c a b K = some r):∃ t,toV c = .bool t/\Kp (zmJ t (toV a) (toV b)):=by
 have hK':∀ s v,K s = some r->toV s = v->Kp v:=fun s v h e=>e ▸ hK s h
 unfold zp6 at h
 split at h
 ·rename_i t
  refine ⟨t,by simp [toV],?_⟩
  rw [zjK]
  split at h
  ·exact hK' _ _ h (by cases t <;> simp [toV])
  ·obtain ⟨h1,h2⟩:=zbe h
   subst h1
   exact hK' _ _ h2 (by cases t <;> simp [toV])
  ·exact hK' _ _ h (by cases t <;> simp [toV])
  ·rcases brS h with ⟨h1,h2⟩ | ⟨h1,h2⟩
   ·subst h1; exact hK _ h2
   ·subst h1; exact hK _ h2
 ·cases h
theorem zmr {o:Oper} (hK:∀ s tk,K2 s tk = some r->K2p (toV s) tk) (h:zp7 P code ro m o K2 = some r):Zp P o (za ro m) K2p:=by
 have hK1:∀ s,K2 s none = some r->K2p (toV s) none:=fun s=>hK s none
 unfold zp7 at h
 split at h
 ·rename_i x ho
  have:=hK _ _ h
  rw [zk,zml] at this
  simp only [Zp,ho]; exact this
 ·rename_i ho; simp only [Zp,ho]; exact zhi hK h
 ·rename_i c x y ho
  obtain ⟨t,h1,h2⟩:=zkX (Kp:=(K2p · none)) hK1 h
  simp only [Zp,ho]
  rw [<- zk,<- zk,<- zk,h1]
  exact h2
 ·rename_i ho; simp only [Zp,ho]; rw [<- zk]; exact zbR (Kp:=(K2p · none)) hK1 h
 ·rename_i ho; simp only [Zp,ho]; rw [<- zk,<- zk]; exact zmo (Kp:=(K2p · none)) hK1 h
 ·rename_i ho; simp only [Zp,ho]; rw [<- zk]; exact zoo (Kp:=(K2p · none)) hK1 h
 ·rename_i ho; simp only [Zp,ho]; rw [<- zk]; exact zkV (Kp:=(K2p · none)) hK1 h
 ·rename_i t x ho
  obtain ⟨h1,h2⟩:=zZ h
  have:=hK1 _ h2
  simp only [toV] at this
  simp only [Zp,ho]; rw [<- zk]; exact ⟨h1,this⟩
 ·rename_i f first cap ho
  have:=hK1 _ h
  simp only [toV,zbP] at this
  simp only [Zp,ho]; exact this
 ·rename_i ho; simp only [Zp,ho]; rw [<- zk]; exact zhg hK h
 ·rename_i ho; simp only [Zp,ho]; rw [<- zk]; exact zjn (Kp:=(K2p · none)) hK1 h
 ·rename_i ho; simp only [Zp,ho]; rw [<- zk]; exact zjo (Kp:=(K2p · none)) hK1 h
 ·rename_i ho; simp only [Zp,ho]; rw [<- zk,<- zk]; exact zjp (Kp:=(K2p · none)) hK1 h
 ·rename_i ho; simp only [Zp,ho]; rw [<- zk,<- zk]; exact zjq (Kp:=(K2p · none)) hK1 h
 ·rename_i x i ho
  simp only [Zp,ho]; rw [<- zk]
  split at h
  ·rename_i vs hx
   rw [hx]
   split at h
   ·rename_i v hv
    simp only [toV,ZS,hv,Option.map_some]
    exact hK1 _ h
   ·cases h
  ·cases h
 ·rename_i ho; simp only [Zp,ho]; exact zjr (Kp:=(K2p · none)) hK1 h
 ·rename_i ho; simp only [Zp,ho]; exact zhh hK h
 ·rename_i ho; simp only [Zp,ho]; rw [<- zk]; exact zmp (Kp:=(K2p · none)) hK1 h
 ·rename_i b args tys ho
  simp only [Zp,ho]; rw [<- zbP]; exact zgH (Kp:=(K2p · none)) hK1 h
 ·cases h
end
end Go.X
namespace Go.X
open Go.Eng
open Go.RowKit
def pv (x:S × Tk):V × Tk:=(toV x.1,x.2)
mutual
def ltV (n:Nat):V->Bool
 | .loc i _=>decide (i < n)
 | .mref i=>decide (i < n)
 | .agg cs=>ZU n cs
 | .tup cs=>ZU n cs
 | .elt cs _=>ZU n cs
 | .list rows=>ZU n rows
 | .fn _ a b=>ZU n a && ZU n b
 | .iface _ v=>ltV n v
 | _=>true
def ZU (n:Nat):List V->Bool
 | []=>true
 | c :: cs=>ltV n c && ZU n cs
end
mutual
theorem zgI (n:Nat):∀ v:V,v.noLoc = true->ltV n v = true
 | .loc _ _,h=>by simp [V.noLoc] at h
 | .mref _,h=>by simp [V.noLoc] at h
 | .agg cs,h=>by simp only [V.noLoc] at h; simp only [ltV]; exact Z5 n cs h
 | .tup cs,h=>by simp only [V.noLoc] at h; simp only [ltV]; exact Z5 n cs h
 | .elt cs _,h=>by simp only [V.noLoc] at h; simp only [ltV]; exact Z5 n cs h
 | .list cs,h=>by simp only [V.noLoc] at h; simp only [ltV]; exact Z5 n cs h
 | .fn _ a b,h=>by
  simp only [V.noLoc,zuc] at h
  simp only [ltV,zuc]; exact ⟨Z5 n a h.1,Z5 n b h.2⟩
 | .iface _ v,h=>by simp only [V.noLoc] at h; simp only [ltV]; exact zgI n v h
 | .any,_=>rfl
 | .un,_=>rfl
 | .int _ _,_=>rfl
 | .bool _,_=>rfl
 | .str _,_=>rfl
 | .nilp,_=>rfl
 | .nilfn,_=>rfl
 | .nilif,_=>rfl
 | .nilm,_=>rfl
 | .ptr _,_=>rfl
theorem Z5 (n:Nat):∀ cs:List V,V.noLocL cs = true->ZU n cs = true
 | [],_=>rfl
 | c :: cs,h=>by
  simp only [V.noLocL,zuc] at h
  simp only [ZU,zuc]; exact ⟨zgI n c h.1,Z5 n cs h.2⟩
end
section
variable {w:World} {pr:Nat->Nat->Prop} {lam lam':Nat->Option Nat} {n:Nat}
mutual
theorem zms (hl:∀ i,n <= i->lam i = none):∀ (v:V) (x:Value),R ⟨w,pr,lam⟩ v x->ltV n v = true
 | .loc i _,_,q=>by
  simp only [R] at q
  obtain ⟨b,e,_⟩:=q
  simp only [ltV,decide_eq_true_eq]
  rcases Nat.lt_or_ge i n with h | h
  ·exact h
  ·exact absurd (hl i h) (by rw [show lam i = some b from e]; simp)
 | .mref i,_,q=>by
  simp only [R] at q
  obtain ⟨b,e,_⟩:=q
  simp only [ltV,decide_eq_true_eq]
  rcases Nat.lt_or_ge i n with h | h
  ·exact h
  ·exact absurd (hl i h) (by rw [show lam i = some b from e]; simp)
 | .agg cs,_,q=>by
  simp only [R] at q; obtain ⟨xs,_,q,_⟩:=q
  simp only [ltV]; exact zh7 hl cs xs q
 | .tup cs,_,q=>by
  simp only [R] at q; obtain ⟨xs,_,q⟩:=q
  simp only [ltV]; exact zh7 hl cs xs q
 | .elt cs _,_,q=>by
  simp only [R] at q; obtain ⟨b,o,_,q⟩:=q
  simp only [ltV]; exact zr4 hl b o cs q
 | .list rows,_,q=>by
  simp only [R] at q; obtain ⟨base,cap,_,_,_,q⟩:=q
  simp only [ltV]
  rcases q with ⟨q,_⟩ | ⟨b,o,k,_,q⟩
  ·subst q; rfl
  ·exact zr5 hl b k o rows q
 | .fn _ a c,_,q=>by
  simp only [R] at q; obtain ⟨xs,ys,_,q1,q2⟩:=q
  simp only [ltV,zuc]; exact ⟨zh7 hl a xs q1,zh7 hl c ys q2⟩
 | .iface _ v,_,q=>by
  simp only [R] at q; obtain ⟨y,_,q⟩:=q
  simp only [ltV]; exact zms hl v y q
 | .any,_,_=>rfl
 | .un,_,_=>rfl
 | .int _ _,_,_=>rfl
 | .bool _,_,_=>rfl
 | .str _,_,_=>rfl
 | .nilp,_,_=>rfl
 | .nilfn,_,_=>rfl
 | .nilif,_,_=>rfl
 | .nilm,_,_=>rfl
 | .ptr _,_,_=>rfl
theorem zh7 (hl:∀ i,n <= i->lam i = none):∀ (cs:List V) (xs:List Value),RL ⟨w,pr,lam⟩ cs xs->ZU n cs = true
 | [],_,_=>rfl
 | c :: cs,_,q=>by
  simp only [RL] at q; obtain ⟨y,ys,_,q1,q2⟩:=q
  simp only [ZU,zuc]; exact ⟨zms hl c y q1,zh7 hl cs ys q2⟩
theorem zr4 (hl:∀ i,n <= i->lam i = none) (b:Nat):∀ (o:Nat) (cs:List V),RC ⟨w,pr,lam⟩ b o cs->ZU n cs = true
 | _,[],_=>rfl
 | o,c :: cs,q=>by
  simp only [RC] at q; obtain ⟨⟨y,_,_,q1⟩,q2⟩:=q
  simp only [ZU,zuc]; exact ⟨zms hl c y q1,zr4 hl b (o + 1) cs q2⟩
theorem zr5 (hl:∀ i,n <= i->lam i = none) (b k:Nat):∀ (o:Nat) (cs:List V),RR ⟨w,pr,lam⟩ b k o cs->ZU n cs = true
 | _,[],_=>rfl
 | o,c :: cs,q=>by
  simp only [RR] at q; obtain ⟨⟨y,q1,_⟩,q2⟩:=q
  simp only [ZU,zuc]; exact ⟨zms hl c y q1,zr5 hl b k (o + k) cs q2⟩
end
mutual
theorem zeK (hl:∀ i,i < n->lam' i = lam i):∀ (v:V) (x:Value),ltV n v = true->R ⟨w,pr,lam⟩ v x->R ⟨w,pr,lam'⟩ v x
 | .loc i _,_,h,q=>by
  simp only [ltV,decide_eq_true_eq] at h
  simp only [R] at q ⊢
  obtain ⟨b,e,q⟩:=q
  exact ⟨b,(hl i h).trans e,q⟩
 | .mref i,_,h,q=>by
  simp only [ltV,decide_eq_true_eq] at h
  simp only [R] at q ⊢
  obtain ⟨b,e,q⟩:=q
  exact ⟨b,(hl i h).trans e,q⟩
 | .agg cs,_,h,q=>by
  simp only [ltV] at h; simp only [R] at q ⊢
  obtain ⟨xs,e,q,q1⟩:=q
  exact ⟨xs,e,zem hl cs xs h q,q1⟩
 | .tup cs,_,h,q=>by
  simp only [ltV] at h; simp only [R] at q ⊢
  obtain ⟨xs,e,q⟩:=q
  exact ⟨xs,e,zem hl cs xs h q⟩
 | .elt cs _,_,h,q=>by
  simp only [ltV] at h; simp only [R] at q ⊢
  obtain ⟨b,o,e,q⟩:=q
  exact ⟨b,o,e,zqj hl b o cs h q⟩
 | .list rows,_,h,q=>by
  simp only [ltV] at h; simp only [R] at q ⊢
  obtain ⟨base,cap,e1,e2,e3,q⟩:=q
  refine ⟨base,cap,e1,e2,e3,?_⟩
  rcases q with q | ⟨b,o,k,e4,q⟩
  ·exact .inl q
  ·exact .inr ⟨b,o,k,e4,zqk hl b k o rows h q⟩
 | .fn _ a c,_,h,q=>by
  simp only [ltV,zuc] at h; simp only [R] at q ⊢
  obtain ⟨xs,ys,e,q1,q2⟩:=q
  exact ⟨xs,ys,e,zem hl a xs h.1 q1,zem hl c ys h.2 q2⟩
 | .iface _ v,_,h,q=>by
  simp only [ltV] at h; simp only [R] at q ⊢
  obtain ⟨y,e,q⟩:=q
  exact ⟨y,e,zeK hl v y h q⟩
 | .any,_,_,_=>by simp [R]
 | .un,_,_,q=>by simpa [R] using q
 | .int _ _,_,_,q=>by simpa [R] using q
 | .bool _,_,_,q=>by simpa [R] using q
 | .str _,_,_,q=>by simpa [R] using q
 | .nilp,_,_,q=>by simpa [R] using q
 | .nilfn,_,_,q=>by simpa [R] using q
 | .nilif,_,_,q=>by simpa [R] using q
 | .nilm,_,_,q=>by simpa [R] using q
 | .ptr _,_,_,q=>by simpa [R] using q
theorem zem (hl:∀ i,i < n->lam' i = lam i):∀ (cs:List V) (xs:List Value),ZU n cs = true->RL ⟨w,pr,lam⟩ cs xs->RL ⟨w,pr,lam'⟩ cs xs
 | [],_,_,q=>by simpa [RL] using q
 | c :: cs,_,h,q=>by
  simp only [ZU,zuc] at h; simp only [RL] at q ⊢
  obtain ⟨y,ys,e,q1,q2⟩:=q
  exact ⟨y,ys,e,zeK hl c y h.1 q1,zem hl cs ys h.2 q2⟩
theorem zqj (hl:∀ i,i < n->lam' i = lam i) (b:Nat):∀ (o:Nat) (cs:List V),ZU n cs = true->RC ⟨w,pr,lam⟩ b o cs->RC ⟨w,pr,lam'⟩ b o cs
 | _,[],_,_=>by simp [RC]
 | o,c :: cs,h,q=>by
  simp only [ZU,zuc] at h; simp only [RC] at q ⊢
  obtain ⟨⟨y,e1,e2,q1⟩,q2⟩:=q
  exact ⟨⟨y,e1,e2,zeK hl c y h.1 q1⟩,zqj hl b (o + 1) cs h.2 q2⟩
theorem zqk (hl:∀ i,i < n->lam' i = lam i) (b k:Nat):∀ (o:Nat) (cs:List V),ZU n cs = true->RR ⟨w,pr,lam⟩ b k o cs->RR ⟨w,pr,lam'⟩ b k o cs
 | _,[],_,_=>by simp [RR]
 | o,c :: cs,h,q=>by
  simp only [ZU,zuc] at h; simp only [RR] at q ⊢
  obtain ⟨⟨y,q1,e⟩,q2⟩:=q
  exact ⟨⟨y,zeK hl c y h.1 q1,e⟩,zqk hl b k (o + k) cs h.2 q2⟩
end
theorem zr6 (hl:∀ i,n <= i->lam i = none):∀ (cs:List V) (es:List MapEntry),RM ⟨w,pr,lam⟩ cs es->ZU n cs = true
 | [],_,_=>rfl
 | c :: cs,_,q=>by
  simp only [RM] at q
  obtain ⟨k,v,e,es',rfl,_,h3,h4,h5⟩:=q
  simp only [ZU,ltV,zuc,Bool.and_true]
  exact ⟨⟨zms hl _ _ h3,zms hl _ _ h4⟩,zr6 hl cs es' h5⟩
theorem zql (hl:∀ i,i < n->lam' i = lam i):∀ (cs:List V) (es:List MapEntry),ZU n cs = true->RM ⟨w,pr,lam⟩ cs es->RM ⟨w,pr,lam'⟩ cs es
 | [],_,_,q=>by simpa [RM] using q
 | c :: cs,_,h,q=>by
  simp only [RM] at q ⊢
  obtain ⟨k,v,e,es',rfl,h2,h3,h4,h5⟩:=q
  simp only [ZU,ltV,zuc,Bool.and_true] at h
  exact ⟨k,v,e,es',rfl,h2,zeK hl _ _ h.1.1 h3,zeK hl _ _ h.1.2 h4,zql hl cs es' h.2 h5⟩
theorem zqm {b:Nat} {B:Box} (hl:∀ i,n <= i->lam i = none) (h:Yg ⟨w,pr,lam⟩ b B):ZU n B.cells = true:=by
 rcases Nat.lt_or_ge B.ty ZL with q | q
 ·obtain ⟨cur,_,h2,_⟩:=h.cells q
  exact zh7 hl _ _ h2
 ·obtain ⟨es,clock,_,h2,_⟩:=h.map q
  exact zr6 hl _ _ h2
theorem zoq {b:Nat} {B:Box} (hl:∀ i,i < n->lam' i = lam i) (hn:ZU n B.cells = true) (h:Yg ⟨w,pr,lam⟩ b B):Yg ⟨w,pr,lam'⟩ b B:=by
 refine ⟨fun ht=>?_,fun ht=>?_⟩
 ·obtain ⟨cur,h1,h2,h3⟩:=h.cells ht
  exact ⟨cur,h1,zem hl _ _ hn h2,h3⟩
 ·obtain ⟨es,clock,h1,h2,h3⟩:=h.map ht
  exact ⟨es,clock,h1,zql hl _ _ hn h2,h3⟩
end
def Wk (x' x:V × Tk):Prop:=x' = x ∨ x' = (x.1,none) ∨ x' = (.any,none)
theorem zq.weak {P:Program} {F:Fr} {st:St} {a:Act} {w:World} {pr:Nat->Nat->Prop} {lam:Nat->Option Nat} (h:zq P F st a w pr lam) {nb':Nat} {sl':Nat->V × Tk} (hw:∀ s,Wk (sl' s) (st.sl s)) :
  zq P F ⟨nb',sl',st.box⟩ a w pr lam:=by
 have ht:∀ s t e,(sl' s).2 = some (t,e)->st.tok s = some (t,e):=by
  intro s t e hs
  rcases hw s with q | q | q <;> rw [q] at hs
  ·exact hs
  ·cases hs
  ·cases hs
 refine ⟨h.size,h.defers,fun s=>?_,fun s t e hs=>h.own s t e (ht s t e hs),fun s s' t t' e e' g hs hs'=>h.coh s s' t t' e e' g (ht _ _ _ hs) (ht _ _ _ hs'),h.box,h.inj,fun i B b s t e hB hl hs=>h.apart i B b s t e hB hl (ht _ _ _ hs),h.nolam,h.prlt,h.keep,h.prsub,h.prnew,h.lamsub,
  fun s s' t e e' hs hs'=>h.coh2 s s' t e e' (ht _ _ _ hs) (ht _ _ _ hs'),fun s t e hs hc=>?_,fun s s' t e e' b o g hs hs'=>h.ptr s s' t e e' b o g (ht _ _ _ hs) (ht _ _ _ hs')⟩
 rotate_right
 ·have ho:=h.old s t e (ht _ _ _ hs) hc
  show R _ (sl' s).1 _
  change (sl' s).2 = some (t,e) at hs
  rcases hw s with q | q | q
  ·rw [q]; exact ho
  ·rw [q] at hs; cases hs
  ·rw [q] at hs; cases hs
 show R _ (sl' s).1 _
 rcases hw s with q | q | q <;> rw [q]
 ·exact h.env s
 ·exact h.env s
 ·simp [R]
theorem zq.drop {P:Program} {F:Fr} {st:St} {a:Act} {w:World} {pr:Nat->Nat->Prop} {lam:Nat->Option Nat} (h:zq P F st a w pr lam) {n nb':Nat} (h1:∀ s,ltV n (st.sl s).1 = true)
  (h2:∀ i B,i < n->st.box i = some B->ZU n B.cells = true) (h3:∀ i b,F.lam0 i = some b->i < n) :
  zq P F ⟨nb',st.sl,fun i=>if i < n then st.box i else none⟩ a w pr (fun i=>if i < n then lam i else none):=by
 have hl:∀ i,i < n->(fun i=>if i < n then lam i else none) i = lam i:=fun i hi=>if_pos hi
 have hbx:∀ i B,(if i < n then st.box i else none) = some B->i < n/\st.box i = some B:=by
  intro i B hB
  split at hB
  ·exact ⟨‹_›,hB⟩
  ·cases hB
 have hlx:∀ i b,(if i < n then lam i else none) = some b->lam i = some b:=by
  intro i b hB
  split at hB
  ·exact hB
  ·cases hB
 refine ⟨h.size,h.defers,fun s=>zeK hl _ _ (h1 s) (h.env s),h.own,h.coh,fun i B hB=>?_,fun i j B B' b hB hB' q q'=>?_,fun i B b s t e hB q hs=>?_,fun i hi=>?_,h.prlt,h.keep,h.prsub,h.prnew,fun i b hi=>?_,h.coh2,fun s t e hs hc=>zeK hl _ _ (h1 s) (h.old s t e hs hc),h.ptr⟩
 ·obtain ⟨q1,q2⟩:=hbx i B hB
  obtain ⟨b,r1,r2,r3,r4⟩:=h.box i B q2
  exact ⟨b,by rw [<- r1]; exact if_pos q1,zoq hl (h2 i B q1 q2) r2,r3,r4⟩
 ·exact h.inj i j B B' b (hbx i B hB).2 (hbx j B' hB').2 (hlx _ _ q) (hlx _ _ q')
 ·exact h.apart i B b s t e (hbx i B hB).2 (hlx _ _ q) hs
 ·show (if i < n then lam i else none) = none
  by_cases q:i < n
  ·rw [if_pos q]
   have hi':(if i < n then st.box i else none) = none:=hi
   rw [if_pos q] at hi'
   exact h.nolam i hi'
  ·rw [if_neg q]
 ·show (if i < n then lam i else none) = some b
  rw [if_pos (h3 i b hi)]
  exact h.lamsub i b hi
end Go.X
namespace Go.X
open Go.Eng
open Go.RowKit
theorem zqn {tk:Nat} {rows':List V} {x:V × Option (Nat × TypeId)} (h:∀ e,x.2 ≠ some (tk,e)):Wk (qt tk rows' x) x:=by
 rcases Yu tk rows' x with ⟨e,q,_⟩ | q | ⟨q,_⟩
 ·exact absurd q (h e)
 ·exact .inr (.inr q)
 ·exact .inl q
open Classical in
theorem zq.bear {P:Program} {F:Fr} {st:St} {a:Act} {w:World} {pr:Nat->Nat->Prop} {lam:Nat->Option Nat} (h:zq P F st a w pr lam) {ss tk:Nat} {e:TypeId} {rows:List V} (hs:st.env ss = .list rows) (ht:st.tok ss = some (tk,e)) (hcl:tcl tk = 0) :
  zq P F ⟨st.nb,fun s=>if ∃ e',(st.sl s).2 = some (tk,e') then (.list rows,(st.sl s).2) else st.sl s,st.box⟩ a w pr lam:=by
 have htok:∀ s,(⟨st.nb,fun s=>if ∃ e',(st.sl s).2 = some (tk,e') then (.list rows,(st.sl s).2) else st.sl s,st.box⟩:St).tok s = st.tok s:=by
  intro s
  show (if _ then _ else _:V × Option (Nat × TypeId)).2 = (st.sl s).2
  split <;> rfl
 refine ⟨h.size,h.defers,fun s=>?_,fun s t e hq=>h.own s t e (htok s ▸ hq),fun s s' t t' e e' g h1 h2=>h.coh s s' t t' e e' g (htok s ▸ h1) (htok s' ▸ h2),h.box,h.inj,fun i B b s t e hB hl hq=>h.apart i B b s t e hB hl (htok s ▸ hq),h.nolam,h.prlt,h.keep,h.prsub,h.prnew,h.lamsub,
  fun s s' t e e' h1 h2=>h.coh2 s s' t e e' (htok s ▸ h1) (htok s' ▸ h2),fun s t e' hq h2=>?_,fun s s' t e e' b o g h1 h2=>h.ptr s s' t e e' b o g (htok s ▸ h1) (htok s' ▸ h2)⟩
 ·show R _ (if _ then _ else _:V × Option (Nat × TypeId)).1 _
  split
  ·rename_i hex
   obtain ⟨e',hq⟩:=hex
   have hv:=h.coh2 s ss tk e' e hq ht hcl
   have:=h.env ss
   rw [hs,<- hv] at this
   exact this
  ·exact h.env s
 ·show R _ (if _ then _ else _:V × Option (Nat × TypeId)).1 _
  rw [htok s] at hq
  rw [if_neg]
  ·exact h.old s t e' hq h2
  ·rintro ⟨e'',hq'⟩
   have hq2:(st.sl s).2 = some (t,e'):=hq
   rw [hq2] at hq'
   cases hq'
   omega
open Classical in
theorem zmt {st:St} {tk:Nat} (s:Nat):Wk ((st.changed tk []).sl s) ((⟨st.nb,fun s=>if ∃ e',(st.sl s).2 = some (tk,e') then (.list [],(st.sl s).2) else st.sl s,st.box⟩:St).sl s):=by
 show Wk (qt tk [] (st.sl s)) (if _ then _ else _)
 split
 ·rename_i hex
  obtain ⟨e',hq⟩:=hex
  refine .inl ?_
  unfold qt
  rw [hq]
  simp
 ·rename_i hex
  exact zqn fun e' hq=>hex ⟨e',hq⟩
theorem zgJ {P:Program} (w:World) (d:Nat) (t e:TypeId) (a:Option Addr) (l c:Nat) (h:P.underlying t = some (.slice e)):(Op.equalIn (d + 1) t (.slice a l c) (.slice none 0 0)).run P w = .ok a.isNone w:=by
 cases a <;> simp [Op.equalIn,run_underlying h]
theorem zdA {P:Program} (w:World) (t e:TypeId) (a:Option Addr) (l c:Nat) (h:P.underlying t = some (.slice e)):(Op.equal t (.slice a l c) (.slice none 0 0)).run P w = .ok a.isNone w:=zgJ w 9999 t e a l c h
theorem zgK {P:Program} {n':Nat} {o:Oper} {st:St} {K:St->Prop} {op:BinOp} {t u e:TypeId} {x:Operand} {rows:List V} {w:Bool} (ho:o.op = .binOp op t x (.const (.slice none 0 0)) u) (hop:(op = .eql/\w = false) ∨ (op = .neq/\w = true)) (hT:P.underlying t = some (.slice e))
  (hx:st.eval x = .list rows) (hd:∀ d,o.dst = some d->d < n') (hk:∀ b:Bool,(rows ≠ []->b = w)->K (st.put o.dst (.bool b) none)):Z2 P n' o st K:=by
 intro F a w0 pr lam hF h next Q hn
 subst hF
 have h1:=h.eval x
 rw [hx] at h1
 simp only [R] at h1
 obtain ⟨base,cap,e1,_,_,hb⟩:=h1
 have key:∃ b:Bool,(rows ≠ []->b = w)/\(execOp a.eval o).run P w0 = .ok (.value (.bool b)) w0:=by
  have hbase:rows ≠ []->base.isNone = false:=by
   intro hr
   rcases hb with ⟨h1,_⟩ | ⟨b,o',k,rfl,_⟩
   ·exact absurd h1 hr
   ·rfl
  rcases hop with ⟨rfl,rfl⟩ | ⟨rfl,rfl⟩
  ·refine ⟨base.isNone,hbase,?_⟩
   have he:=zdA w0 t e base rows.length cap hT
   have e2:a.eval (.const (.slice none 0 0)) = .slice none 0 0:=rfl
   simp [execOp,ho,e1,e2,eqGuard,binOp,he]
  ·refine ⟨!base.isNone,fun hr=>by rw [hbase hr]; rfl,?_⟩
   have he:=zdA w0 t e base rows.length cap hT
   have e2:a.eval (.const (.slice none 0 0)) = .slice none 0 0:=rfl
   simp [execOp,ho,e1,e2,eqGuard,binOp,he]
 obtain ⟨b,h2,hr⟩:=key
 unfold Oper.wp
 rw [hr,Oper.upon_value]
 exact hn _ _ w0 pr lam (hk b h2) (h.put hd (by simp [R]) trivial)
theorem zor {P:Program} {n':Nat} {o:Oper} {st:St} {K:St->Prop} {α:Type} {enc:α->V} {sz:Nat} {srt:List α->List α} {d:List α} {f:FuncId} {g:Option FuncId} {ss tk:Nat} {e:TypeId} {c:Operand} {ys:List Operand} {args:Array Operand} {tys:Array TypeId}
  (ho:o.op = .call { callee:=.value c,args:=args,argTypes:=tys }) (ha:args = (Operand.tmp ss :: ys).toArray) (hc:st.eval c = .fn (.func f) [] []) (hy:match g with | none=>ys = [] | some g=>∃ y,ys = [y]/\st.eval y = .fn (.func g) [] []) (hgo:zaR P f = true)
  (hss:st.env ss = .list (d.map enc)) (htk:st.tok ss = some (tk,e)) (hcl:tcl tk = 0) (hsz:zj P e = some sz) (hrows:yO sz (d.map enc)) (hbf:∀ i B,st.box i = some B->V.flatL B.cells = true)
  (hS:zr2 P f g enc sz srt) (hlt:d.length < 4611686018427387904) (hd:∀ x,o.dst = some x->x < n') (hk:K ((st.changed tk ((srt d).map enc)).put o.dst (.tup []) none)):Z2 P n' o st K:=by
 intro F a w pr lam hF h next Q hn
 subst hF
 subst ha
 have h1:=h.eval c
 rw [hc] at h1
 simp only [R] at h1
 obtain ⟨xs,ys,e1,q1,q2⟩:=h1
 simp only [RL] at q1 q2
 subst q1; subst q2
 have hargs:(([]:List Value).toArray++((Operand.tmp ss :: ys).toArray).map a.eval++([]:List Value).toArray) = zkR (a.tmps.getD ss undef) g:=by
  have e3:a.eval (.tmp ss) = a.tmps.getD ss undef:=rfl
  cases g with
  | none =>
   subst hy
   simp only [List.map_toArray,List.map_cons,List.map_nil,e3,List.append_toArray,List.nil_append,List.append_nil,zkR]
  | some g =>
   obtain ⟨y,rfl,hy⟩:=hy
   have h2:=h.eval y
   rw [hy] at h2
   simp only [R] at h2
   obtain ⟨xs,ys,e2,q1,q2⟩:=h2
   simp only [RL] at q1 q2
   subst q1; subst q2
   simp only [List.map_toArray,List.map_cons,List.map_nil,e2,e3,List.append_toArray,List.nil_append,List.append_nil,zkR]
 unfold Oper.wp
 rw [zaw ho e1 hgo,Oper.upon_enter,hargs]
 by_cases hne:d = []
 ·subst hne
  have hR:=h.env ss
  rw [hss] at hR
  simp only [List.map_nil,R] at hR
  obtain ⟨base,cap,hv,_⟩:=hR
  rw [hv]
  refine (hS.nil w pr base cap h.hl).mono ?_
  rintro en w' ⟨rfl,hb,hdl⟩
  have hext:Ext w pr w' pr:=⟨hb,hdl,fun _ _ h=>h,fun _ _ h=>.inl h⟩
  have hsr:srt [] = []:=zui (hS.len [])
  rw [hsr] at hk
  have hw:=zq.weak (zq.bear (h.ext hext) hss htk hcl) (nb':=st.nb) (sl':=(st.changed tk []).sl) zmt
  refine hn _ _ w' pr lam hk (zq.put (st:=st.changed tk []) hw hd ?_ trivial)
  simp [R,RL]
 ·have hne':d.map enc ≠ []:=by simpa using hne
  obtain ⟨blk,cap,cur,hvs,hcp,hm,hg,hN,hgb,hcs,hrr,hpr⟩:=h.own0 hss htk hcl hsz hrows hne'
  rw [hvs]
  rw [List.length_map] at hcp hvs ⊢
  have hgl:∀ k vs,GL k = some vs->blk ≠ k:=fun k vs hq=>F.mine_gl hN hq
  refine (hS.row w pr lam blk cap d cur e h.hl hgl hne hcp hm hlt hgb hcs hrr).mono ?_
  rintro en w' ⟨rfl,w1,cur',hsw,hgb',hsize,hrr',hb,hdl⟩
  have hlen:((srt d).map enc).length = (d.map enc).length:=by simp [hS.len]
  have hch:=h.changed (sz:=sz) htk hcl (by rw [List.length_map]; exact hvs) hg hN hsw hgb hgb' hsize hbf hlen (by rw [List.length_map]; exact hcp) hm hrr'
  have hext:Ext w1 pr w' pr:=⟨hb,hdl,fun _ _ h=>h,fun _ _ h=>.inl h⟩
  refine hn _ _ w' pr lam hk ((hch.ext hext).put hd ?_ trivial)
  simp [R,RL]
end Go.X
namespace Go.X
open Go.Eng
open Go.RowKit
variable {β:Type}
mutual
theorem znB {f g:Nat->Nat}:∀ s:S,(∀ i ∈ ZJ s,g (f i) = i)->V.ren g (toV (Qo f s)) = toV s
 | .any,_=>by simp [toV,Qo,V.ren]
 | .un,_=>by simp [toV,Qo,V.ren]
 | .int _ _,_=>by simp [toV,Qo,V.ren]
 | .bool _,_=>by simp [toV,Qo,V.ren]
 | .str _,_=>by simp [toV,Qo,V.ren]
 | .agg cs,h=>by simp only [Qo,toV,V.ren]; rw [YS cs (by simpa [ZJ] using h)]
 | .tup cs,h=>by simp only [Qo,toV,V.ren]; rw [YS cs (by simpa [ZJ] using h)]
 | .loc i o,h=>by simp only [Qo,toV,V.ren]; rw [h i (by simp [ZJ])]
 | .loco i o n ix,h=>by simp only [Qo,toV,V.ren]; rw [h i (by simp [ZJ])]
 | .elt cs o,h=>by simp only [Qo,toV,V.ren]; rw [YS cs (by simpa [ZJ] using h)]
 | .gel g' o,_=>by simp only [Qo]; exact V.ren_noLoc _ _ (zh3 g' o)
 | .nilp,_=>by simp [toV,Qo,V.ren]
 | .lst c l,_=>by
  simp only [Qo]
  refine V.ren_noLoc _ _ ?_
  simp only [toV,V.noLoc]; exact yH (Z4 c) l
 | .rows vs,h=>by simp only [Qo,toV,V.ren]; rw [YS vs (by simpa [ZJ] using h)]
 | .fn f' a b,h=>by
  simp only [Qo,toV,V.ren]
  have h':∀ i,i ∈ yP a ∨ i ∈ yP b->g (f i) = i:=by simpa [ZJ] using h
  rw [YS a (fun i hi=>h' i (.inl hi)),YS b (fun i hi=>h' i (.inr hi))]
 | .nilfn,_=>by simp [toV,Qo,V.ren]
 | .iface t v,h=>by simp only [Qo,toV,V.ren]; rw [znB v (by simpa [ZJ] using h)]
 | .nilif,_=>by simp [toV,Qo,V.ren]
 | .mref i,h=>by simp only [Qo,toV,V.ren]; rw [h i (by simp [ZJ])]
 | .nilm,_=>by simp [toV,Qo,V.ren]
 | .ptr _ _ _,_=>by simp [toV,Qo,V.ren]
 | .ivd x,_=>by simp only [Qo,toV]; exact V.ren_noLoc _ _ (zgp x)
theorem YS {f g:Nat->Nat}:∀ cs:List S,(∀ i ∈ yP cs,g (f i) = i)->V.renL g (zg (zaG f cs)) = zg cs
 | [],_=>by simp [zg,zaG,V.renL]
 | c :: cs,h=>by
  simp only [zaG,zg,V.renL]
  have h':∀ i,i ∈ ZJ c ∨ i ∈ yP cs->g (f i) = i:=by simpa [yP] using h
  rw [znB c (fun i hi=>h' i (.inl hi)),YS cs (fun i hi=>h' i (.inr hi))]
end
mutual
theorem zbU:∀ s:S,ZJ s = []->yD s = true
 | .any,_=>by simp [yD]
 | .un,_=>by simp [yD]
 | .int _ _,_=>by simp [yD]
 | .bool _,_=>by simp [yD]
 | .str _,_=>by simp [yD]
 | .agg cs,h=>by simp only [yD]; exact yX cs (by simpa [ZJ] using h)
 | .tup cs,h=>by simp only [yD]; exact yX cs (by simpa [ZJ] using h)
 | .loc i o,h=>by simp [ZJ] at h
 | .loco i o n ix,h=>by simp [ZJ] at h
 | .elt cs o,h=>by simp only [yD]; exact yX cs (by simpa [ZJ] using h)
 | .gel g' o,_=>by simp [yD]
 | .nilp,_=>by simp [yD]
 | .lst c l,_=>by simp [yD]
 | .rows vs,h=>by simp only [yD]; exact yX vs (by simpa [ZJ] using h)
 | .fn f' a b,h=>by
  have h':yP a = []/\yP b = []:=by simpa [ZJ] using h
  simp only [yD,yX a h'.1,yX b h'.2,Bool.and_self]
 | .nilfn,_=>by simp [yD]
 | .iface t v,h=>by simp only [yD]; exact zbU v (by simpa [ZJ] using h)
 | .nilif,_=>by simp [yD]
 | .mref i,h=>by simp [ZJ] at h
 | .nilm,_=>by simp [yD]
 | .ptr _ _ _,_=>by simp [yD]
 | .ivd _,_=>by simp [yD]
theorem yX:∀ cs:List S,yP cs = []->qD cs = true
 | [],_=>rfl
 | c :: cs,h=>by
  have h':ZJ c = []/\yP cs = []:=by simpa [yP] using h
  simp only [qD,zbU c h'.1,yX cs h'.2,Bool.and_self]
end
theorem zjs {l:List Nat} {i:Nat}:l.any (Nat.beq i) = true ↔ i ∈ l:=by
 rw [List.any_eq_true]
 constructor
 ·rintro ⟨x,hx,hb⟩; rw [zud hb]; exact hx
 ·intro h; exact ⟨i,h,by simp⟩
theorem QX:∀ (l acc:List Nat),acc.Nodup->(Qk l acc).Nodup/\(∀ i ∈ acc,i ∈ Qk l acc)/\(∀ i ∈ l,i ∈ Qk l acc)/\(∀ i ∈ Qk l acc,i ∈ l ∨ i ∈ acc)
 | [],acc,h=>⟨h,fun i hi=>hi,fun i hi=>by simp at hi,fun i hi=>.inr hi⟩
 | j :: l,acc,h=>by
  simp only [Qk]
  cases hb:acc.any (Nat.beq j) with
  | true =>
   obtain ⟨h1,h2,h3,h4⟩:=QX l acc h
   have hj:=zjs.1 hb
   refine ⟨h1,h2,fun i hi=>?_,fun i hi=>?_⟩
   ·simp at hi; rcases hi with rfl | hi
    ·exact h2 i hj
    ·exact h3 i hi
   ·rcases h4 i hi with h | h
    ·exact .inl (by simp [h])
    ·exact .inr h
  | false =>
   have hj:j ∉ acc:=fun hj=>by rw [zjs.2 hj] at hb; cases hb
   obtain ⟨h1,h2,h3,h4⟩:=QX l (acc++[j]) (by
    rw [List.nodup_append]
    refine ⟨h,by simp,fun a ha b hb=>?_⟩
    simp at hb; subst hb
    exact fun e=>hj (e ▸ ha))
   refine ⟨h1,fun i hi=>h2 i (by simp [hi]),fun i hi=>?_,fun i hi=>?_⟩
   ·simp at hi; rcases hi with rfl | hi
    ·exact h2 _ (by simp)
    ·exact h3 i hi
   ·rcases h4 i hi with h | h
    ·exact .inl (by simp [h])
    ·simp at h; rcases h with h | rfl
     ·exact .inr h
     ·exact .inl (by simp)
theorem zcM:∀ (π:List Nat) (i:Nat),i ∈ π->π[zef π i]? = some i
 | x :: xs,i,h=>by
  simp only [zef]
  cases hb:Nat.beq x i with
  | true=>simp only [cond_true]; rw [zud hb]; rfl
  | false =>
   simp only [cond_false]
   have hne:i ≠ x:=fun e=>by subst e; simp at hb
   simp [hne] at h
   rw [List.getElem?_cons_succ]
   exact zcM xs i h
section
variable {P:Program} {X:zcm P} {ro:RO} {m:Mm} {r:β}
theorem YT {f:FuncId} {args:List S} {ins:List yW} {K:S->List yW->Option β}:∀ {ss:List (ze P)},zaH ss f args ins K = some (some r) ->
  ∃ res outs,K res outs = some r/\zaR P f = true/\Go.Eng.Fn P f (zg args) (ins.map zD) (toV res) (outs.map zD)/\yD res = true/\(∀ B ∈ outs,zbL B = true)/\outs.length = ins.length
 | [],h=>by cases h
 | s :: ss,h=>by
  simp only [zaH] at h
  cases hf:Nat.beq s.f f with
  | false=>rw [hf] at h; exact YT h
  | true =>
   rw [hf] at h
   simp only [cond_true] at h
   have e:=zud hf
   cases hr:s.run args ins K with
   | none=>rw [hr] at h; exact YT h
   | some o =>
    rw [hr] at h
    simp only [zuf] at h
    subst h
    have:=s.sound args ins K r hr
    rwa [e] at this
theorem zcd {i:Nat} {B:yW} (h:zT ro m i = some B) (ho:ro.ownB i = true):i < m.bx.length:=by
 unfold zT at h
 rw [ho] at h
 simp only [cond_true] at h
 cases hq:m.bx[i]? with
 | none=>rw [hq] at h; cases h
 | some _=>exact (List.getElem?_eq_some_iff.1 hq).1
theorem zhj {a b:Nat} (h:Nat.blt a b = true):a < b:=zue h
theorem zqo {sl:T (S × Tk)} {bx:List (Option yW)} {i j:Nat} {B:yW} (ho:ro.ownB i = true) (hi:i < bx.length):zT ro ⟨sl,bx.set i (some B)⟩ j = if j = i then some B else zT ro ⟨sl,bx⟩ j:=by
 unfold zT
 by_cases h:j = i
 ·subst h; rw [if_pos rfl,ho]; simp [hi]
 ·rw [if_neg h]
  cases hq:ro.ownB j
  ·rfl
  ·simp only [cond_true]
   rw [List.getElem?_set_ne (Ne.symm h)]
theorem zos {sl:T (S × Tk)} {bx:List (Option yW)} {j:Nat} {B:yW} (hn:Nat.ble ro.nb bx.length = true):zT ro ⟨sl,bx++[some B]⟩ j = if j = bx.length then some B else zT ro ⟨sl,bx⟩ j:=by
 unfold zT
 by_cases h:j = bx.length
 ·subst h
  have:ro.ownB bx.length = true:=by unfold RO.ownB; rw [hn]; rfl
  rw [if_pos rfl,this]
  simp
 ·rw [if_neg h]
  cases hq:ro.ownB j
  ·rfl
  ·simp only [cond_true]
   rcases Nat.lt_or_ge j bx.length with q | q
   ·rw [List.getElem?_append_left q]
   ·rw [List.getElem?_eq_none (by simp; omega),List.getElem?_eq_none (by omega)]
theorem YB {sl:T (S × Tk)} {bx:List (Option yW)} {i:Nat} {B:yW} (ho:ro.ownB i = true) (hi:i < bx.length):za ro ⟨sl,bx.set i (some B)⟩ = (za ro ⟨sl,bx⟩).setBox i (zD B):=by
 unfold za St.setBox
 congr 1
 ·simp
 ·funext j
  unfold upd
  rw [zqo ho hi]
  split <;> rfl
theorem zaY:∀ {π:List Nat} {ins:List yW},zeh ro m π = some ins->YI (za ro m) π (ins.map zD)/\(∀ i ∈ π,ro.ownB i = true/\i < m.bx.length)
 | [],ins,h=>by simp only [zeh,zuf] at h; subst h; exact ⟨trivial,fun i hi=>by simp at hi⟩
 | i :: π,ins,h=>by
  simp only [zeh] at h
  split at h
  ·rename_i B hB
   obtain ⟨h1,h2⟩:=zZ h
   simp only [zuc] at h1
   split at h2
   ·rename_i bs hbs
    cases h2
    obtain ⟨q1,q2⟩:=zaY hbs
    refine ⟨⟨⟨?_,zbQ h1.1⟩,q1⟩,fun j hj=>?_⟩
    ·show (zT ro m i).map zD = _
     rw [hB]; rfl
    ·simp at hj
     rcases hj with rfl | hj
     ·exact ⟨h1.2,zcd hB h1.2⟩
     ·exact q2 j hj
   ·cases h2
  ·cases h
theorem zbV:∀ {π:List Nat} {outs:List yW} {bx:List (Option yW)} {sl:T (S × Tk)},π.length = outs.length->(∀ i ∈ π,ro.ownB i = true/\i < bx.length) ->
  za ro ⟨sl,zgC bx π outs⟩ = (za ro ⟨sl,bx⟩).setBoxes π (outs.map zD)
 | [],[],bx,sl,_,_=>by simp [zgC,St.setBoxes]
 | [],_ :: _,_,_,h,_=>by simp at h
 | _ :: _,[],_,_,h,_=>by simp at h
 | i :: π,B :: outs,bx,sl,h,ho=>by
  simp only [zgC,List.map_cons,St.setBoxes]
  rw [zbV (by simpa using h) (fun j hj=>by
   have:=ho j (by simp [hj])
   exact ⟨this.1,by simpa using this.2⟩),YB (ho i (by simp)).1 (ho i (by simp)).2]
theorem zaZ {m:Mm} (h:Nat.ble ro.nb m.bx.length = true):(za ro m).box (za ro m).nb = none:=by
 show (zT ro m m.bx.length).map zD = none
 unfold zT RO.ownB
 rw [h]
 simp
variable {Kp:St->Prop}
theorem zkY {dr:Bool} {f:FuncId} {first args cap:List S} {dst:Option Nat} {k:Mm->Option β} (hK:∀ m',k m' = some r->Kp (za ro m')) (h:zp8 X ro dr m f args dst k = some r) :
  zli P f (zg args) (fun v=>Kp ((za ro m).put dst v none)) ∨ (dr = false/\ziD P f (zg args) (za ro m) dst (Kp)):=by
 unfold zp8 at h
 split at h
 ·rename_i hd
  split at h
  ·rename_i o ho
   subst h
   obtain ⟨res,outs,h1,h2,h3,h4,h5,h6⟩:=YT (ss:=X.known) ho
   obtain ⟨m',e,hk⟩:=zm h1
   have ho:outs = []:=zui (by simpa using h6)
   subst ho
   refine .inl ⟨h2,?_,toV res,h3,?_⟩
   rotate_left
   ·have:=hK m' hk; rw [<- e] at this; exact this
   have hl:yP args = []:=by
    cases hq:yP args with
    | nil=>rfl
    | cons i l =>
     have:=(QX (yP args) [] (by simp)).2.2.1 i (by rw [hq]; simp)
     rw [hd] at this; simp at this
   exact ZD _ (yX _ hl)
  ·cases h
 ·rename_i hd
  have hdr:dr = false/\Nat.ble ro.nb m.bx.length = true:=by
   cases dr <;> cases hb:Nat.ble ro.nb m.bx.length <;> rw [hb] at h <;> first | (cases h; done) | exact ⟨rfl,rfl⟩
  obtain ⟨hdr,hnb⟩:=hdr
  subst hdr
  ·rw [hnb] at h
   simp only [Bool.not_true,Bool.or_self,cond_false] at h
   split at h
   ·rename_i ins hins
    split at h
    ·rename_i o ho
     subst h
     obtain ⟨res,outs,h1,h2,h3,h4,h5,h6⟩:=YT (ss:=X.known) ho
     obtain ⟨m',e,hk⟩:=zm h1
     obtain ⟨b1,b2⟩:=zaY hins
     obtain ⟨d1,_,d3,_⟩:=QX (yP args) [] (by simp)
     obtain ⟨l1,l2⟩:=Zu b1
     have hlen:(Qk (yP args) []).length = outs.length:=by rw [l1,h6]; simp
     refine .inr ⟨rfl,h2,Qk (yP args) [],_,_,_,_,d1,zaZ hnb,?_,b1,by simp [h6],?_,zdy _ h4,h3,?_⟩
     ·rw [YS]
      intro i hi
      have:=zcM _ i (d3 i hi)
      simp [List.getD,this]
     ·intro B hB
      obtain ⟨B',hB',rfl⟩:=List.mem_map.1 hB
      exact zbQ (h5 B' hB')
     ·have:=hK m' hk
      rw [<- e,zbV hlen b2] at this
      exact this
    ·cases h
   ·cases h
theorem zcs {B:yW} {dst:Option Nat} {v:S} {k:Mm->Option β} (hK:∀ m',k m' = some r->Kp (za ro m')) (h:zfs ro m B dst v k = some r) :
  (za ro m).box (za ro m).nb = none/\Kp (({ nb:=m.bx.length + 1,sl:=(za ro m).sl,box:=upd (za ro m).box m.bx.length (some (zD B)) }:St).put dst (toV v) none):=by
 unfold zfs at h
 obtain ⟨h1,h2⟩:=zZ h
 refine ⟨zaZ h1,?_⟩
 obtain ⟨m',e,hk⟩:=zm h2
 have:=hK m' hk
 rw [<- e] at this
 refine (congrArg Kp ?_).mp this
 congr 1
 unfold za
 congr 1
 ·simp
 ·funext j
  unfold upd
  rw [zos h1]
  split <;> rfl
theorem zgL {e:TypeId} {v:S} {dst:Option Nat} {k:Mm->Option β} (hK:∀ m',k m' = some r->Kp (za ro m')) (h:zrH ro m e v dst k = some r):zoO (za ro m) e (toV v) dst (Kp):=by
 unfold zrH at h
 split at h
 ·rename_i n hn
  obtain ⟨h1,h2⟩:=zZ h
  obtain ⟨h3,h4⟩:=zcs hK h2
  refine ⟨?_,by rw [QT hn]; rfl,h3,?_⟩
  ·exact zhj h1
  ·have e1:zD (.cells (qN v) e) = ⟨(toV v).cellsL,e⟩:=by simp [zD,zaK hn]
   rw [e1] at h4
   simp only [toV] at h4
   exact h4
 ·cases h
theorem zgM {c:C}:∀ (n:Nat) (l:List (den c)) (k:Nat),zg (zdw c n l k) = (List.range' k n).map fun k=>enc c (l.getD k (dfl c))
 | 0,_,_=>rfl
 | n + 1,l,k=>by
  simp only [zdw,zg,List.range'_succ,List.map_cons,qw]
  rw [zgM n l (k + 1)]
theorem zjt {t:TypeId} {x y:S} {dst:Option Nat} {k:Mm->Option β} (hK:∀ m',k m' = some r->Kp (za ro m')) (h:zmc X ro m t x y dst k = some r):Q4 P t (za ro m) (toV x) (toV y) dst (Kp):=by
 unfold zmc at h
 split at h
 ·rename_i i off
  split at h
  ·rename_i cs ty n n' hB hs hy
   obtain ⟨h1,h2⟩:=zZ h
   simp only [zuc] at h1
   obtain ⟨⟨⟨a1,a2⟩,a3⟩,a4⟩:=h1
   have a2':=zud a2
   subst a2'
   have hb:(za ro m).box i = some ⟨zg cs,ty⟩:=by show (zT ro m i).map zD = _; rw [hB]; rfl
   simp only [toV,Q4,hb,hs]
   refine ⟨?_,QT hy,by rw [yI]; exact zue a3,trivial,?_⟩
   ·exact zhj a1
   ·have:=hK _ h2
    rw [YB a4 (zcd hB a4)] at this
    simp only [zD,qH,zaJ,zaI,zaK hy] at this
    exact this
  ·cases h
 ·rename_i i a n ix
  split at h
  ·rename_i cs ty c z hB hc hz
   split at h
   ·rename_i l v hl hv
    obtain ⟨h1,h2⟩:=zZ h
    simp only [zuc] at h1
    obtain ⟨⟨⟨⟨⟨a1,a2⟩,a5⟩,a6⟩,a3⟩,a4⟩:=h1
    have hz1:=zud a2
    subst hz1
    have hc1:=zud a5
    have hle:=zue a3
    obtain ⟨l',h3,h4⟩:=bind_some h2
    unfold zp9 at h3
    split at h3
    case isFalse=>cases h3
    rename_i hin
    cases h3
    have hb:(za ro m).box i = some ⟨zg cs,ty⟩:=by show (zT ro m i).map zD = _; rw [hB]; rfl
    have hseg:=zaL hl
    have hlen:l.length = n:=by
     have:=congrArg List.length hseg
     rw [yI,List.length_map,List.length_take,List.length_drop] at this
     omega
    have hvv:toV y = enc c v:=yl hv
    have hcell:(toV y).cellsL = [toV y]:=by cases y <;> first | rfl | (simp only [toV]; exact zcb _) | (simp only [toV]; split <;> rfl) | exact absurd a6 (by simp [zr3])
    simp only [toV,Q4,hb,hz]
    refine ⟨zhj a1,by rw [hvv,zhR,hc1],by rw [yI]; omega,trivial,?_⟩
    have:=hK _ h4
    rw [YB a4 (zcd hB a4)] at this
    simp only [zD,qH,zaJ,zaI,zgM,hcell] at this ⊢
    have e:(zg cs).take a++((List.range' 0 n).map fun k=>enc c ((l.set ix.toNat v).getD k (dfl c)))++(zg cs).drop (a + n) = (zg cs).take (a + ix.toNat)++[toV y]++(zg cs).drop (a + ix.toNat + 1):=by
     have hx:ix.toNat < n:=by omega
     have hN:(zg cs).length = cs.length:=yI cs
     refine List.ext_getElem? fun q=>?_
     rw [Ql] at hseg
     have hsg:∀ q,q < n->(zg cs)[a + q]? = some (enc c (l.getD q (dfl c))):=by
      intro q hq
      have:(((zg cs).drop a).take n)[q]? = (l.map (enc c))[q]?:=by rw [hseg]
      rw [List.getElem?_take,if_pos hq,List.getElem?_drop,List.getElem?_map] at this
      rw [this,List.getElem?_eq_getElem (by omega),List.getD_eq_getElem?_getD,List.getElem?_eq_getElem (by omega)]
      rfl
     rw [List.append_assoc,List.append_assoc]
     by_cases q1:q < a
     ·rw [List.getElem?_append_left (by simp; omega),List.getElem?_append_left (by simp; omega),List.getElem?_take,List.getElem?_take,if_pos q1,if_pos (by omega)]
     ·rw [List.getElem?_append_right (by simp; omega),List.length_take,Nat.min_eq_left (by omega)]
      by_cases q2:q < a + n
      ·rw [List.getElem?_append_left (by simp; omega),List.getElem?_map,List.getElem?_range' (by omega)]
       simp only [Option.map_some,Nat.zero_add,Nat.one_mul]
       by_cases q3:q = a + ix.toNat
       ·subst q3
        rw [List.getElem?_append_right (by simp; omega),List.length_take,Nat.min_eq_left (by omega)]
        have:a + ix.toNat - a = ix.toNat:=by omega
        rw [this,List.getD_eq_getElem?_getD,List.getElem?_set_self (by omega),hvv]
        simp
       ·have hs':(l.set ix.toNat v).getD (q - a) (dfl c) = l.getD (q - a) (dfl c):=by
         rw [List.getD_eq_getElem?_getD,List.getD_eq_getElem?_getD,List.getElem?_set_ne (by omega)]
        rw [hs',<- hsg (q - a) (by omega)]
        have:a + (q - a) = q:=by omega
        rw [this]
        by_cases q4:q < a + ix.toNat
        ·rw [List.getElem?_append_left (by simp; omega),List.getElem?_take,if_pos q4]
        ·rw [List.getElem?_append_right (by simp; omega),List.length_take,Nat.min_eq_left (by omega),List.getElem?_append_right (by simp; omega),List.getElem?_drop]
         congr 1
         simp; omega
      ·rw [List.getElem?_append_right (by simp; omega),List.getElem?_drop,List.getElem?_append_right (by simp; omega),List.length_take,Nat.min_eq_left (by omega),List.getElem?_append_right (by simp; omega),List.getElem?_drop]
       congr 1
       simp; omega
    rw [e] at this
    exact this
   ·cases h
  ·cases h
 ·cases h
theorem zs0 (t:Nat) (x:S × Tk):(toV (zaE t x).1,(zaE t x).2) = clr t (toV x.1,x.2):=by
 obtain ⟨s,tk⟩:=x
 unfold zaE clr
 cases tk with
 | none=>rfl
 | some p =>
  obtain ⟨t',e⟩:=p
  simp only
  by_cases h:t' = t
  ·subst h; simp
  ·have h1:Nat.beq t' t = false:=zee h
   by_cases h2:t' = t + 3000000
   ·subst h2; simp
   ·have h3:Nat.beq t' (t + 3000000) = false:=zee h2
    rw [h1,h3]; simp [h,h2]
structure Qp (mu:Bool) (ro:RO):Prop where
 idem:∀ s,Zn mu (ro.sl s) = ro.sl s
 tok:∀ s t e,(ro.sl s).2 = some (t,e)->tcl t = 2
 flat:ro.fl = true->∀ s,ro.own s = false->(ro.sl s).2 ≠ none ∨ qm (ro.sl s).1 = true
 boxes:ro.fl = true->∀ i B,ro.ownB i = false->ro.bx i = some B->zba B = true
theorem zqp {t:Nat} (ht:tcl t < 2) {x:S × Tk} (h:∀ t' e,x.2 = some (t',e)->tcl t' = 2):zaE t x = x:=by
 obtain ⟨s,tk⟩:=x
 unfold zaE
 cases tk with
 | none=>rfl
 | some p =>
  obtain ⟨t',e⟩:=p
  have h2:=h t' e rfl
  simp only
  have h1:Nat.beq t' t = false:=zee (fun e=>by subst e; omega)
  have h3:Nat.beq t' (t + 3000000) = false:=zee (fun e=>by unfold tcl at *; omega)
  rw [h1,h3]; rfl
theorem zqq {mu:Bool} (hro:Qp mu ro) {t:Nat} (ht:tcl t < 2) (s:Nat):zy ro ⟨m.sl.mapV (zaE t),m.bx⟩ s = zaE t (zy ro m s):=by
 unfold zy
 cases ro.own s
 ·exact (zqp ht (hro.tok s)).symm
 ·simp only [cond_true]
  rw [T.get_mapV]
  cases m.sl.get s <;> rfl
theorem ZV {mu:Bool} (hro:Qp mu ro) {t:Nat} (ht:tcl t < 2):za ro ⟨m.sl.mapV (zaE t),m.bx⟩ = (za ro m).clear t:=by
 unfold za St.clear
 congr 1
 funext s
 rw [zqq hro ht]
 exact zs0 t _
theorem zeL {mu:Bool} (hro:Qp mu ro) {dr:Bool} {o:Oper} {v:S} {tk:Tk} {k:Mm->Option β} (h:znv ro m dr o v tk k = some r) :
  ∃ m',zhz dr o tk/\zim o (za ro m) (toV v) tk = za ro m'/\k m' = some r:=by
 unfold znv at h
 unfold zim zhz
 cases hcp:yE o with
 | true =>
  rw [hcp] at h
  obtain ⟨m',q1,q2⟩:=zm h
  exact ⟨m',(fun _ h=>by cases h),q1,q2⟩
 | false =>
  rw [hcp] at h
  simp only [cond_false] at h ⊢
  cases tk with
  | none =>
   obtain ⟨m',q1,q2⟩:=zm h
   exact ⟨m',(fun _ _ _ _ h=>by cases h),q1,q2⟩
  | some te =>
   obtain ⟨t,e⟩:=te
   simp only at h
   obtain ⟨h1,h2⟩:=zZ h
   simp only [zuc,Bool.or_eq_true] at h1
   obtain ⟨m',q1,q2⟩:=zm h2
   rw [ZV hro (zhj h1.1)] at q1
   refine ⟨m',fun hdr _ t' e' ht=>?_,q1,q2⟩
   cases ht
   have h3:=h1.2
   rw [hdr] at h3
   simp only [Bool.not_true,Bool.false_eq_true,false_or] at h3
   refine ⟨h3.1,?_,zhj h1.1⟩
   have h3:=h3.2
   split at h3
   ·rename_i d hd
    rw [hd,zud h3]
   ·cases h3
theorem zkZ {α:Type} {b:Nat} {l q y:List α} (h:app b l q = some y):(l.length + q.length) * b <= 140737488355328/\y = l++q:=by
 obtain ⟨h1,h2⟩:=zbe h; cases h2; exact ⟨h1,rfl⟩
theorem zhk {mu:Bool} (hro:Qp mu ro) {ss:Nat} {x:S} {t u:TypeId} {dst:Option Nat} {k:Mm->Option β} (hK:∀ m',k m' = some r->Kp (za ro m')) (h:zi8 (P:=P) ro m ss x t u dst k = some r):Qd P (za ro m) ss (toV x) t u dst (Kp):=by
 unfold zi8 at h
 split at h
 ·rename_i c l tk e e' hg ht
  have henv:(za ro m).env ss = .list (l.map (enc c)):=by show toV (zy ro m ss).1 = _; rw [hg]; simp [toV]
  have htok:(za ro m).tok ss = some (tk,e):=by show (zy ro m ss).2 = _; rw [hg]
  unfold Qd
  simp only [henv,htok,ht]
  split at h
  ·rename_i sz by' zv hs hb hz
   simp only [hs,hb,Qv hz]
   split at h
   ·rename_i zn hzn
    obtain ⟨h1,h2⟩:=zZ h
    simp only [zuc,Bool.not_eq_true'] at h1
    obtain ⟨⟨⟨⟨⟨a1,a0⟩,a2⟩,a3⟩,a4⟩,a5⟩:=h1
    have a0':=zhj a0
    have a1':=zud a1
    have a3':=zud a3
    have a4':=zud a4
    subst a3'
    refine ⟨⟨a1',a0',a2,QT hzn,fun e=>by subst e; cases a5⟩,by rw [<- a4']; exact yK c l,?_⟩
    have fin:∀ (l2:List (den c)),((app by' l l2).bind fun r=>qS ro ⟨m.sl.mapV (zaE tk),m.bx⟩ dst (.lst c r) (some (tk,e)) k) = some r ->
      ((l.map (enc c)).length + l2.length) * by' <= 140737488355328/\Kp (((za ro m).clear tk).put dst (.list (l.map (enc c)++l2.map (enc c))) (some (tk,e))):=by
     intro l2 h
     obtain ⟨y,q1,q2⟩:=bind_some h
     obtain ⟨q3,rfl⟩:=zkZ q1
     obtain ⟨m',e1,hk⟩:=zm q2
     have:=hK m' hk
     rw [<- e1,ZV hro a0'] at this
     refine ⟨by simpa using q3,?_⟩
     simpa [toV] using this
    split at h2
    ·rename_i c' l2
     split at h2
     ·rename_i hc
      subst hc
      obtain ⟨q1,q2⟩:=fin l2 h2
      simp only [toV]
      exact ⟨by rw [<- a4']; exact yK _ l2,by simpa using q1,q2⟩
     ·cases h2
    ·obtain ⟨q1,q2⟩:=fin [] h2
     simp only [toV,zg]
     exact ⟨fun v hv=>by simp at hv,by simpa using q1,by simpa using q2⟩
    ·rename_i s
     split at h2
     ·rename_i hc
      subst hc
      obtain ⟨q1,q2⟩:=fin (yd s) h2
      simp only [toV]
      refine ⟨a4'.symm,by simpa [yd] using q1,?_⟩
      rwa [zkU] at q2
     ·cases h2
    ·cases h2
   ·cases h
  ·cases h
 ·cases h
theorem zmu (mu:Bool) (x:S × Tk):Zn mu (Zn mu x) = Zn mu x:=by
 obtain ⟨s,tok⟩:=x
 unfold Zn
 cases tok with
 | none =>
  simp only
  cases h:!mu || qm s
  ·simp [qm]
  ·simp [h]
 | some te =>
  obtain ⟨t,e⟩:=te
  simp only
  cases h2:Nat.beq (tcl t) 2
  ·simp only [cond_false]
   cases h:!mu || qm s
   ·simp [qm]
   ·simp [h]
  ·simp [h2]
theorem zk0 (mu:Bool) (x:S × Tk):Wk (pv (Zn mu x)) (pv x):=by
 obtain ⟨s,tok⟩:=x
 unfold Zn
 cases tok with
 | none =>
  simp only
  cases h:!mu || qm s
  ·exact .inr (.inr (by simp [pv,toV]))
  ·exact .inl rfl
 | some te =>
  obtain ⟨t,e⟩:=te
  simp only
  cases h2:Nat.beq (tcl t) 2
  ·simp only [cond_false]
   cases h:!mu || qm s
   ·exact .inr (.inr (by simp [pv,toV]))
   ·exact .inr (.inl rfl)
  ·exact .inl rfl
theorem zk1 {mu:Bool} {n:Nat} {x:S × Tk} (h:ltV n (toV x.1) = true):ltV n (toV (Zn mu x).1) = true:=by
 rcases zk0 mu x with q | q | q
 ·have:=congrArg Prod.fst q; simp only [pv] at this; rw [this]; exact h
 ·have:=congrArg Prod.fst q; simp only [pv] at this; rw [this]; exact h
 ·have:=congrArg Prod.fst q; simp only [pv] at this; rw [this]; rfl
theorem zot {mu:Bool} {x:S × Tk} {t:Nat} {e:TypeId} (h:(Zn mu x).2 = some (t,e)):tcl t = 2:=by
 obtain ⟨s,tok⟩:=x
 unfold Zn at h
 cases tok with
 | none =>
  simp only at h
  cases hq:!mu || qm s <;> rw [hq] at h <;> cases h
 | some te =>
  obtain ⟨t',e'⟩:=te
  simp only at h
  cases h2:Nat.beq (tcl t') 2
  ·rw [h2] at h
   simp only [cond_false] at h
   cases hq:!mu || qm s <;> rw [hq] at h <;> cases h
  ·rw [h2] at h
   cases h
   exact zud h2
theorem zmv {x:S × Tk}:(Zn true x).2 ≠ none ∨ qm (Zn true x).1 = true:=by
 obtain ⟨s,tok⟩:=x
 unfold Zn
 cases tok with
 | none =>
  simp only [Bool.not_true,Bool.false_or]
  cases h:qm s
  ·exact .inr rfl
  ·exact .inr h
 | some te =>
  obtain ⟨t,e⟩:=te
  simp only [Bool.not_true,Bool.false_or]
  cases h2:Nat.beq (tcl t) 2
  ·simp only [cond_false]
   cases h:qm s
   ·exact .inr rfl
   ·exact .inr h
  ·exact .inl (by simp)
theorem zs1:∀ s:S,qm s = true->(toV s).flat = true/\True:=by
 intro s
 suffices h:∀ s:S,qm s = true->(toV s).flat = true from fun hs=>⟨h s hs,trivial⟩
 intro s
 induction s using S.rec (motive_2:=fun cs=>QR cs = true->V.flatL (zg cs) = true) with
 | any=>intro; simp [toV,V.flat]
 | un=>intro; simp [toV,V.flat]
 | int=>intro; simp [toV,V.flat]
 | bool=>intro; simp [toV,V.flat]
 | str=>intro; simp [toV,V.flat]
 | agg cs ih=>intro h; simp only [qm] at h; simp only [toV,V.flat]; exact ih h
 | tup cs ih=>intro h; simp only [qm] at h; simp only [toV,V.flat]; exact ih h
 | loc=>intro; simp [toV,V.flat]
 | loco=>intro; simp [toV,V.flat]
 | elt cs off ih=>intro h; simp only [qm,List.isEmpty_iff] at h; subst h; simp [toV,zg,V.flat]
 | gel=>intro h; simp [qm] at h
 | nilp=>intro; simp [toV,V.flat]
 | lst=>intro h; simp [qm] at h
 | rows vs ih=>intro h; simp only [qm,List.isEmpty_iff] at h; subst h; simp [toV,zg,V.flat]
 | fn f a b iha ihb =>
  intro h; simp only [qm,zuc] at h
  simp only [toV,V.flat,zuc]; exact ⟨iha h.1,ihb h.2⟩
 | nilfn=>intro; simp [toV,V.flat]
 | iface t v ih=>intro h; simp only [qm] at h; simp only [toV,V.flat]; exact ih h
 | nilif=>intro; simp [toV,V.flat]
 | mref=>intro; simp [toV,V.flat]
 | nilm=>intro; simp [toV,V.flat]
 | ptr=>intro; simp [toV,V.flat]
 | ivd x=>intro; simp only [toV]; cases x <;> simp [zaq,V.flat,V.flatL]
 | nil=>simp [zg,V.flatL]
 | cons c cs ih1 ih2 =>
  rename_i h; simp only [QR,zuc] at h
  simp only [zg,V.flatL,zuc]; exact ⟨ih1 h.1,ih2 h.2⟩
theorem za0 {s:S} (h:qm s = true):(toV s).flat = true:=(zs1 s h).1
theorem zgN:∀ {cs:List S},QR cs = true->V.flatL (zg cs) = true
 | [],_=>by simp [zg,V.flatL]
 | c :: cs,h=>by
  simp only [QR,zuc] at h
  simp only [zg,V.flatL,zuc]; exact ⟨za0 h.1,zgN h.2⟩
theorem zhl {c:C} (h:ZP c = true) (x:den c):qm (refl c x) = true:=by
 cases c <;> first | rfl | (simp [ZP] at h)
theorem Qw {c:C} (h:ZP c = true) (x:den c):(enc c x).flat = true:=by
 rw [<- qw]; exact za0 (zhl h x)
theorem YU {c:C} (h:ZP c = true) (l:List (den c)):V.flatL (l.map (enc c)) = true :=
 zfB fun v hv=>by obtain ⟨x,_,rfl⟩:=List.mem_map.1 hv; exact Qw h x
theorem znC {B:yW} (h:zba B = true):V.flatL (zD B).cells = true:=by
 cases B with
 | cells cs ty=>exact zgN h
 | map mt kc vc l =>
  simp only [zba,zuc] at h
  refine zfB fun v hv=>?_
  obtain ⟨x,_,rfl⟩:=List.mem_map.1 hv
  simp [V.flat,V.flatL,Qw h.1,Qw h.2]
theorem zh8 {P:Program} {n':Nat} {o:Oper} {st:St} {K K':St->Prop} (h:Z2 P n' o st K') (hw:∀ st',K' st'->∃ sl',(∀ s,Wk (sl' s) (st'.sl s))/\K ⟨st'.nb,sl',st'.box⟩):Z2 P n' o st K:=by
 intro F a w pr lam hF hs next Q hn
 refine h F a w pr lam hF hs next Q fun st' a' w' pr' lam' hk hs'=>?_
 obtain ⟨sl',h1,h2⟩:=hw st' hk
 exact hn _ a' w' pr' lam' h2 (zq.weak hs' h1)
theorem zhm {o:Oper} {t:TypeId} {ss:Nat} {ix:Operand} {k:Mm->Option β} (ho:o.op = .indexAddr t (.tmp ss) ix) (hK:∀ m',k m' = some r->Kp (za ro m')) (h:zi9 (P:=P) ro m t ss (zx ro m ix) o.dst k = some r) :
  Qq P o (za ro m) Kp:=by
 intro n' hd _
 unfold zi9 at h
 split at h
 ·rename_i c l tk e kk i hg hi
  split at h
  ·rename_i e' sz he
   obtain ⟨h1,h2⟩:=zZ h
   simp only [zuc] at h1
   have a1:=zud h1.1
   have a2:=zud h1.2
   subst a2
   obtain ⟨e1,e2,rfl⟩:=ZT he
   rcases brS h2 with ⟨hb,h2⟩ | ⟨_,h2⟩
   ·obtain ⟨b1,b2⟩:=QW hb
    obtain ⟨m',q1,q2⟩:=zm h2
    have hs:(za ro m).env ss = .list (l.map (enc c)):=by show toV (zy ro m ss).1 = _; rw [hg]; simp [toV]
    have ht:(za ro m).tok ss = some (tk,e):=by show (zy ro m ss).2 = _; rw [hg]
    refine zjN (k:=kk) (i:=i) ho hs ht a1 (by rw [<- zk,hi]; simp [toV]) (yt e1) e2 (yK c l) b1 (by simpa using b2) hd ?_
    have:=hK m' q2
    rw [<- q1] at this
    simpa [toV] using this
   ·cases h2
  ·cases h
 ·cases h
theorem zhn {o:Oper} {s:TypeId} {d0 fi:Nat} {k:Mm->Option β} (ho:o.op = .fieldAddr s (.tmp d0) fi) (hK:∀ m',k m' = some r->Kp (za ro m')) (h:zja (P:=P) ro m s d0 fi o.dst k = some r) :
  Qq P o (za ro m) Kp:=by
 intro n' hd _
 unfold zja at h
 split at h
 ·rename_i i sz f u e fo t hg hf
  split at h
  ·rename_i n hn
   obtain ⟨h1,h2⟩:=zZ h
   simp only [zuc,Bool.not_eq_true'] at h1
   have a1:n ≠ 0:=fun e=>by subst e; cases h1.1.1
   have a2:=zue h1.1.2
   have a3:=zud h1.2
   obtain ⟨m',q1,q2⟩:=zm h2
   have hu:u - 3000000 + 3000000 = u:=by omega
   have hs:(za ro m).env d0 = .ptr (i.toNat * sz + f):=by show toV (zy ro m d0).1 = _; rw [hg]; simp [toV]
   have ht:(za ro m).tok d0 = some (u - 3000000 + 3000000,e):=by show (zy ro m d0).2 = _; rw [hg,hu]
   refine zjO ho hs ht a3 hf hn a1 hd ?_
   have:=hK m' q2
   rw [<- q1] at this
   rw [hu,Nat.add_assoc]
   simpa only [toV] using this
  ·cases h
 ·cases h
theorem zju {o:Oper} {t:TypeId} {d0:Nat} {k:Mm->Option β} (ho:o.op = .load t (.tmp d0)) (hK:∀ m',k m' = some r->Kp (za ro m')) (h:zmd (P:=P) ro m t d0 o.dst k = some r) :
  Qq P o (za ro m) Kp:=by
 intro n' hd _
 unfold zmd at h
 split at h
 ·rename_i i sz f u e0 hg
  split at h
  ·rename_i ss _
   split at h
   ·rename_i c l tk e n ag hs hn ha
    obtain ⟨h1,h2⟩:=zZ h
    simp only [zuc] at h1
    obtain ⟨⟨⟨a1,a2⟩,a3⟩,a4⟩:=h1
    have a1':=zud a1
    have a2':=zud a2
    have a3':=zud a3
    subst a1'; subst a3'
    have a4':zj P e = some (csz c):=by
     split at a4
     ·rename_i z hz; rw [hz,zud a4]
     ·cases a4
    obtain ⟨x,hx,h3⟩:=bind_some h2
    obtain ⟨q1,q2,q3⟩:=QU hx
    have e1:(za ro m).env d0 = .ptr (i.toNat * csz c + f):=by show toV (zy ro m d0).1 = _; rw [hg]; simp [toV]
    have e2:(za ro m).tok d0 = some (tk + 3000000,e0):=by show (zy ro m d0).2 = _; rw [hg]
    have e3:(za ro m).env ss = .list (l.map (enc c)):=by show toV (zy ro m ss).1 = _; rw [hs]; simp [toV]
    have e4:(za ro m).tok ss = some (tk,e):=by show (zy ro m ss).2 = _; rw [hs]
    have e5:(l.map (enc c))[i.toNat]? = some (enc c x):=by rw [List.getElem?_map,q3]; rfl
    have hcl:(enc c x).cellsL = zg (qN (refl c x)):=(Y6 c x).symm
    split at h3
    ·obtain ⟨h4,h5⟩:=zZ h3
     obtain ⟨m',p1,p2⟩:=zm h5
     refine zfC ho e1 e2 a2' e3 e4 a4' (yK c l) e5 hn (.inl ⟨ha,?_,rfl⟩) hd ?_
     ·rw [hcl,yI]; exact zue h4
     ·have:=hK m' p2
      rw [<- p1] at this
      rw [hcl]
      simpa only [toV,Ql] using this
    ·split at h3
     ·rename_i y hy
      obtain ⟨m',p1,p2⟩:=zm h3
      refine zfC ho e1 e2 a2' e3 e4 a4' (yK c l) e5 hn (.inr ⟨ha,by rw [hcl,ZS,hy]; rfl⟩) hd ?_
      have:=hK m' p2
      rw [<- p1] at this
      exact this
     ·cases h3
   ·cases h
  ·cases h
 ·cases h
theorem zft (tk:Nat) {c:C} (l':List (den c)) (x:S × Tk):Wk (pv (zae tk (.lst c l') x)) (qt tk (l'.map (enc c)) (pv x)):=by
 obtain ⟨s,tok⟩:=x
 cases tok with
 | none =>
  unfold zae qt pv
  simp only
  cases hf:qm s with
  | true=>rw [if_pos (za0 hf)]; exact .inl rfl
  | false=>exact .inr (.inr (by simp [toV]))
 | some te =>
  obtain ⟨t,e⟩:=te
  unfold zae qt pv
  simp only
  by_cases h1:t = tk
  ·subst h1
   simp only [Nat.beq_refl,cond_true,if_true]
   exact .inl (by simp [toV])
  ·have:Nat.beq t tk = false:=zee h1
   rw [this,if_neg h1]
   simp only [cond_false]
   by_cases h2:tcl t = 2
   ·rw [if_pos h2,h2]; exact .inl rfl
   ·have:Nat.beq (tcl t) 2 = false:=zee h2
    rw [this,if_neg h2]
    simp only [cond_false]
    cases hf:qm s with
    | true=>rw [if_pos (za0 hf)]; exact .inl rfl
    | false =>
     simp only [cond_false]
     by_cases h4:tcl t = 0
     ·rw [h4]
      simp only [Nat.beq_refl,cond_true]
      cases s with
      | lst c' l2 =>
       simp only
       cases hcf:ZP c' with
       | false=>exact .inr (.inr (by simp [toV]))
       | true =>
        have htv:toV (S.lst c' l2) = .list (l2.map (enc c')):=by simp [toV]
        rw [htv]
        simp only [cond_true]
        have hfl:=YU hcf l2
        by_cases hq:(V.list (l2.map (enc c'))).flat = true
        ·rw [if_pos hq]; exact .inl rfl
        ·rw [if_neg hq,if_pos trivial,if_pos hfl]; exact .inl rfl
      | _=>exact .inr (.inr (by simp [toV]))
     ·have:Nat.beq (tcl t) 0 = false:=zee h4
      rw [this]
      exact .inr (.inr (by simp [toV]))
theorem zou {c:C} {x x':den c} {f n:Nat} {y:S} (hy:zbI y = some n) (h:zjb c x f n y = some x') :
  enc c x' = zbg (enc c x) f n (toV y)/\(Go.Eng.isAgg (enc c x) = true ∨ (Go.Eng.isAgg (enc c x) = false/\Go.Eng.isAgg (toV y) = false/\f = 0/\n = 1)):=by
 unfold zjb at h
 have he:=qw c x
 split at h
 ·rename_i cs hc
  rw [hc] at he
  simp only [toV] at he
  rw [<- he,<- yl h]
  refine ⟨?_,.inl rfl⟩
  simp only [toV,zbg,qH,zaJ,zaI,zaK hy]
 ·rename_i hne
  obtain ⟨h1,h2⟩:=zZ h
  simp only [zuc] at h1
  have a1:=zud h1.1
  have a2:=zud h1.2
  split at h2
  ·cases h2
  ·rename_i hny
   have hag:Go.Eng.isAgg (enc c x) = false:=by
    rw [<- he]
    cases hr:refl c x with
    | agg cs=>exact absurd hr (hne cs)
    | gel g o=>simp only [toV]; split <;> rfl
    | ivd x=>simp only [toV]; cases x <;> rfl
    | _=>rfl
   have hagy:Go.Eng.isAgg (toV y) = false:=by
    cases y with
    | agg cs=>exact absurd rfl (hny cs)
    | gel g o=>simp only [toV]; split <;> rfl
    | ivd x=>simp only [toV]; cases x <;> rfl
    | _=>rfl
   refine ⟨?_,.inr ⟨hag,hagy,a1,a2⟩⟩
   rw [<- yl h2]
   cases hq:enc c x <;> rw [hq] at hag <;> first | rfl | (simp [Go.Eng.isAgg] at hag)
theorem zho {mu:Bool} (hro:Qp mu ro) {o:Oper} {t:TypeId} {d0:Nat} {y:Operand} {k:Mm->Option β} (ho:o.op = .store t (.tmp d0) y) (hK:∀ m',k m' = some r->Kp (za ro m')) (h:zjc (P:=P) ro m t d0 (zx ro m y) o.dst k = some r) :
  Qq P o (za ro m) Kp:=by
 intro n' hd _
 unfold zjc at h
 split at h
 ·rename_i i sz f u e0 hg hdst
  split at h
  ·rename_i ss _
   split at h
   ·rename_i c l tk e n n2 hs hn hy
    obtain ⟨h1,h2⟩:=zZ h
    simp only [zuc] at h1
    obtain ⟨⟨⟨⟨⟨⟨⟨⟨⟨a1,a2⟩,a3⟩,a4⟩,a5⟩,a6⟩,a7⟩,a8⟩,a9⟩,a10⟩:=h1
    have a1':=zud a1
    have a2':=zud a2
    have a3':=zud a3
    have a5':=zud a5
    have a6':=zue a6
    subst a1'; subst a3'; subst a5'
    have a4':zj P e = some (csz c):=by
     split at a4
     ·rename_i z hz; rw [hz,zud a4]
     ·cases a4
    obtain ⟨x,hx,h3⟩:=bind_some h2
    obtain ⟨q1,q2,q3⟩:=QU hx
    split at h3
    case h_2=>cases h3
    rename_i x' hx'
    obtain ⟨p1,p2⟩:=zou hy hx'
    have e1:(za ro m).env d0 = .ptr (i.toNat * csz c + f):=by show toV (zy ro m d0).1 = _; rw [hg]; simp [toV]
    have e2:(za ro m).tok d0 = some (tk + 3000000,e0):=by show (zy ro m d0).2 = _; rw [hg]
    have e3:(za ro m).env ss = .list (l.map (enc c)):=by show toV (zy ro m ss).1 = _; rw [hs]; simp [toV]
    have e4:(za ro m).tok ss = some (tk,e):=by show (zy ro m ss).2 = _; rw [hs]
    have e5:(l.map (enc c))[i.toNat]? = some (enc c x):=by rw [List.getElem?_map,q3]; rfl
    have hbf:∀ j B,(za ro m).box j = some B->V.flatL B.cells = true:=by
     intro j B hB
     change (zT ro m j).map zD = some B at hB
     cases hq:zT ro m j with
     | none=>rw [hq] at hB; cases hB
     | some B' =>
      rw [hq] at hB
      cases hB
      refine znC ?_
      unfold zT at hq
      cases hw:ro.ownB j with
      | false=>rw [hw] at hq; exact hro.boxes a9 j B' hw hq
      | true =>
       rw [hw] at hq
       simp only [cond_true] at hq
       cases hq2:m.bx[j]? with
       | none=>rw [hq2] at hq; cases hq
       | some ob =>
        rw [hq2] at hq
        simp only [Option.getD_some] at hq
        subst hq
        exact List.all_eq_true.1 a10 _ (List.mem_of_getElem? hq2)
    have main:=zjP (P:=P) (n':=n') (K:=fun st'=>st' = (za ro m).changed tk ((l.map (enc c)).set i.toNat (zbg (enc c x) f n2 (toV (zx ro m y))))) ho e1 e2 a2' e3 e4 a4' (yK c l) (YU a8 l) e5 hn
     (zk ro m y).symm (QT hy) (za0 a7) a6' p2 hbf hdst rfl
    refine zh8 main fun st' hst'=>?_
    subst hst'
    refine ⟨(za ro ⟨m.sl.mapV (zae tk (.lst c (zei l i x'))),m.bx⟩).sl,fun s=>?_,?_⟩
    ·have hrows:(l.map (enc c)).set i.toNat (zbg (enc c x) f n2 (toV (zx ro m y))) = (zei l i x').map (enc c):=by
      unfold zei
      rw [List.map_set,p1]
     rw [hrows]
     show Wk (pv (zy ro ⟨m.sl.mapV (zae tk (.lst c (zei l i x'))),m.bx⟩ s)) (qt tk _ (pv (zy ro m s)))
     unfold zy
     cases hw:ro.own s with
     | true =>
      simp only [cond_true]
      rw [T.get_mapV]
      cases m.sl.get s with
      | none =>
       simp only [Option.map_none,Option.getD_none]
       exact .inl (by simp [pv,qt,toV,V.flat])
      | some z =>
       simp only [Option.map_some,Option.getD_some]
       exact zft tk _ z
     | false =>
      simp only [cond_false]
      rcases Yu tk ((zei l i x').map (enc c)) (pv (ro.sl s)) with ⟨e7,q7,_⟩ | q7 | ⟨q7,_⟩
      ·exfalso
       have:=hro.tok s tk e7 q7
       omega
      ·have hfl:=hro.flat a9 s hw
       have htk:=hro.tok s
       revert q7 hfl htk
       generalize ro.sl s = z
       intro q7 hfl htk
       obtain ⟨zs,zt⟩:=z
       cases zt with
       | none =>
        rcases hfl with hfl | hfl
        ·exact absurd rfl hfl
        ·have hfz:=za0 hfl
         have:qt tk ((zei l i x').map (enc c)) (pv (zs,none)) = pv (zs,none):=by simp [pv,qt,hfz]
         rw [this]; exact .inl rfl
       | some te =>
        obtain ⟨t7,e7⟩:=te
        have h2:=htk t7 e7 rfl
        have hne:t7 ≠ tk:=fun e=>by subst e; omega
        have:qt tk ((zei l i x').map (enc c)) (pv (zs,some (t7,e7))) = pv (zs,some (t7,e7)):=by simp [pv,qt,hne,h2]
        rw [this]; exact .inl rfl
      ·rw [q7]; exact .inl rfl
    ·have:=hK _ h3
     exact this
   ·cases h
  ·cases h
 ·cases h
theorem zjv {mu:Bool} (hro:Qp mu ro) {o:Oper} {t:TypeId} {xl xc:Operand} {k:Mm->Option β} (ho:o.op = .makeSlice t xl xc) (hK:∀ m',k m' = some r->Kp (za ro m')) (h:zme X ro m t (zx ro m xl) (zx ro m xc) o.dst k = some r) :
  Qq P o (za ro m) Kp:=by
 intro n' hd _
 unfold zme at h
 split at h
 ·rename_i kl l kc n e hl hc he
  split at h
  ·rename_i c sz by' zv hcd hsz hby hz
   split at h
   ·rename_i z zn hz1 hz2
    obtain ⟨h1,h2⟩:=zZ h
    simp only [zuc] at h1
    have a1:=zud h1.1.1
    have a2:=zud h1.1.2
    have a3:=zud h1.2
    subst a1
    obtain ⟨q,hq,h3⟩:=bind_some h2
    obtain ⟨hq1,hq2⟩:=zbe hq
    cases hq2
    obtain ⟨m',p1,p2⟩:=zm h3
    refine zfD (tk:=o.dst.getD 0) (kl:=kl) (kc:=kc) ho (by rw [<- zk,hl]; simp only [toV]) (by rw [<- zk,hc]; simp only [toV]) (yt he) hsz hby (Qv hz) (QT hz2) hq1.1 hq1.2.1 hq1.2.2.1 hq1.2.2.2 a3 hd ?_
    have:=hK m' p2
    rw [<- p1,ZV hro (by omega)] at this
    simpa [toV,yl hz1] using this
   ·cases h
  ·cases h
 ·cases h
theorem zen {γ:Type} {A B:Option γ} {r:γ} (h:zje A B = some r):A = some r/\B = some r:=by
 unfold zje at h
 split at h
 ·rename_i he
  exact ⟨he.trans h,h⟩
 ·cases h
theorem zh9 {α γ:Type} {l:List α} {A B:Option γ} {r:γ} (h:zoh l A B = some r):B = some r/\(l = []->A = some r):=by
 unfold zoh at h
 split at h
 ·exact ⟨(zen h).2,fun _=>(zen h).1⟩
 ·exact ⟨h,fun he=>by cases he⟩
theorem zjw {o:Oper} {op:BinOp} {t u:TypeId} {x:Operand} {k:Mm->Option β} (ho:o.op = .binOp op t x (.const (.slice none 0 0)) u) (hK:∀ m',k m' = some r->Kp (za ro m'))
  (h:zmf (P:=P) ro m op t (zx ro m x) o.dst k = some (some r)):Qq P o (za ro m) Kp:=by
 intro n' hd _
 unfold zmf at h
 split at h
 ·rename_i c l e hx he
  simp only [zuf] at h
  obtain ⟨h1,h2⟩:=zh9 h
  refine zgK (rows:=l.map (enc c)) ho (.inl ⟨rfl,rfl⟩) (yt he) (by rw [<- zk,hx]; simp only [toV]) hd fun b hb=>?_
  cases b with
  | false =>
   obtain ⟨m',p1,p2⟩:=zm h1
   rw [show V.bool false = toV (.bool false) from by simp only [toV],p1]
   exact hK m' p2
  | true =>
   have hl:l = []:=by
    apply Classical.byContradiction
    intro hne
    have:=hb (by simpa using hne)
    cases this
   obtain ⟨m',p1,p2⟩:=zm (h2 hl)
   rw [show V.bool true = toV (.bool true) from by simp only [toV],p1]
   exact hK m' p2
 ·rename_i c l e hx he
  simp only [zuf] at h
  obtain ⟨h1,h2⟩:=zh9 h
  refine zgK (rows:=l.map (enc c)) ho (.inr ⟨rfl,rfl⟩) (yt he) (by rw [<- zk,hx]; simp only [toV]) hd fun b hb=>?_
  cases b with
  | true =>
   obtain ⟨m',p1,p2⟩:=zm h1
   rw [show V.bool true = toV (.bool true) from by simp only [toV],p1]
   exact hK m' p2
  | false =>
   have hl:l = []:=by
    apply Classical.byContradiction
    intro hne
    have:=hb (by simpa using hne)
    cases this
   obtain ⟨m',p1,p2⟩:=zm (h2 hl)
   rw [show V.bool false = toV (.bool false) from by simp only [toV],p1]
   exact hK m' p2
 ·cases h
theorem zdB:∀ {ss:List (zcL P)} {f:FuncId} {Q:zcL P},zfr ss f = some Q->Q.f = f
 | [],_,_,h=>by cases h
 | s :: ss,f,Q,h=>by
  simp only [zfr] at h
  cases hb:Nat.beq s.f f with
  | true=>rw [hb] at h; cases h; exact zud hb
  | false=>rw [hb] at h; exact zdB h
theorem zmw {mu:Bool} (hro:Qp mu ro) {o:Oper} {Q:zcL P} {fo:Operand} {args:Array Operand} {tys:Array TypeId} {first cap:List S} {k:Mm->Option β} (ho:o.op = .call { callee:=.value fo,args:=args,argTypes:=tys })
  (hfo:zx ro m fo = .fn (.func Q.f) first cap) (hK:∀ m',k m' = some r->Kp (za ro m')) (h:zsT ro m Q (first++args.toList.map (zx ro m)++cap) o.dst k = some r):Qq P o (za ro m) Kp:=by
 intro n' hd _
 unfold zsT at h
 obtain ⟨h1,h2⟩:=zZ h
 simp only [zuc,List.isEmpty_iff] at h1
 obtain ⟨a1,a2⟩:=h1
 have a2':=zud a2
 split at h2
 ·rename_i q hq
  obtain ⟨l,hl,h3⟩:=bind_some h2
  subst hl
  obtain ⟨hgo,hF⟩:=Q.sound _ l hq
  obtain ⟨m',p1,p2⟩:=zm h3
  have ea:zg first++args.toList.map (za ro m).eval++zg cap = zg (first++args.toList.map (zx ro m)++cap):=by rw [qH,qH,zbP]
  refine Zc (fr:=some (0,Q.e)) (tk:=some (o.dst.getD 0,Q.e)) (zpa (first:=zg first) (cap:=zg cap) ho (by rw [<- zk,hfo]; simp only [toV]) hgo (by rw [ea]; exact ZD _ (yX _ a1)) (by rw [ea]; exact hF)) (fun t e he=>by cases he; rw [a2']) hd ?_
  have:=hK m' p2
  rw [<- p1,ZV hro (by omega)] at this
  simpa [toV,St.fresh] using this
 ·cases h2
theorem zfu {mu:Bool} (hro:Qp mu ro) (hf:ro.fl = true) {tk:Nat} (htk:tcl tk = 0) (rows:List V) {s:Nat} (hw:ro.own s = false):(∀ e,(ro.sl s).2 ≠ some (tk,e))/\Wk (pv (ro.sl s)) (qt tk rows (pv (ro.sl s))):=by
 have hfl:=hro.flat hf s hw
 have ht:=hro.tok s
 revert hfl ht
 generalize ro.sl s = z
 intro hfl ht
 obtain ⟨zs,zt⟩:=z
 cases zt with
 | none =>
  refine ⟨fun e h=>(by cases h),?_⟩
  rcases hfl with hfl | hfl
  ·exact absurd rfl hfl
  ·have hfz:=za0 hfl
   have:qt tk rows (pv (zs,none)) = pv (zs,none):=by simp [pv,qt,hfz]
   rw [this]; exact .inl rfl
 | some te =>
  obtain ⟨t7,e7⟩:=te
  have h2:=ht t7 e7 rfl
  have hne:t7 ≠ tk:=fun e=>by subst e; omega
  refine ⟨fun e h=>by cases h; exact hne rfl,?_⟩
  have:qt tk rows (pv (zs,some (t7,e7))) = pv (zs,some (t7,e7)):=by simp [pv,qt,hne,h2]
  rw [this]; exact .inl rfl
theorem zgO {mu:Bool} (hro:Qp mu ro) (hf:ro.fl = true) (hb:m.bx.all (fun B=>match B with | some B=>zba B | none=>true) = true):∀ j B,(za ro m).box j = some B->V.flatL B.cells = true:=by
 intro j B hB
 change (zT ro m j).map zD = some B at hB
 cases hq:zT ro m j with
 | none=>rw [hq] at hB; cases hB
 | some B' =>
  rw [hq] at hB
  cases hB
  refine znC ?_
  unfold zT at hq
  cases hw:ro.ownB j with
  | false=>rw [hw] at hq; exact hro.boxes hf j B' hw hq
  | true =>
   rw [hw] at hq
   simp only [cond_true] at hq
   cases hq2:m.bx[j]? with
   | none=>rw [hq2] at hq; cases hq
   | some ob =>
    rw [hq2] at hq
    simp only [Option.getD_some] at hq
    subst hq
    exact List.all_eq_true.1 hb _ (List.mem_of_getElem? hq2)
theorem zeM {mu:Bool} (hro:Qp mu ro) {o:Oper} {Q:zdv P} {ss:Nat} {fo:Operand} {ys:List Operand} {args:Array Operand} {tys:Array TypeId} {k:Mm->Option β} (ho:o.op = .call { callee:=.value fo,args:=args,argTypes:=tys }) (ha:args.toList = .tmp ss :: ys)
  (hfo:zx ro m fo = .fn (.func Q.f) [] []) (hy:match Q.g with | none=>ys = [] | some g=>∃ y,ys = [y]/\zx ro m y = .fn (.func g) [] []) (hK:∀ m',k m' = some r->Kp (za ro m')) (h:znw ro m Q ss o.dst k = some r):Qq P o (za ro m) Kp:=by
 intro n' hd _
 unfold znw at h
 split at h
 ·rename_i c l tk e hs
  split at h
  ·rename_i hc
   subst hc
   obtain ⟨h1,h2⟩:=zZ h
   simp only [zuc] at h1
   obtain ⟨⟨⟨a1,a2⟩,a4⟩,a5⟩:=h1
   have a1':tcl tk = 0:=zud a1
   have a2':zj P e = some (csz Q.c):=by
    split at a2
    ·rename_i z hz; rw [hz,zud a2]
    ·cases a2
   obtain ⟨x,hx,h3⟩:=bind_some h2
   unfold ztE at hx
   split at hx
   case isFalse=>cases hx
   rename_i hlt
   simp only [zuf] at hx
   subst hx
   have e1:(za ro m).env ss = .list (l.map (enc Q.c)):=by show toV (zy ro m ss).1 = _; rw [hs]; simp [toV]
   have e2:(za ro m).tok ss = some (tk,e):=by show (zy ro m ss).2 = _; rw [hs]
   have ea:args = (Operand.tmp ss :: ys).toArray:=by obtain ⟨l⟩:=args; simpa using ha
   have ef:(za ro m).eval fo = .fn (.func Q.f) [] []:=by rw [<- zk,hfo]; simp [toV,zg]
   have eg:match Q.g with | none=>ys = [] | some g=>∃ y,ys = [y]/\(za ro m).eval y = .fn (.func g) [] []:=by
    split at hy
    ·exact hy
    ·obtain ⟨y,h1,h2⟩:=hy
     exact ⟨y,h1,by rw [<- zk,h2]; simp [toV,zg]⟩
   have main:=zor (P:=P) (n':=n') (K:=fun st'=>st' = ((za ro m).changed tk ((Q.srt l).map (enc Q.c))).put o.dst (.tup []) none) ho ea ef eg Q.go e1 e2 a1' a2' (yK Q.c l) (zgO hro a4 a5) Q.sound hlt hd rfl
   refine zh8 main fun st' hst'=>?_
   subst hst'
   obtain ⟨m',q1,q2⟩:=zm h3
   have hp:=hK m' q2
   rw [<- q1] at hp
   have htup:toV (S.tup []) = .tup []:=by simp [toV,zg]
   rw [htup] at hp
   have hwk:∀ s,Wk ((za ro ⟨m.sl.mapV (zae tk (.lst Q.c (Q.srt l))),m.bx⟩).sl s) (((za ro m).changed tk ((Q.srt l).map (enc Q.c))).sl s):=by
    intro s
    show Wk (pv (zy ro _ s)) (qt tk _ (pv (zy ro m s)))
    unfold zy
    cases hw:ro.own s with
    | true =>
     simp only [cond_true]
     rw [T.get_mapV]
     cases m.sl.get s with
     | none =>
      simp only [Option.map_none,Option.getD_none]
      exact .inl (by simp [pv,qt,toV,V.flat])
     | some z =>
      simp only [Option.map_some,Option.getD_some]
      exact zft tk _ z
    | false =>
     simp only [cond_false]
     exact (zfu hro a4 a1' ((Q.srt l).map (enc Q.c)) hw).2
   generalize hm2:(⟨m.sl.mapV (zae tk (.lst Q.c (Q.srt l))),m.bx⟩:Mm) = m2 at hp hwk
   have hnb:m2.bx = m.bx:=by rw [<- hm2]
   refine ⟨((za ro m2).put o.dst (.tup []) none).sl,fun s=>?_,?_⟩
   ·cases hdst:o.dst with
    | none=>exact hwk s
    | some d =>
     show Wk (if s = d then _ else _) (if s = d then _ else _)
     by_cases hsd:s = d
     ·rw [if_pos hsd,if_pos hsd]; exact .inl rfl
     ·rw [if_neg hsd,if_neg hsd]; exact hwk s
   ·refine (congrArg Kp ?_).mp hp
    have hb:(za ro m2).box = (za ro m).box:=by
     funext i
     show (zT ro m2 i).map zD = (zT ro m i).map zD
     unfold zT
     rw [hnb]
    have hn:(za ro m2).nb = (za ro m).nb:=by show m2.bx.length = m.bx.length; rw [hnb]
    cases hdst:o.dst with
    | none =>
     show za ro m2 = ⟨(za ro m).nb,(za ro m2).sl,(za ro m).box⟩
     rw [<- hb,<- hn]
    | some d =>
     show (za ro m2).put (some d) (.tup []) none = ⟨(za ro m).nb,((za ro m2).put (some d) (.tup []) none).sl,(za ro m).box⟩
     rw [<- hb,<- hn]
     rfl
  ·cases h
 ·cases h
theorem zdC:∀ {ss:List (zeg P)} {f:FuncId} {Q:zeg P},zfq ss f = some Q->Q.f = f
 | [],_,_,h=>by cases h
 | s :: ss,f,Q,h=>by
  simp only [zfq] at h
  cases hb:Nat.beq s.f f with
  | true=>rw [hb] at h; cases h; exact zud hb
  | false=>rw [hb] at h; exact zdC h
theorem znD (tk:Nat) (x:S × Tk):Wk (pv (ZB tk x)) (YZ tk (pv x)):=by
 obtain ⟨s,t⟩:=x
 have hk:=zft tk ([]:List (den .i64)) (s,t)
 unfold ZB YZ
 cases t with
 | none=>exact hk
 | some te =>
  obtain ⟨t,e⟩:=te
  simp only [pv] at hk ⊢
  by_cases h:t = tk
  ·subst h
   simp only [Nat.beq_refl,cond_true,if_true]
   exact .inl (by simp [toV])
  ·have:Nat.beq t tk = false:=by
    cases hq:Nat.beq t tk with
    | true=>exact absurd (zud hq) h
    | false=>rfl
   rw [this]
   simp only [cond_false,if_neg h]
   exact hk
theorem zk2:∀ (l:List S) (i:Nat) (x:S),zg (l.set i x) = (zg l).set i (toV x)
 | [],i,x=>by simp [zg]
 | y :: l,0,x=>by simp [zg]
 | y :: l,i + 1,x=>by simp [zg,zk2 l i x]
theorem zdD {mu:Bool} (hro:Qp mu ro) (a4:ro.fl = true) {tk:Nat} (a1':tcl tk = 0):∀ s,Wk ((za ro ⟨m.sl.mapV (ZB tk),m.bx⟩).sl s) (((za ro m).dropped tk).sl s):=by
 intro s
 show Wk (pv (zy ro _ s)) (YZ tk (pv (zy ro m s)))
 unfold zy
 cases hw:ro.own s with
 | true =>
  simp only [cond_true]
  rw [T.get_mapV]
  cases m.sl.get s with
  | none =>
   simp only [Option.map_none,Option.getD_none]
   exact .inl (by simp [pv,YZ,qt,toV,V.flat])
  | some z =>
   simp only [Option.map_some,Option.getD_some]
   exact znD tk z
 | false =>
  simp only [cond_false]
  obtain ⟨k1,k2⟩:=zfu hro a4 a1' [] hw
  have:YZ tk (pv (ro.sl s)) = qt tk [] (pv (ro.sl s)):=by
   unfold YZ
   split
   ·rename_i t e' he
    rw [if_neg]
    rintro rfl
    exact k1 e' he
   ·rfl
  rw [this]
  exact k2
theorem zmx {mu:Bool} (hro:Qp mu ro) {o:Oper} {Q:zeg P} {fo:Operand} {args:Array Operand} {tys:Array TypeId} {cap:List S} {k:Mm->Option β} (ho:o.op = .call { callee:=.value fo,args:=args,argTypes:=tys })
  (hfo:zx ro m fo = .fn (.func Q.f) [] cap) (hK:∀ m',k m' = some r->Kp (za ro m')) (h:zsU ro m Q args.toList cap o.dst k = some r):Qq P o (za ro m) Kp:=by
 intro n' hd _
 unfold zsU at h
 split at h
 case h_2=>cases h
 rename_i ss hp
 split at h
 case h_2=>cases h
 rename_i c l tk e hs
 obtain ⟨h1,h2⟩:=zZ h
 simp only [zuc] at h1
 obtain ⟨⟨⟨⟨⟨⟨a1,a2⟩,a3⟩,a4⟩,a5⟩,a6⟩,a7⟩:=h1
 have a1':tcl tk = 0:=zud a1
 have a2':e = Q.e:=zud a2
 have a3':tcl (o.dst.getD 0) = 0:=zud a3
 subst a2'
 split at h2
 case h_2=>cases h2
 rename_i ins hins
 split at h2
 case h_2=>cases h2
 rename_i q hq
 subst h2
 obtain ⟨lr,outs,hk,hgo,hF,hno,hlen⟩:=Q.sound _ _ _ _ hq
 obtain ⟨b1,b2⟩:=zaY hins
 generalize hA:zb8 ro m tk args.toList Q.p (.lst c l) cap = A at hins hq hk hF b1 b2
 obtain ⟨d1,_,d3,_⟩:=QX (yP A) [] (by simp)
 obtain ⟨l1,l2⟩:=Zu b1
 have hlen':(Qk (yP A) []).length = outs.length:=by rw [l1,hlen]; simp
 obtain ⟨m',p1,p2⟩:=zm hk
 have hKm:=hK m' p2
 have hwk:∀ s,Wk ((za ro ⟨m.sl.mapV (ZB tk),m.bx⟩).sl s) (((za ro m).dropped tk).sl s):=by
  intro s
  show Wk (pv (zy ro _ s)) (YZ tk (pv (zy ro m s)))
  unfold zy
  cases hw:ro.own s with
  | true =>
   simp only [cond_true]
   rw [T.get_mapV]
   cases m.sl.get s with
   | none =>
    simp only [Option.map_none,Option.getD_none]
    exact .inl (by simp [pv,YZ,qt,toV,V.flat])
   | some z =>
    simp only [Option.map_some,Option.getD_some]
    exact znD tk z
  | false =>
   simp only [cond_false]
   obtain ⟨k1,k2⟩:=zfu hro a4 a1' [] hw
   have:YZ tk (pv (ro.sl s)) = qt tk [] (pv (ro.sl s)):=by
    unfold YZ
    split
    ·rename_i t e' he
     rw [if_neg]
     rintro rfl
     exact k1 e' he
    ·rfl
   rw [this]
   exact k2
 have hst1:za ro ⟨m.sl.mapV (ZB tk),m.bx⟩ = ⟨(za ro m).nb,(za ro ⟨m.sl.mapV (ZB tk),m.bx⟩).sl,(za ro m).box⟩:=rfl
 refine zlt (st:=za ro m) (tk:=tk) (ss:=ss) (rows:=l.map (enc c)) (cap:=zg cap) (st1:=za ro ⟨m.sl.mapV (ZB tk),m.bx⟩) (π:=Qk (yP A) []) (args':=zg (zaG (zef (Qk (yP A) [])) A)) (ins:=ins.map zD) (outs:=outs.map zD) (tn:=o.dst.getD 0)
  ho (by rw [<- zk,hfo]; simp [toV,zg]) hd hgo hp (by show toV (zy ro m ss).1 = _; rw [hs]; simp only [toV]) (by show (zy ro m ss).2 = _; rw [hs]) a1' (zgO hro a4 a5) a3' (fun h=>by rw [hst1]; exact zq.weak h hwk) ?_ (fun _=>rfl) d1 (zaZ a7) ?_ b1 (by simp [hlen]) ?_ ?_ (zgN a6) hF ?_
 ·intro s t e' hq
  rcases hwk s with w1 | w1 | w1
  ·show (((za ro m).dropped tk).sl s).2 = _
   rw [<- w1]; exact hq
  ·have:((za ro ⟨m.sl.mapV (ZB tk),m.bx⟩).sl s).2 = some (t,e'):=hq
   rw [w1] at this; cases this
  ·have:((za ro ⟨m.sl.mapV (ZB tk),m.bx⟩).sl s).2 = some (t,e'):=hq
   rw [w1] at this; cases this
 ·rw [YS]
  ·rw [<- hA]
   unfold zb8
   rw [qH]
   congr 1
   rw [zk2,zbP]
   simp only [toV]
  ·intro i hi
   have:=zcM _ i (d3 i hi)
   simp [List.getD,this]
 ·intro B hB
  obtain ⟨B',hB',rfl⟩:=List.mem_map.1 hB
  exact zbQ (hno B' hB')
 ·simp only [V.noLoc]; exact yH (Z4 Q.c) lr
 ·rw [<- p1] at hKm
  have e1:=ZV (ro:=ro) (m:=⟨m.sl.mapV (ZB tk),zgC m.bx (Qk (yP A) []) outs⟩) hro (t:=o.dst.getD 0) (by omega)
  rw [e1,zbV hlen' b2] at hKm
  simpa [toV] using hKm
theorem zmy {mu:Bool} (hro:Qp mu ro) {o:Oper} {t:TypeId} {ss:Nat} {y:Operand} {k:Mm->Option β} (ho:o.op = .slice t (.tmp ss) none (some y) none) (hK:∀ m',k m' = some r->Kp (za ro m')) (h:zsV (P:=P) ro m t ss (zx ro m y) o.dst k = some r) :
  Qq P o (za ro m) Kp:=by
 intro n' hd _
 unfold zsV at h
 split at h
 case h_2=>cases h
 rename_i c l tk e ky i hs hy
 split at h
 case h_2=>cases h
 rename_i e' sz he
 obtain ⟨h1,h2⟩:=zZ h
 simp only [zuc] at h1
 obtain ⟨⟨⟨⟨⟨a1,a2⟩,a3⟩,a4⟩,a5⟩,a6⟩:=h1
 have a1':=zud a1
 have a2':tcl tk = 0:=zud a2
 have a4':tcl (o.dst.getD 0) = 0:=zud a4
 subst a1'
 obtain ⟨e1,e2,rfl⟩:=ZT he
 obtain ⟨q,hq,h3⟩:=bind_some h2
 obtain ⟨⟨_,q1,q2⟩,rfl⟩:=YR hq
 obtain ⟨m',p1,p2⟩:=zm h3
 have hKm:=hK m' p2
 have hwk:=zdD (m:=m) hro a5 a2'
 have hst1:za ro ⟨m.sl.mapV (ZB tk),m.bx⟩ = ⟨(za ro m).nb,(za ro ⟨m.sl.mapV (ZB tk),m.bx⟩).sl,(za ro m).box⟩:=rfl
 refine zo5 (st:=za ro m) (tk:=tk) (ss:=ss) (rows:=l.map (enc c)) (st1:=za ro ⟨m.sl.mapV (ZB tk),m.bx⟩) (tn:=o.dst.getD 0) (k:=ky) (i:=i) ho (by show toV (zy ro m ss).1 = _; rw [hs]; simp only [toV]) (by show (zy ro m ss).2 = _; rw [hs]) a2'
  (by rw [<- zk,hy]; simp only [toV]) (yt e1) e2 (yK c l) (YU a3 l) q1 (by rw [List.length_map]; exact q2) (zgO hro a5 a6) a4' (fun h=>by rw [hst1]; exact zq.weak h hwk) ?_ (fun _=>rfl) hd ?_
 ·intro s t' e' hq'
  rcases hwk s with w1 | w1 | w1
  ·show (((za ro m).dropped tk).sl s).2 = _
   rw [<- w1]; exact hq'
  ·have:((za ro ⟨m.sl.mapV (ZB tk),m.bx⟩).sl s).2 = some (t',e'):=hq'
   rw [w1] at this; cases this
  ·have:((za ro ⟨m.sl.mapV (ZB tk),m.bx⟩).sl s).2 = some (t',e'):=hq'
   rw [w1] at this; cases this
 ·rw [<- p1] at hKm
  have e3:=ZV (ro:=ro) (m:=⟨m.sl.mapV (ZB tk),m.bx⟩) hro (t:=o.dst.getD 0) (by omega)
  rw [e3] at hKm
  have h0:(0:Int).toNat = 0:=rfl
  simpa [toV,List.map_take,h0] using hKm
theorem zk3 {mu:Bool} (hro:Qp mu ro) {o:Oper} {s t:TypeId} {ss:Nat} {k:Mm->Option β} (ho:o.op = .convert s t (.tmp ss)) (hK:∀ m',k m' = some r->Kp (za ro m')) (h:zqb (P:=P) ro m s t ss o.dst k = some (some r)) :
  Qq P o (za ro m) Kp:=by
 intro n' hd _
 unfold zqb at h
 split at h
 case h_2=>cases h
 rename_i l0 tk e hs
 have a02:=(zZ h).1
 have hh:=(zZ h).2
 clear h
 simp only [zuc] at a02
 obtain ⟨a2,a0⟩:=a02
 split at hh
 case h_2=>cases hh
 rename_i x l
 simp only [zuf] at hh
 split at hh
 case h_2=>cases hh
 rename_i e' sz he hbt
 obtain ⟨h1,h2⟩:=zZ hh
 simp only [zuc] at h1
 obtain ⟨⟨a1,a5⟩,a6⟩:=h1
 have a0':=zud a0
 have a1':=zud a1
 have a2':tcl tk = 0:=zud a2
 subst a0'
 subst a1'
 obtain ⟨e1,e2,rfl⟩:=ZT he
 obtain ⟨m',p1,p2⟩:=zm h2
 have hKm:=hK m' p2
 have hwk:=zdD (m:=m) hro a5 a2'
 have hst1:za ro ⟨m.sl.mapV (ZB tk),m.bx⟩ = ⟨(za ro m).nb,(za ro ⟨m.sl.mapV (ZB tk),m.bx⟩).sl,(za ro m).box⟩:=rfl
 refine znQ (st:=za ro m) (tk:=tk) (ss:=ss) (rows:=(x :: l).map (enc .u8)) (st1:=za ro ⟨m.sl.mapV (ZB tk),m.bx⟩) ho (by show toV (zy ro m ss).1 = _; rw [hs]; simp only [toV]) (by show (zy ro m ss).2 = _; rw [hs]) a2'
  (yt e1) (QC hbt) e2 (yK .u8 (x :: l)) (YU (by rfl) (x :: l)) (by simp) (zgO hro a5 a6) (fun h=>by rw [hst1]; exact zq.weak h hwk) ?_ (fun _=>rfl) hd ?_
 ·intro s t' e' hq'
  rcases hwk s with w1 | w1 | w1
  ·show (((za ro m).dropped tk).sl s).2 = _
   rw [<- w1]; exact hq'
  ·have:((za ro ⟨m.sl.mapV (ZB tk),m.bx⟩).sl s).2 = some (t',e'):=hq'
   rw [w1] at this; cases this
  ·have:((za ro ⟨m.sl.mapV (ZB tk),m.bx⟩).sl s).2 = some (t',e'):=hq'
   rw [w1] at this; cases this
 ·rw [<- p1] at hKm
  simpa only [toV] using hKm
theorem zhp {mu:Bool} (hro:Qp mu ro) {o:Oper} {ss:Nat} {x:Operand} {t u:TypeId} {k:Mm->Option β} (ho:o.op = .call { callee:=.builtin .append,args:=#[.tmp ss,x],argTypes:=#[t,u] }) (hK:∀ m',k m' = some r->Kp (za ro m'))
  (h:zjd (P:=P) ro m ss (zx ro m x) t u o.dst k = some r):Qq P o (za ro m) Kp:=by
 intro n' hd _
 unfold zjd at h
 split at h
 case h_2=>cases h
 rename_i c l tk e e' c' y l2 hg ht hx
 split at h
 case h_2=>cases h
 rename_i sz by' zv hs hb hz
 split at h
 case h_2=>cases h
 rename_i zn hzn
 obtain ⟨h1,h2⟩:=zZ h
 simp only [zuc,Bool.not_eq_true'] at h1
 obtain ⟨⟨⟨⟨⟨⟨a1,a0⟩,a2⟩,a3⟩,a4⟩,a5⟩,a6⟩:=h1
 have a0':=zhj a0
 have a1':=zud a1
 have a3':=zud a3
 have a4':=zud a4
 have a6':tcl (o.dst.getD 0) = 0:=zud a6
 subst a1'
 subst a3'
 split at h2
 case isFalse=>cases h2
 rename_i hc
 subst hc
 obtain ⟨q,q1,q2⟩:=bind_some h2
 obtain ⟨q3,rfl⟩:=zkZ q1
 obtain ⟨m',e1,hk⟩:=zm q2
 have hKm:=hK m' hk
 have hb0:by' ≠ 0:=fun e=>by subst e; cases a5
 have henv:(za ro m).env ss = .list (l.map (enc c')):=by show toV (zy ro m ss).1 = _; rw [hg]; simp [toV]
 have htok:(za ro m).tok ss = some (tk,e):=by show (zy ro m ss).2 = _; rw [hg]
 have hlen:((l.map (enc c')).length + ((y :: l2).map (enc c')).length) * by' <= 140737488355328:=by simpa using q3
 have hmax:(l.map (enc c')).length + ((y :: l2).map (enc c')).length <= maxLen:=by
  have:((l.map (enc c')).length + ((y :: l2).map (enc c')).length) * 1 <= ((l.map (enc c')).length + ((y :: l2).map (enc c')).length) * by':=Nat.mul_le_mul_left _ (Nat.one_le_iff_ne_zero.2 hb0)
  simp only [maxLen]; omega
 refine zeZ (st:=za ro m) (tk:=tk) (ss:=ss) (rows:=l.map (enc c')) (rows2:=(y :: l2).map (enc c')) (tn:=o.dst.getD 0) ho henv htok a0' (yt ht) a2 hs hb (Qv hz) (QT hzn) (by rw [<- a4']; exact yK c' l)
  (fun w pr lam xv hxv=>Src.list (by rw [<- zk,hx] at hxv; simpa [toV] using hxv) (by rw [<- a4']; exact yK c' (y :: l2))) hlen hmax a6' (by simp) hd ?_
 rw [<- e1] at hKm
 have e3:=ZV (ro:=ro) (m:=⟨m.sl.mapV (zaE tk),m.bx⟩) hro (t:=o.dst.getD 0) (by omega)
 have e4:=ZV (ro:=ro) (m:=m) hro (t:=tk) a0'
 rw [e3,e4] at hKm
 simpa [toV] using hKm
theorem zk4 {mu:Bool} (hro:Qp mu ro) {o2 o3:Oper} {k:Mm->Option β} (hK:∀ m',k m' = some r->Kp (za ro m')) (h:zqc (P:=P) ro o2 o3 m k = some r):zo6 P o2 o3 (za ro m) Kp:=by
 unfold zqc at h
 split at h
 case h_2=>cases h
 rename_i c t ss y g2 g3 hd3 hd2 ho2
 obtain ⟨hcl,h⟩:=zZ h
 split at h
 case h_2=>cases h
 rename_i cc l tk e ky i hs hy
 split at h
 case h_2=>cases h
 rename_i e' sz zv he hz
 split at h
 case h_2=>cases h
 rename_i z zn hzu hzc
 obtain ⟨h1,h2⟩:=zZ h
 simp only [zuc] at h1
 obtain ⟨⟨⟨⟨⟨a1,a2⟩,a3⟩,a4⟩,a5⟩,a6⟩:=h1
 have a1':=zud a1
 have a2':tcl tk = 0:=zud a2
 have a3':=zud a3
 subst a1' a3'
 obtain ⟨e1,e2,e3⟩:=ZT he
 obtain ⟨q,hq,h3⟩:=bind_some h2
 unfold zog at hq
 split at hq
 case isFalse=>cases hq
 rename_i hi
 cases hq
 obtain ⟨m',p1,p2⟩:=zm h3
 have hKm:=hK m' p2
 rw [<- p1] at hKm
 have hzV:=yl hzu
 refine ⟨⟨g2,g3⟩,?_⟩
 have s1:(za ro m).env ss = .list (l.map (enc cc)):=by show toV (zy ro m ss).1 = _; rw [hs]; simp only [toV]
 have s2:(za ro m).tok ss = some (tk,e):=by show (zy ro m ss).2 = _; rw [hs]
 have s3:(za ro m).eval y = .int ky i:=by rw [<- zk,hy]; simp only [toV]
 simp only [ho2,hd2,hd3,s1,s2,s3,e2,Qv hz]
 refine ⟨hcl,a2',e1,⟨QT hzc,by rw [hzV]; exact Qw a4 z,by rw [e3]; exact yK cc l,YU a4 l,hi.1,by rw [List.length_map]; exact hi.2⟩,zgO hro a5 a6,_,fun F a w pr lam hS=>?_,hKm⟩
 have hr:(l.map (enc cc)).take i.toNat++List.replicate ((l.map (enc cc)).length - i.toNat) (toV zv) = (l.take i.toNat++List.replicate (l.length - i.toNat) z).map (enc cc):=by
  rw [hzV]; simp [List.map_take]
 rw [hr] at hS
 have hst1:za ro ⟨m.sl.mapV (zae tk (.lst cc (l.take i.toNat++List.replicate (l.length - i.toNat) z))),m.bx⟩ = ⟨(za ro m).nb,(za ro ⟨m.sl.mapV (zae tk (.lst cc (l.take i.toNat++List.replicate (l.length - i.toNat) z))),m.bx⟩).sl,(za ro m).box⟩:=rfl
 rw [hst1]
 refine zq.weak hS fun s=>?_
 show Wk (pv (zy ro _ s)) (qt tk _ (pv (zy ro m s)))
 unfold zy
 cases hw:ro.own s with
 | true =>
  simp only [cond_true]
  rw [T.get_mapV]
  cases m.sl.get s with
  | none =>
   simp only [Option.map_none,Option.getD_none]
   exact .inl (by simp [pv,qt,toV,V.flat])
  | some z' =>
   simp only [Option.map_some,Option.getD_some]
   exact zft tk _ z'
 | false =>
  simp only [cond_false]
  exact (zfu hro a5 a2' _ hw).2
theorem zov {a b:Option Nat} (h:zrG a b = true):a = b:=by
 cases a <;> cases b <;> simp_all [zrG]
theorem zas {f:FuncId} {g:Option FuncId}:∀ {l:List (zdv P)} {Q:zdv P},zbM l f g = some Q->Q.f = f/\Q.g = g
 | [],Q,h=>by cases h
 | s :: l,Q,h=>by
  simp only [zbM] at h
  cases hb:(Nat.beq s.f f && zrG s.g g) with
  | true =>
   rw [hb] at h
   simp only [cond_true,zuf] at h
   subst h
   simp only [zuc] at hb
   exact ⟨zud hb.1,zov hb.2⟩
  | false=>rw [hb] at h; exact zas h
theorem zcN {x:Operand} {d0:Nat} (h:zkS ro m x = some d0):x = .tmp d0:=by
 unfold zkS at h
 split at h
 ·split at h
  ·cases h; rfl
  ·cases h
 ·cases h
theorem zow {α β:Type} [d:DecidableEq α] {kin:α->Bool} {l l':List (α × β)} {k:α} (h:zsL kin l k = some l'):kin k = true/\(∀ e ∈ l,kin e.1 = true)/\l' = zo7 l k:=by
 unfold zsL at h
 obtain ⟨h1,h2⟩:=zZ h
 cases h2
 simp only [zuc,List.all_eq_true] at h1
 exact ⟨h1.1,h1.2,rfl⟩
theorem zhq {o:Oper} {t t2:TypeId} {mx x:Operand} {args:Array Operand} {tys:Array TypeId} {k:Mm->Option β} (ho:o.op = .call { callee:=.builtin .delete,args:=args,argTypes:=tys }) (ha:args.toList = [mx,x]) (ht:tys.toList = [t,t2])
  (hK:∀ m',k m' = some r->Kp (za ro m')) (h:zjf X ro m t (zx ro m mx) (zx ro m x) o.dst k = some r):Qq P o (za ro m) Kp:=by
 have ea:args = #[mx,x]:=by obtain ⟨l⟩:=args; simpa using ha
 have et':tys = #[t,t2]:=by obtain ⟨l⟩:=tys; simpa using ht
 subst ea; subst et'
 unfold zjf at h
 split at h
 ·rename_i i kt et hm hT hd0
  split at h
  ·rename_i mt kc vc l hB
   split at h
   ·rename_i ag ks d ag' ks' hck hd hkt
    split at h
    ·rename_i kk hk
     obtain ⟨h1,h2⟩:=zZ h
     simp only [zuc] at h1
     obtain ⟨⟨⟨h1,h3⟩,h4⟩,hown⟩:=h1
     have h3:=eq_of_beq h3
     have h4:=zdu h4
     subst h3; subst h4
     obtain ⟨o',ho',h2⟩:=bind_some h2
     obtain ⟨g1,g2,rfl⟩:=zow ho'
     have hb:(za ro m).box i = some ⟨QJ (enc kc) (enc vc) l,1000000000 + mt⟩:=by show (zT ro m i).map zD = _; rw [hB]; rfl
     have ek:=yl hk
     have hdel:=zlw (ev:=enc vc) (zbJ hd) l kk
     have em:(za ro m).eval mx = .mref i:=by rw [<- zk,hm]; simp [toV]
     have ex:(za ro m).eval x = enc kc kk:=by rw [<- zk,ek]
     intro n' _ _
     refine zjQ (B:=⟨QJ (enc kc) (enc vc) l,1000000000 + mt⟩) ho em hb (Nat.le_add_right 1000000000 mt) hT hkt (X.keyed kt h1) (by rw [ex]; exact zac hck g1) (zaP _ fun e he=>zac hck (g2 e he)) hd0 ?_
     have:=hK _ h2
     rw [YB hown (zcd hB hown)] at this
     dsimp only
     rw [ex,hdel]
     exact this
    ·cases h
   ·cases h
  ·cases h
 ·cases h
theorem zhr {o:Oper} {t:TypeId} {mx:Operand} {i:Nat} {args:Array Operand} {tys:Array TypeId} {k:Mm->Option β} (ho:o.op = .call { callee:=.builtin .len,args:=args,argTypes:=tys }) (ha:args.toList = [mx]) (ht:tys.toList = [t]) (hm:zx ro m mx = .mref i)
  (hK:∀ m',k m' = some r->Kp (za ro m')) (h:zjg (P:=P) ro m t i o.dst k = some r):Qq P o (za ro m) Kp:=by
 have ea:args = #[mx]:=by obtain ⟨l⟩:=args; simpa using ha
 have et':tys = #[t]:=by obtain ⟨l⟩:=tys; simpa using ht
 subst ea; subst et'
 unfold zjg at h
 split at h
 ·rename_i p mt kc vc l hT hB
  obtain ⟨kt,et⟩:=p
  have hb:(za ro m).box i = some ⟨QJ (enc kc) (enc vc) l,1000000000 + mt⟩:=by show (zT ro m i).map zD = _; rw [hB]; rfl
  have em:(za ro m).eval mx = .mref i:=by rw [<- zk,hm]; simp [toV]
  obtain ⟨m'',e',h'⟩:=zm h
  intro n' hd _
  have hq:=zlj (P:=P) (o:=o) ho em hb (Nat.le_add_right 1000000000 mt) hT
  refine Zc hq (tk:=none) (fun _ _ h=>by cases h) hd ?_
  have:=hK _ h'
  rw [<- e'] at this
  simpa [toV,QJ,St.fresh] using this
 ·cases h
theorem zmz {mu:Bool} (hro:Qp mu ro) {o:Oper} {k:Mm->Option β} (hK:∀ m',k m' = some r->Kp (za ro m')) (h:zsW X ro o m k = some (some r)):Qq P o (za ro m) Kp:=by
 unfold zsW at h
 split at h
 ·rename_i t ss ix ho
  obtain ⟨_,h⟩:=zZ h
  simp only [zuf] at h
  exact zhm ho hK h
 ·rename_i s x fi ho
  split at h
  ·rename_i d0 hp
   have:=zcN hp
   subst this
   simp only [zuf] at h
   exact zhn ho hK h
  ·cases h
 ·rename_i t x ho
  split at h
  ·rename_i d0 hp
   have:=zcN hp
   subst this
   simp only [zuf] at h
   exact zju ho hK h
  ·cases h
 ·rename_i t x y ho
  split at h
  ·rename_i d0 hp
   have:=zcN hp
   subst this
   simp only [zuf] at h
   exact zho hro ho hK h
  ·cases h
 ·rename_i fo args tys ho
  split at h
  ·rename_i f first cap hfo
   split at h
   ·rename_i Q hQ
    simp only [zuf] at h
    obtain rfl:=zdB hQ
    exact zmw hro ho hfo hK h
   ·split at h
    ·rename_i Q hQ
     simp only [zuf] at h
     obtain rfl:=zdC hQ
     exact zmx hro ho hfo hK h
    split at h
    ·rename_i ss ha _
     split at h
     ·rename_i Q hQ
      simp only [zuf] at h
      obtain ⟨rfl,hg⟩:=zas hQ
      exact zeM hro ho ha hfo (by rw [hg]) hK h
     ·cases h
    ·rename_i ss y ha _
     split at h
     ·rename_i g hy
      split at h
      ·rename_i Q hQ
       simp only [zuf] at h
       obtain ⟨rfl,hg⟩:=zas hQ
       exact zeM hro ho ha hfo (by rw [hg]; exact ⟨y,rfl,hy⟩) hK h
      ·cases h
     ·cases h
    ·cases h
  ·cases h
 ·rename_i t ss y ho
  obtain ⟨_,h⟩:=zZ h
  simp only [zuf] at h
  exact zmy hro ho hK h
 ·rename_i args tys ho
  have hh:=(zZ h).2
  clear h
  split at hh
  ·rename_i ss x t u ha ht
   have ea:args = #[.tmp ss,x]:=by obtain ⟨l⟩:=args; simpa using ha
   have et:tys = #[t,u]:=by obtain ⟨l⟩:=tys; simpa using ht
   subst ea; subst et
   simp only [zuf] at hh
   exact zhp hro ho hK hh
  ·cases hh
 ·rename_i s t ss ho
  exact zk3 hro ho hK h
 ·rename_i t l c ho
  simp only [zuf] at h
  exact zjv hro ho hK h
 ·rename_i op t x u ho
  exact zjw ho hK h
 ·rename_i args tys ho
  split at h
  ·rename_i mx x t t2 ha ht
   simp only [zuf] at h
   exact zhq (X:=X) ho ha ht hK h
  ·cases h
 ·rename_i args tys ho
  split at h
  ·rename_i mx t ha ht
   split at h
   ·rename_i i hm
    simp only [zuf] at h
    exact zhr ho ha ht hm hK h
   ·cases h
  ·cases h
 ·cases h
theorem zjx {t:TypeId} {dst:Option Nat} {k:Mm->Option β} (hK:∀ m',k m' = some r->Kp (za ro m')) (h:zmg X ro m t dst k = some r):zmK (za ro m) t dst Kp:=by
 unfold zmg at h
 split at h
 ·split at h
  ·obtain ⟨h3,h4⟩:=zcs hK h
   refine ⟨h3,?_⟩
   simp only [toV] at h4
   exact h4
  ·cases h
 ·cases h
theorem zia {α β:Type} [d:DecidableEq α] {kin:α->Bool} {l:List (α × β)} {k:α} {o:Option β} (h:zrB kin l k = some o):kin k = true/\(∀ e ∈ l,kin e.1 = true)/\o = zg5 l k:=by
 unfold zrB at h
 obtain ⟨h1,h2⟩:=zZ h
 cases h2
 simp only [zuc,List.all_eq_true] at h1
 exact ⟨h1.1,h1.2,rfl⟩
theorem zib {α β:Type} [d:DecidableEq α] {kin:α->Bool} {l l':List (α × β)} {k:α} {v:β} (h:zrC kin l k v = some l'):kin k = true/\(∀ e ∈ l,kin e.1 = true)/\l' = znR l k v:=by
 unfold zrC at h
 obtain ⟨h1,h2⟩:=zZ h
 cases h2
 simp only [zuc,List.all_eq_true] at h1
 exact ⟨h1.1,h1.2,rfl⟩
theorem zhs {t:TypeId} {mx x:S} {ok:Bool} {K:S->Option β} {K2:V->Prop} (hK:∀ s,K s = some r->K2 (toV s)) (h:zjh X ro m t mx x ok K = some r):zcX P t (za ro m).box (toV mx) (toV x) ok K2:=by
 unfold zjh at h
 split at h
 ·rename_i i kt et hT
  split at h
  ·rename_i mt kc vc l hB
   split at h
   ·rename_i ag ks d ag' ks' zv hck hd hkt hz
    split at h
    ·rename_i kk z hk hzv
     obtain ⟨h1,h2⟩:=zZ h
     simp only [zuc] at h1
     obtain ⟨⟨h1,h3⟩,h4⟩:=h1
     have h3:=eq_of_beq h3
     have h4:=zdu h4
     subst h3; subst h4
     obtain ⟨o,ho,h2⟩:=bind_some h2
     obtain ⟨g1,g2,rfl⟩:=zia ho
     have hb:(za ro m).box i = some ⟨QJ (enc kc) (enc vc) l,1000000000 + mt⟩:=by show (zT ro m i).map zD = _; rw [hB]; rfl
     have ek:=yl hk
     have ez:=yl hzv
     have hget:=zfO (ev:=enc vc) (zbJ hd) l kk
     simp only [toV,zcX,hT,hb,hkt,Qv hz]
     refine ⟨Nat.le_add_right 1000000000 mt,X.keyed kt h1,by rw [ek]; exact zac hck g1,zaP _ fun e he=>zac hck (g2 e he),?_⟩
     have:=hK _ h2
     rw [ek,ez,hget]
     cases hq:zg5 l kk with
     | none =>
      rw [hq] at this
      cases ok with
      | true=>simpa [toV,zg,qw] using this
      | false=>simpa [toV,zg,qw] using this
     | some y =>
      rw [hq] at this
      cases ok with
      | true=>simpa [toV,zg,qw] using this
      | false=>simpa [toV,zg,qw] using this
    ·cases h
   ·cases h
  ·cases h
 ·cases h
theorem zht {t:TypeId} {mx x y:S} {dst:Option Nat} {k:Mm->Option β} (hK:∀ m',k m' = some r->Kp (za ro m')) (h:zji X ro m t mx x y dst k = some r):zbh P t (za ro m) (toV mx) (toV x) (toV y) dst Kp:=by
 unfold zji at h
 split at h
 ·rename_i i kt et hT
  split at h
  ·rename_i mt kc vc l hB
   split at h
   ·rename_i ag ks d ag' ks' hck hd hkt
    split at h
    ·rename_i kk v hk hv
     obtain ⟨h1,h2⟩:=zZ h
     simp only [zuc] at h1
     obtain ⟨⟨⟨h1,h3⟩,h4⟩,hown⟩:=h1
     have h3:=eq_of_beq h3
     have h4:=zdu h4
     subst h3; subst h4
     obtain ⟨o,ho,h2⟩:=bind_some h2
     obtain ⟨g1,g2,rfl⟩:=zib ho
     have hb:(za ro m).box i = some ⟨QJ (enc kc) (enc vc) l,1000000000 + mt⟩:=by show (zT ro m i).map zD = _; rw [hB]; rfl
     have ek:=yl hk
     have ev:=yl hv
     have hput:=zfP (ev:=enc vc) (zbJ hd) l kk v
     simp only [toV,zbh,hT,hb,hkt]
     refine ⟨Nat.le_add_right 1000000000 mt,X.keyed kt h1,by rw [ek]; exact zac hck g1,zaP _ fun e he=>zac hck (g2 e he),trivial,?_⟩
     have:=hK _ h2
     rw [YB hown (zcd hB hown)] at this
     rw [ek,ev,hput]
     exact this
    ·cases h
   ·cases h
  ·cases h
 ·cases h
theorem zce {mu:Bool} (hro:Qp mu ro) {dr:Bool} {o:Oper} {k:Mm->Option β} (hK:∀ m',k m' = some r->Kp (za ro m')) (h:opX X ro dr o m k = some r):zcw P dr o (za ro m) Kp:=by
 unfold opX at h
 split at h
 ·rename_i q hq
  subst h
  cases dr with
  | true=>cases hq
  | false=>exact .inr ⟨rfl,zmz (X:=X) hro hK hq⟩
 left
 split at h
 ·rename_i ho; simp only [Yc,ho]; rw [<- zk]; exact zgL hK h
 ·rename_i e ho
  simp only [Yc,ho]
  split at h
  ·rename_i v hv; simp only [Qv hv]; exact zgL hK h
  ·cases h
 ·rename_i ho; simp only [Yc,ho]; rw [<- zk,<- zk]; exact zjt hK h
 ·rename_i args tys ho
  simp only [Yc,ho]
  split at h
  ·rename_i ss x t u ha ht; simp only [ha,ht]; rw [<- zk]; exact zhk hro hK h
  ·cases h
 ·rename_i f args tys ho
  simp only [Yc,ho]
  rw [<- zk]
  split at h
  ·rename_i g first cap hf
   simp only [hf,toV,zfg]
   have:=zkY (X:=X) (first:=first) (cap:=cap) hK h
   rw [qH,qH,zbP] at this
   exact this
  ·cases h
 ·rename_i ho; simp only [Yc,ho]; exact zjx (X:=X) hK h
 ·rename_i ho; simp only [Yc,ho]; rw [<- zk,<- zk,<- zk]; exact zht (X:=X) hK h
 ·rename_i t mx x ok ho
  simp only [Yc,ho,Zp]
  rw [<- zk,<- zk]
  refine zhs (X:=X) (K2:=fun v=>zhz dr o none/\Kp (zim o (za ro m) v none)) (fun s hs=>?_) h
  obtain ⟨m',ht,e,hk⟩:=zeL hro hs
  exact ⟨ht,e ▸ hK m' hk⟩
 ·rename_i n1 n2 n3 n4 n5 n6 n7 n8
  have hv:Zp P o (za ro m) (fun v tk=>zhz dr o tk/\Kp (zim o (za ro m) v tk)):=zmr (K2p:=fun v tk=>zhz dr o tk/\Kp (zim o (za ro m) v tk)) (fun s tk hs=>by
   obtain ⟨m',ht,e,hk⟩:=zeL hro hs
   exact ⟨ht,e ▸ hK m' hk⟩) h
  unfold Yc
  split
  ·rename_i ho; exact absurd ho (n1 _ _)
  ·rename_i ho; exact absurd ho (n2 _)
  ·rename_i ho; exact absurd ho (n3 _ _ _)
  ·rename_i ho; exact absurd ho (n4 _ _)
  ·rename_i t ho; simp [zp7,ho] at h
  ·rename_i t m' x y ho; simp [zp7,ho] at h
  ·rename_i ho; exact absurd ho (n5 _ _ _)
  ·exact hv
end
end Go.X
namespace Go.X
open Go.Eng
open Go.RowKit
variable {β:Type}
section
variable {P:Program} {X:zcm P} {ro:RO} {r:β} {Kp:St->Prop}
theorem qI {m:Mm} {t:Nat} {b:Bool} (h:(zy ro m t).1 = .bool b):za ro (YQ ro m (.tmp t) b) = za ro m:=by
 unfold YQ
 simp only
 cases ho:ro.own t with
 | false=>rfl
 | true =>
  simp only [cond_true]
  rw [zkT ho]
  show (⟨_,upd _ t _,_⟩:St) = za ro m
  have:upd (za ro m).sl t (toV (S.bool b),(zy ro m t).2) = (za ro m).sl:=by
   funext s
   unfold upd
   split
   ·rename_i e; subst e; rw [<- h]; rfl
   ·rfl
  rw [this]
theorem zgP {m:Mm} {x:Operand} {b:Bool} (h:zx ro m x = .bool b):za ro (YQ ro m x b) = za ro m:=by
 cases x with
 | tmp t=>exact qI h
 | const v=>rfl
 | global g=>rfl
 | func f=>rfl
theorem zmA {m:Mm} {dr:Bool} {o:Oper} {os:List Oper} {q:zsX} {k:Mm->Option β} (hK:∀ m',k m' = some r->Kp (za ro m')) (hq:zmh dr o os = some q) (h:zsY X ro m q k = some r) :
  dr = true/\∃ o3 o4 o5 o6,os = [o3,o4,o5,o6]/\zoR P o o3 o4 o5 o6 (za ro m) Kp:=by
 unfold zmh at hq
 split at hq
 case h_2=>cases hq
 rename_i t s r' h2
 split at hq
 case h_2=>cases hq
 rename_i o3 o4 o5 o6
 split at hq
 case h_2=>cases hq
 rename_i t1 s1 r1 h4
 split at hq
 case h_2=>cases hq
 rename_i op xT a2 c yT h3
 split at hq
 case h_2=>cases hq
 rename_i a4 ix h5
 split at hq
 case h_2=>cases hq
 rename_i t2 s2 a5 a3 h6
 split at hq
 case h_2=>cases hq
 rename_i d2 d3 d4 d5 e2 e3 e4 e5 e6
 obtain ⟨hc,hq⟩:=zZ hq
 cases hq
 simp only [zuc,Bool.not_eq_true',zb9] at hc
 obtain ⟨⟨⟨⟨⟨c0,⟨⟨⟨⟨u2,u3⟩,u4⟩,u5⟩,u6⟩⟩,⟨⟨⟨⟨⟨⟨⟨⟨⟨b1,b2⟩,b3⟩,b4⟩,b5⟩,b6⟩,b7⟩,b8⟩,b9⟩,b10⟩⟩,⟨⟨⟨⟨⟨k1,k2⟩,k3⟩,k4⟩,k5⟩,k6⟩⟩,⟨⟨⟨l1,l2⟩,l3⟩,l4⟩⟩,⟨⟨⟨n1,n2⟩,n3⟩,n4⟩⟩:=hc
 have gd:∀ {o:Oper},(match o.guard with | none=>true | some _=>false) = true->o.guard = none:=fun {o} h=>by
  cases hg:o.guard with
  | none=>rfl
  | some g=>rw [hg] at h; cases h
 have b1:=zud b1
 have b2:=zud b2
 have b3:=zud b3
 have b4:=zud b4
 have b5:=zud b5
 have b6:=zud b6
 have b7:=zud b7
 have b8:=zud b8
 have b9:=zud b9
 have b10:=zud b10
 subst b1; subst b2; subst b3; subst b4; subst b5; subst b6; subst b7; subst b8; subst b9; subst b10
 have nb:∀ {a d:Nat},Nat.beq a d = false->Operand.tmp a ≠ .tmp d:=fun {a d} h e=>by cases e; simp at h
 have nd:∀ {a d:Nat},Nat.beq a d = false->a ≠ d:=fun {a d} h e=>by cases e; simp at h
 refine ⟨c0,o3,o4,o5,o6,rfl,?_⟩
 unfold zsY at h
 split at h
 case h_2=>cases h
 rename_i i kt et hm hT
 split at h
 case h_2=>cases h
 rename_i mt kc l hB
 split at h
 case h_2=>cases h
 rename_i ag ks d ag' ks' zv hck hd hkt hz
 split at h
 case h_2=>cases h
 rename_i kk z hk hzv
 obtain ⟨h1,hh⟩:=zZ h
 clear h
 simp only [zuc] at h1
 obtain ⟨⟨⟨h1,q3⟩,q4⟩,hown⟩:=h1
 have q3:=eq_of_beq q3
 have q4:=zdu q4
 subst q3; subst q4
 obtain ⟨oo,ho,h⟩:=bind_some hh
 clear hh
 obtain ⟨g1,g2,rfl⟩:=zia ho
 obtain ⟨y,hy,h⟩:=bind_some h
 obtain ⟨l',hl',h⟩:=bind_some h
 obtain ⟨_,_,rfl⟩:=zib hl'
 obtain ⟨m1,f1,h⟩:=zm h
 obtain ⟨m2,f2,h⟩:=zm h
 obtain ⟨m3,f3,h⟩:=zm h
 obtain ⟨m4,f4,h⟩:=zm h
 have hfin:=hK _ h
 have hb:(za ro m).box i = some ⟨QJ (enc kc) (enc .i64) l,1000000000 + mt⟩:=by show (zT ro m i).map zD = _; rw [hB]; rfl
 have ek:(za ro m).eval (.tmp r1) = enc kc kk:=by rw [<- zk]; exact yl hk
 have em:(za ro m).eval (.tmp s2) = .mref i:=by rw [<- zk,hm]; simp [toV]
 have ez:toV zv = enc .i64 z:=yl hzv
 have hget:=zfO (ev:=enc .i64) (zbJ hd) l kk
 have hput:Yo (QJ (enc kc) (enc .i64) l) (enc kc kk) (V.int .i64 y) = QJ (enc kc) (enc .i64) (znR l kk y):=zfP (ev:=enc .i64) (zbJ hd) l kk y
 refine ⟨t2,kt,et,xT,yT,op,.tmp s2,.tmp r1,_,_,_,_,ag,ks,i,⟨QJ (enc kc) (enc .i64) l,1000000000 + mt⟩,.i64,(zg5 l kk).getD z,c,y,toV zv,⟨⟨h2,e2,gd u2⟩,⟨h3,e3,gd u3⟩,⟨h4,e4,gd u4⟩,⟨h5,e5,gd u5⟩,⟨h6,e6,gd u6⟩⟩,⟨nd k1,nd k2,nd k3,nd k4,nd k5,nd k6⟩,⟨nb l1,nb l2,nb l3,nb l4⟩,⟨nb n1,nb n2,nb n3,nb n4⟩,
  ⟨?_,em,hb,Nat.le_add_right 1000000000 mt,hT,Qv hz,?_,hkt,X.keyed kt h1,by rw [ek]; exact zac hck g1,zaP _ fun e he=>zac hck (g2 e he)⟩,?_⟩
 ·cases op
  case add =>
   change zO .i64 ((zg5 l kk).getD z) c = some y at hy
   unfold zO at hy
   split at hy
   ·rename_i hin; cases hy; exact congrArg (fun z=>some (V.int .i64 z)) hin
   ·cases hy
  case sub =>
   change Yb .i64 ((zg5 l kk).getD z) c = some y at hy
   unfold Yb at hy
   split at hy
   ·rename_i hin; cases hy; exact congrArg (fun z=>some (V.int .i64 z)) hin
   ·cases hy
  all_goals (change (none:Option Int) = some y at hy; cases hy)
 ·dsimp only
  rw [ek,hget,ez]
  cases zg5 l kk <;> rfl
 ·dsimp only
  rw [ek,hput]
  rw [<- f4,<- f3,<- f2,<- f1,YB hown (zcd hB hown)] at hfin
  simpa [toV,zD] using hfin
theorem za1 {mu:Bool} (hro:Qp mu ro) {dr:Bool} {ds:List (Option Nat)} {k:Mm->Option β} (hK:∀ m',k m' = some r->Kp (za ro m')):∀ (os:List Oper) (m:Mm),zmi X ro dr ds os m k = some r->QF P dr ds os (za ro m) Kp
 | [],m,h=>hK m h
 | o :: os,m,h=>by
  simp only [zmi] at h
  simp only [QF]
  split at h
  ·rename_i q hq
   exact .inr (zmA hK hq h)
  left
  have hA:∀ m',za ro m' = za ro m->opX X ro dr o m' (fun m'=>zmi X ro dr ds os m' k) = some r->zcw P dr o (za ro m) fun st'=>QF P dr ds os st' Kp:=by
   intro m' e h
   rw [<- e]
   exact zce hro (fun m'' h'=>za1 hro hK os m'' h') h
  have hB:∀ m',za ro m' = za ro m->qS ro m' o.dst .un none (fun m'=>zmi X ro dr ds os m' k) = some r->QF P dr ds os ((za ro m).put o.dst .un none) Kp:=by
   intro m' e h
   obtain ⟨m'',e',h'⟩:=zm h
   rw [<- e]
   have:toV S.un = .un:=by simp [toV]
   rw [this] at e'
   rw [e']
   exact za1 hro hK os m'' h'
  unfold gdX at h
  unfold zio
  split at h
  ·rename_i hg
   simp only [hg]
   exact hA m rfl h
  ·rename_i j want hg
   simp only [hg]
   split at h
   ·rename_i d hd
    simp only [hd]
    have he:(za ro m).env d = toV (zy ro m d).1:=rfl
    rw [he]
    split at h
    ·rename_i b hb
     rw [hb]
     simp only [toV]
     refine ⟨fun hw=>?_,fun hw=>?_⟩
     ·rcases brS h with ⟨q,h⟩ | ⟨q,h⟩
      ·subst q
       have:want = true:=by simpa using hw
       subst this
       exact hA _ (qI hb) h
      ·subst q
       have:want = false:=by simpa using hw
       subst this
       exact hA _ (qI hb) h
     ·rcases brS h with ⟨q,h⟩ | ⟨q,h⟩
      ·subst q
       have:want = false:=by simpa using hw
       subst this
       exact hB _ (qI hb) h
      ·subst q
       have:want = true:=by simpa using hw
       subst this
       exact hB _ (qI hb) h
    ·rename_i hb
     rw [hb]
     simp only [toV]
     exact hB m rfl h
    ·cases h
   ·rename_i hne
    split
    ·rename_i d hd; exact absurd hd (hne d)
    ·exact hB m rfl h
theorem zeN {mu:Bool} (hro:Qp mu ro) {k:Mm->Option β} (hK:∀ m',k m' = some r->Kp (za ro m')):∀ (l:List Oper) (m:Mm),zny X ro l m k = some r->zcy P l (za ro m) Kp
 | [],m,h=>by cases h
 | [o],m,h=>by cases h
 | [o2,o3],m,h=>zk4 hro hK h
 | o :: o1 :: o2 :: os,m,h=>by
  unfold zny at h
  simp only at h
  unfold zcy
  simp only
  split at h
  ·rename_i hg
   exact ⟨hg,zce hro (fun m' h'=>zeN hro hK (o1 :: o2 :: os) m' h') h⟩
  ·cases h
theorem zeO {o:Oper} {m:Mm} {k:Mm->Option β} (hK:∀ m',k m' = some r->Kp (za ro m')) (h:znx (P:=P) ro o m k = some r):zdK P o (za ro m) Kp:=by
 unfold znx at h
 unfold zdK
 split at h
 ·rename_i x ho
  simp only [ho]
  obtain ⟨m1,f1,h⟩:=zm h
  have:=hK _ h
  rw [<- f1,zk,zml] at this
  exact this
 ·rename_i xT x y yT ho
  simp only [ho]
  rw [<- zk,<- zk]
  split at h
  ·rename_i k1 a k2 b h1 h2
   rw [h1,h2]
   simp only [toV]
   split at h
   ·rename_i hk
    obtain ⟨n,hn,h⟩:=bind_some h
    unfold zO at hn
    split at hn
    ·rename_i hin
     cases hn
     obtain ⟨m1,f1,h⟩:=zm h
     have:=hK _ h
     rw [<- f1] at this
     exact ⟨hk,hin,by simpa [toV] using this⟩
    ·cases hn
   ·cases h
  ·cases h
 ·rename_i xT x y yT ho
  simp only [ho]
  rw [<- zk,<- zk]
  split at h
  ·rename_i k1 a k2 b h1 h2
   rw [h1,h2]
   simp only [toV]
   split at h
   ·rename_i hk
    obtain ⟨n,hn,h⟩:=bind_some h
    unfold Yb at hn
    split at hn
    ·rename_i hin
     cases hn
     obtain ⟨m1,f1,h⟩:=zm h
     have:=hK _ h
     rw [<- f1] at this
     exact ⟨hk,hin,by simpa [toV] using this⟩
    ·cases hn
   ·cases h
  ·cases h
 ·rename_i t x ix ho
  simp only [ho]
  rw [<- zk,<- zk]
  split at h
  ·rename_i c l k1 i h1 h2
   rw [h1,h2]
   simp only [toV]
   split at h
   ·rename_i en he
    obtain ⟨e,n⟩:=en
    obtain ⟨e1,e2,rfl⟩:=ZT he
    obtain ⟨y,g1,h⟩:=bind_some h
    obtain ⟨q1,q2,q3⟩:=QU g1
    obtain ⟨m1,f1,h⟩:=zm h
    have:=hK _ h
    rw [<- f1] at this
    simp only [e1,e2]
    refine ⟨yK c l,⟨q1,by simpa using q2⟩,?_⟩
    have hg:(l.map (enc c)).getD i.toNat .any = enc c y:=by simp [List.getD,q3]
    rw [hg]
    simpa only [toV,Y6] using this
   ·cases h
  ·cases h
 ·rename_i t x lo hi ho
  simp only [ho]
  rw [<- zk]
  split at h
  ·rename_i c l h1
   have hs:=zdz (r:=r) (K2p:=fun v tk=>Kp ((za ro m).put o.dst v tk)) (fun s tk hk=>by
    obtain ⟨m1,f1,hk⟩:=zm hk
    have:=hK _ hk
    rwa [<- f1] at this) h
   rw [h1]
   simp only [toV] at hs ⊢
   exact hs
  ·cases h
 ·cases h
theorem zk5 {o o':Oper} {m:Mm} {k:Mm->Option β} (hK:∀ m',k m' = some r->Kp (za ro m')) (h:zqd X ro o o' m k = some r):zfN P o o' (za ro m) Kp:=by
 unfold zqd at h
 unfold zfN
 split at h
 ·rename_i t x t' x' h1 h2
  simp only [h1,h2]
  rw [<- zk,<- zk]
  refine zbR (r:=r) (Kp:=fun v=>YC P t' (za ro m).box (toV (zx ro m x')) fun u=>Kp (((za ro m).put o.dst v none).put o'.dst u none)) (fun s hs=>?_) h
  refine zbR (r:=r) (Kp:=fun u=>Kp (((za ro m).put o.dst (toV s) none).put o'.dst u none)) (fun s' hs'=>?_) hs
  obtain ⟨m1,f1,h⟩:=zm hs'
  obtain ⟨m2,f2,h⟩:=zm h
  have:=hK _ h
  rwa [<- f2,<- f1] at this
 ·cases h
theorem QY {mu:Bool} (hro:Qp mu ro) {ops:Array Oper} {k:Mm->Option β} (hK:∀ m',k m' = some r->Kp (za ro m')):∀ (l:List (Nat × Nat)) (m:Mm),zjj X ro ops (ops.toList.map (·.dst)) l m k = some r->zav P ops l (za ro m) Kp
 | [],m,h=>hK m h
 | (i,t) :: l,m,h=>by
  simp only [zjj] at h
  simp only [zav]
  split at h
  ·cases h
  rename_i o ho
  simp only [ho]
  match t,h with
  | 1,h=>exact zeO (fun m' h'=>QY hro hK l m' h') h
  | j + 2,h =>
   simp only at h ⊢
   split at h
   ·rename_i o' ho'
    simp only [ho']
    exact zk5 (fun m' h'=>QY hro hK l m' h') h
   ·cases h
  | 0,h =>
   simp only at h ⊢
   have hA:∀ m',za ro m' = za ro m->opX X ro false o m' (fun m'=>zjj X ro ops (ops.toList.map (·.dst)) l m' k) = some r->zcw P false o (za ro m) fun st'=>zav P ops l st' Kp:=by
    intro m' e h
    rw [<- e]
    exact zce hro (fun m'' h'=>QY hro hK l m'' h') h
   have hB:∀ m',za ro m' = za ro m->qS ro m' o.dst .un none (fun m'=>zjj X ro ops (ops.toList.map (·.dst)) l m' k) = some r->zav P ops l ((za ro m).put o.dst .un none) Kp:=by
    intro m' e h
    obtain ⟨m'',e',h'⟩:=zm h
    rw [<- e]
    have:toV S.un = .un:=by simp [toV]
    rw [this] at e'
    rw [e']
    exact QY hro hK l m'' h'
   unfold gdX at h
   unfold zio
   split at h
   ·rename_i hg
    simp only [hg]
    exact hA m rfl h
   ·rename_i j want hg
    simp only [hg]
    split at h
    ·rename_i d hd
     simp only [hd]
     have he:(za ro m).env d = toV (zy ro m d).1:=rfl
     rw [he]
     split at h
     ·rename_i b hb
      rw [hb]
      simp only [toV]
      refine ⟨fun hw=>?_,fun hw=>?_⟩
      ·rcases brS h with ⟨q,h⟩ | ⟨q,h⟩
       ·subst q
        have:want = true:=by simpa using hw
        subst this
        exact hA _ (qI hb) h
       ·subst q
        have:want = false:=by simpa using hw
        subst this
        exact hA _ (qI hb) h
      ·rcases brS h with ⟨q,h⟩ | ⟨q,h⟩
       ·subst q
        have:want = false:=by simpa using hw
        subst this
        exact hB _ (qI hb) h
       ·subst q
        have:want = true:=by simpa using hw
        subst this
        exact hB _ (qI hb) h
     ·rename_i hb
      rw [hb]
      simp only [toV]
      exact hB m rfl h
     ·cases h
    ·rename_i hne
     split
     ·rename_i d hd; exact absurd hd (hne d)
     ·exact hB m rfl h
theorem zic {γ:Type} {f:Nat->Option γ} {r:γ}:∀ {l:List Nat},zrI f l = some r->∀ j ∈ l,f j = some r
 | [],h,j,hj=>by simp at hj
 | [i],h,j,hj=>by
  simp only [List.mem_singleton] at hj
  subst hj
  exact h
 | i :: i' :: l,h,j,hj=>by
  unfold zrI at h
  obtain ⟨h1,h2⟩:=zen h
  rcases List.mem_cons.1 hj with rfl | hj
  ·exact h1
  ·exact zic h2 j hj
theorem zag {mu:Bool} (hro:Qp mu ro) {ops:Array Oper} {k:Mm->Option β} (hK:∀ m',k m' = some r->Kp (za ro m')):∀ (fuel:Nat) (listed:Array Bool) (m:Mm),zdx X ro ops (ops.toList.map (·.dst)) fuel listed m k = some r->QI P ops fuel listed (za ro m) Kp
 | 0,listed,m,h=>by
  unfold zdx at h
  unfold QI
  split at h
  ·rename_i hr; exact ⟨hr,hK _ h⟩
  ·cases h
 | fuel + 1,listed,m,h=>by
  unfold zdx at h
  unfold QI
  split at h
  ·rename_i hr; rw [hr]; exact hK _ h
  ·rename_i i is hr
   rw [hr]
   dsimp only at h ⊢
   split at h
   ·rename_i j hj
    rw [hj]
    dsimp only
    split at h
    ·rename_i o ho
     rw [ho]
     exact zeO (fun m' h'=>zag hro hK fuel _ m' h') h
    ·cases h
   ·rename_i hj
    rw [hj]
    dsimp only
    intro j hjm
    have h:=zic h j hjm
    split at h
    case h_2=>cases h
    rename_i o ho
    rw [ho]
    dsimp only
    have hA:∀ m',za ro m' = za ro m->opX X ro false o m' (fun m'=>zdx X ro ops (ops.toList.map (·.dst)) fuel (listed.setIfInBounds j true) m' k) = some r->zcw P false o (za ro m) fun st'=>QI P ops fuel (listed.setIfInBounds j true) st' Kp:=by
     intro m' e h
     rw [<- e]
     exact zce hro (fun m'' h'=>zag hro hK fuel _ m'' h') h
    have hB:∀ m',za ro m' = za ro m->qS ro m' o.dst .un none (fun m'=>zdx X ro ops (ops.toList.map (·.dst)) fuel (listed.setIfInBounds j true) m' k) = some r->QI P ops fuel (listed.setIfInBounds j true) ((za ro m).put o.dst .un none) Kp:=by
     intro m' e h
     obtain ⟨m'',e',h'⟩:=zm h
     rw [<- e]
     have:toV S.un = .un:=by simp [toV]
     rw [this] at e'
     rw [e']
     exact zag hro hK fuel _ m'' h'
    unfold gdX at h
    unfold zio
    split at h
    ·rename_i hg
     simp only [hg]
     exact hA m rfl h
    ·rename_i j want hg
     simp only [hg]
     split at h
     ·rename_i d hd
      simp only [hd]
      have he:(za ro m).env d = toV (zy ro m d).1:=rfl
      rw [he]
      split at h
      ·rename_i b hb
       rw [hb]
       simp only [toV]
       refine ⟨fun hw=>?_,fun hw=>?_⟩
       ·rcases brS h with ⟨q,h⟩ | ⟨q,h⟩
        ·subst q
         have:want = true:=by simpa using hw
         subst this
         exact hA _ (qI hb) h
        ·subst q
         have:want = false:=by simpa using hw
         subst this
         exact hA _ (qI hb) h
       ·rcases brS h with ⟨q,h⟩ | ⟨q,h⟩
        ·subst q
         have:want = false:=by simpa using hw
         subst this
         exact hB _ (qI hb) h
        ·subst q
         have:want = true:=by simpa using hw
         subst this
         exact hB _ (qI hb) h
      ·rename_i hb
       rw [hb]
       simp only [toV]
       exact hB m rfl h
      ·cases h
     ·rename_i hne
      split
      ·rename_i d hd; exact absurd hd (hne d)
      ·exact hB m rfl h
end
end Go.X
namespace Go.X
open Go.Eng
open Go.RowKit
theorem zcO {σ ρ:Type} {F:σ->Option (zar σ ρ)} {r:ρ}:∀ {n m:Nat} {s:σ},n <= m->zbb F n s = some r->zbb F m s = some r
 | 0,_,s,_,h=>by cases h
 | n + 1,0,s,hm,h=>by omega
 | n + 1,m + 1,s,hm,h=>by
  unfold zbb at h ⊢
  split at h
  ·exact zcO (by omega) h
  ·exact h
  ·cases h
theorem zcf {σ ρ:Type} {F:σ->Option (zar σ ρ)} {s:σ} {r:ρ}:qO F s = some r ↔ ∃ n,zbb F n s = some r:=by
 unfold qO
 constructor
 ·intro h
  split at h
  ·rename_i hex
   cases h
   exact hex.choose_spec
  ·cases h
 ·rintro ⟨n,hn⟩
  have hex:∃ r n,zbb F n s = some r:=⟨r,n,hn⟩
  rw [dif_pos hex]
  obtain ⟨n',hn'⟩:=hex.choose_spec
  have h1:=zcO (Nat.le_max_left n n') hn
  have h2:=zcO (Nat.le_max_right n n') hn'
  rw [h1] at h2
  exact h2.symm
theorem qE {σ ρ:Type} (F:σ->Option (zar σ ρ)) (s:σ):qO F s = match F s with | some (.next s')=>qO F s' | some (.done r)=>some r | none=>none:=by
 apply Option.ext
 intro r
 rw [zcf]
 constructor
 ·rintro ⟨n,h⟩
  cases n with
  | zero=>cases h
  | succ n =>
   unfold zbb at h
   split at h
   ·rename_i s' e; rw [e]; exact zcf.2 ⟨n,h⟩
   ·rename_i r' e; rw [e]; exact h
   ·cases h
 ·intro h
  split at h
  ·rename_i s' e
   obtain ⟨n,hn⟩:=zcf.1 h
   exact ⟨n + 1,by unfold zbb; rw [e]; exact hn⟩
  ·rename_i r' e
   exact ⟨1,by unfold zbb; rw [e]; exact h⟩
  ·cases h
theorem zgQ:∀ (l:List Nat) (a i:Nat),(l.foldl (fun a s=>a ||| (1 <<< s)) a).testBit i = (a.testBit i || decide (i ∈ l))
 | [],a,i=>by simp
 | s :: l,a,i=>by
  rw [List.foldl_cons,zgQ l]
  rw [Nat.testBit_or,Nat.one_shiftLeft,Nat.testBit_two_pow]
  by_cases h:s = i
  ·subst h; simp
  ·have:¬ i = s:=fun e=>h e.symm
   simp [h,this]
theorem zeP (l:List Nat) (i:Nat):(zjl l).testBit i = decide (i ∈ l):=by
 unfold zjl; rw [zgQ]; simp
theorem zox {a b:Tk} (h:zsZ a b = true):a = none ∨ a = b:=by
 cases a with
 | none=>exact .inl rfl
 | some p =>
  cases b with
  | none=>cases h
  | some q =>
   obtain ⟨t,e⟩:=p; obtain ⟨t',e'⟩:=q
   simp only [zsZ,zuc] at h
   have h1:=zud h.1
   have h2:=zud h.2
   subst h1; subst h2; exact .inr rfl
theorem zk6 {ro:RO} {sl:T (S × Tk)} {bx:List (Option yW)} {s0:Nat} {x:S × Tk} (s:Nat):zy ro ⟨sl.set s0 x,bx⟩ s = if s = s0/\ro.own s = true then x else zy ro ⟨sl,bx⟩ s:=by
 unfold zy
 cases ho:ro.own s with
 | false=>simp
 | true =>
  simp only [cond_true,and_true]
  rw [T.get_set]
  split <;> rfl
theorem zah {ro:RO} {sl:T (S × Tk)} {bx:List (Option yW)} {i j:Nat} {B:yW} (hi:i < bx.length):zT ro ⟨sl,bx.set i (some B)⟩ j = if j = i/\ro.ownB j = true then some B else zT ro ⟨sl,bx⟩ j:=by
 unfold zT
 cases ho:ro.ownB j with
 | false=>simp
 | true =>
  simp only [cond_true,and_true]
  by_cases h:j = i
  ·subst h; simp [hi]
  ·rw [if_neg h,List.getElem?_set_ne (Ne.symm h)]
variable {β:Type}
section
variable {old:Nat->Option yW} {roS roT:RO} {mS:Mm} {n:Nat}
theorem zdE {v:LV} {x:v.ty} {m1:Mm} (hr:zej old roS mS v = some x) (hlen:m1.bx.length = n) (hbs:∀ i,qh [v] i = true->i < n) :
  (Zy old m1 v x).bx.length = n/\(∀ s,Wk (pv (zy roT m1 s)) (pv (zy roS mS s))->Wk (pv (zy roT (Zy old m1 v x) s)) (pv (zy roS mS s))) /\
  (∀ i,((zT roT m1 i).map zD = (zT roS mS i).map zD ∨ (qh [v] i = true/\roT.ownB i = true))->(zT roT (Zy old m1 v x) i).map zD = (zT roS mS i).map zD) /\
  (∀ k,(∀ s,ltV k (toV (zy roT m1 s).1) = true)->∀ s,ltV k (toV (zy roT (Zy old m1 v x) s).1) = true) /\
  (∀ k,(∀ i B,zT roT m1 i = some B->ZU k (zD B).cells = true)->∀ i B,zT roT (Zy old m1 v x) i = some B->ZU k (zD B).cells = true):=by
 cases v with
 | slot s0 c tk =>
  simp only [zej] at hr
  obtain ⟨h1,h2⟩:=zZ hr
  have e:=yl h2
  refine ⟨hlen,fun s hs=>?_,fun i hi=>?_,fun k hk s=>?_,fun k hk i B hB=>hk i B hB⟩
  ·simp only [Zy]
   rw [zk6]
   split
   ·rename_i hc
    obtain ⟨rfl,_⟩:=hc
    unfold pv
    simp only
    rw [qw,<- e]
    rcases zox h1 with q | q
    ·subst q; exact .inr (.inl rfl)
    ·subst q; exact .inl rfl
   ·exact hs
  ·rcases hi with hi | hi
   ·exact hi
   ·simp [qh] at hi
  ·simp only [Zy]
   rw [zk6]
   split
   ·exact zgI _ _ (by rw [qw]; exact Z4 c x)
   ·exact hk s
 | box i0 c =>
  have hi0:i0 < n:=hbs i0 (by simp [qh])
  simp only [zej] at hr
  split at hr
  ·rename_i cs ty hB
   obtain ⟨h1,h2⟩:=zZ hr
   have ht:=zud h1
   have hcells:zg (qN (refl c x)) = zg cs:=by
    rw [Y6]
    split at h2
    ·rename_i y hy
     cases h2
     have:=yl hy
     simp only [toV] at this
     rw [<- this]; rfl
    ·split at h2
     ·cases h2
     ·rename_i z hz _
      have:=yl h2
      rw [<- this]
      have hne:∀ ds,z ≠ .agg ds:=fun ds e=>hz ds (by rw [e])
      have hcl:(toV z).cellsL = [toV z]:=by
       cases z with
       | agg ds=>exact absurd rfl (hne ds)
       | gel g o=>simp only [toV]; split <;> rfl
       | ivd x=>simp only [toV]; exact zcb x
       | _=>rfl
      rw [hcl]; simp [zg]
     ·cases h2
   refine ⟨by simp [Zy,hlen],fun s hs=>hs,fun i hi=>?_,fun k hk s=>hk s,fun k hk i B hB=>?_⟩
   ·simp only [Zy]
    rw [zah (by omega)]
    split
    ·rename_i hc
     obtain ⟨rfl,_⟩:=hc
     rw [hB]
     simp only [Option.map_some,zD,hcells,ht]
    ·rename_i hne
     rcases hi with hi | ⟨hi,ho⟩
     ·exact hi
     ·simp [qh] at hi
      exact absurd ⟨hi.symm,ho⟩ hne
   ·simp only [Zy] at hB
    rw [zah (by omega)] at hB
    split at hB
    ·cases hB
     simp only [zD]
     refine Z5 _ _ ?_
     rw [Y6]
     have:=Z4 c x
     cases he:enc c x <;> rw [he] at this <;> simp_all [V.noLoc,V.cellsL,V.noLocL]
    ·exact hk i B hB
  ·cases hr
 | mapb i0 kc vc =>
  have hi0:i0 < n:=hbs i0 (by simp [qh])
  simp only [zej] at hr
  split at hr
  ·rename_i mt kc' vc' l hB
   obtain ⟨h1,h2⟩:=zZ hr
   have ht:=zud h1
   split at h2
   ·rename_i hc
    obtain ⟨rfl,rfl⟩:=hc
    cases h2
    refine ⟨by simp [Zy,hlen],fun s hs=>hs,fun i hi=>?_,fun k hk s=>hk s,fun k hk i B hB=>?_⟩
    ·simp only [Zy]
     rw [zah (by omega)]
     split
     ·rename_i hc
      obtain ⟨rfl,_⟩:=hc
      rw [hB]
      simp only [Option.map_some,zD,ht]
     ·rename_i hne
      rcases hi with hi | ⟨hi,ho⟩
      ·exact hi
      ·simp [qh] at hi
       exact absurd ⟨hi.symm,ho⟩ hne
    ·simp only [Zy] at hB
     rw [zah (by omega)] at hB
     split at hB
     ·cases hB
      exact Z5 _ _ (zgF l)
     ·exact hk i B hB
   ·cases h2
  ·cases hr
theorem zbW (v w:LV) (L:List LV) (i:Nat):qh (v :: w :: L) i = (qh [v] i || qh (w :: L) i):=by
 cases v <;> simp [qh]
theorem zgR:∀ {L:List LV} {x:zhe L} {m1:Mm},zbN old roS mS L = some x->m1.bx.length = n->(∀ i,qh L i = true->i < n) ->
  (ZR old m1 L x).bx.length = n/\((∀ s,Wk (pv (zy roT m1 s)) (pv (zy roS mS s)))->∀ s,Wk (pv (zy roT (ZR old m1 L x) s)) (pv (zy roS mS s))) /\
  (∀ i,((zT roT m1 i).map zD = (zT roS mS i).map zD ∨ (qh L i = true/\roT.ownB i = true))->(zT roT (ZR old m1 L x) i).map zD = (zT roS mS i).map zD) /\
  (∀ k,(∀ s,ltV k (toV (zy roT m1 s).1) = true)->∀ s,ltV k (toV (zy roT (ZR old m1 L x) s).1) = true) /\
  (∀ k,(∀ i B,zT roT m1 i = some B->ZU k (zD B).cells = true)->∀ i B,zT roT (ZR old m1 L x) i = some B->ZU k (zD B).cells = true)
 | [],x,m1,_,hlen,_=>⟨hlen,fun h=>h,fun i hi=>by
   rcases hi with hi | hi
   ·exact hi
   ·simp [qh] at hi,fun k h=>h,fun k h=>h⟩
 | [v],x,m1,hr,hlen,hb=>by
  obtain ⟨h1,h2,h3,h4,h5⟩:=zdE (roT:=roT) hr hlen hb
  exact ⟨h1,fun h s=>h2 s (h s),h3,h4,h5⟩
 | v :: w :: L,x,m1,hr,hlen,hb=>by
  simp only [zbN] at hr
  split at hr
  ·rename_i y z hy hz
   cases hr
   obtain ⟨h1,h2,h3,h4,h5⟩:=zdE (roT:=roT) (m1:=m1) hy hlen (fun i hi=>hb i (by rw [zbW,hi]; rfl))
   obtain ⟨g1,g2,g3,g4,g5⟩:=zgR (L:=w :: L) hz h1 (fun i hi=>hb i (by rw [zbW,hi]; simp))
   refine ⟨g1,fun h=>g2 fun s=>h2 s (h s),fun i hi=>g3 i ?_,fun k h=>g4 k (h4 k h),fun k h=>g5 k (h5 k h)⟩
   rcases hi with hi | ⟨hi,ho⟩
   ·exact .inl (h3 i (.inl hi))
   ·rw [zbW,Bool.or_eq_true] at hi
    rcases hi with hi | hi
    ·exact .inl (h3 i (.inr ⟨hi,ho⟩))
    ·exact .inr ⟨hi,ho⟩
  ·cases hr
end
theorem zq.carry {P:Program} {F:Fr} {a:Act} {w:World} {pr:Nat->Nat->Prop} {lam:Nat->Option Nat} {old:Nat->Option yW} {roS roT:RO} {mS m1:Mm} {n:Nat} {L:List LV} {x:zhe L}
  (h:zq P F (za roS mS) a w pr lam) (hr:zbN old roS mS L = some x) (hlen:m1.bx.length = n) (hnT:roT.nb <= n) (hL:∀ i,qh L i = true->i < n)
  (H1:∀ s,Wk (pv (zy roT m1 s)) (pv (zy roS mS s)))
  (H2:∀ i,i < n->(zT roT m1 i).map zD = (zT roS mS i).map zD ∨ (qh L i = true/\roT.ownB i = true))
  (E1:∀ s,ltV n (toV (zy roT m1 s).1) = true) (E2:∀ i B,zT roT m1 i = some B->ZU n (zD B).cells = true) (E3:∀ i b,F.lam0 i = some b->i < n) :
  ∃ lam',zq P F (za roT (ZR old m1 L x)) a w pr lam':=by
 obtain ⟨g1,g2,g3,g4,g5⟩:=zgR (roT:=roT) (m1:=m1) hr hlen hL
 have hw:=zq.weak h (nb':=n) (sl':=(za roT (ZR old m1 L x)).sl) (fun s=>g2 H1 s)
 have hd:=zq.drop hw (n:=n) (nb':=n) (fun s=>g4 n E1 s) (fun i B hi hB=>?_) E3
 ·refine ⟨_,(congrArg (fun st=>zq P F st a w pr _) ?_).mp hd⟩
  show (⟨n,_,_⟩:St) = za roT (ZR old m1 L x)
  unfold za
  rw [g1]
  congr 1
  funext i
  by_cases hi:i < n
  ·rw [if_pos hi]
   exact (g3 i (H2 i hi)).symm
  ·rw [if_neg hi]
   have:zT roT (ZR old m1 L x) i = none:=by
    unfold zT RO.ownB
    have hb:Nat.ble roT.nb i = true:=Nat.ble_eq_true_of_le (by omega)
    rw [hb]
    simp only [cond_true]
    rw [List.getElem?_eq_none (by omega)]; rfl
   rw [this]; rfl
 ·have hB':(zT roS mS i).map zD = some B:=hB
  rw [<- g3 i (H2 i hi)] at hB'
  cases hq:zT roT (ZR old m1 L x) i with
  | none=>rw [hq] at hB'; cases hB'
  | some B' =>
   rw [hq] at hB'
   cases hB'
   exact g5 n E2 i B' hq
theorem zq.below {P:Program} {F:Fr} {a:Act} {w:World} {pr:Nat->Nat->Prop} {lam:Nat->Option Nat} {ro:RO} {m:Mm} (h:zq P F (za ro m) a w pr lam) (hn:Nat.ble ro.nb m.bx.length = true) :
  (∀ s,ltV m.bx.length (toV (zy ro m s).1) = true)/\(∀ i B,zT ro m i = some B->ZU m.bx.length (zD B).cells = true)/\(∀ i b,F.lam0 i = some b->i < m.bx.length):=by
 have hl:∀ i,m.bx.length <= i->lam i = none:=by
  intro i hi
  refine h.nolam i ?_
  show (zT ro m i).map zD = none
  unfold zT RO.ownB
  have hb:Nat.ble ro.nb i = true:=Nat.ble_eq_true_of_le (Nat.le_trans (zue hn) hi)
  rw [hb]
  simp only [cond_true]
  rw [List.getElem?_eq_none hi]; rfl
 refine ⟨fun s=>zms hl _ _ (h.env s),fun i B hB=>?_,fun i b hi=>?_⟩
 ·have hB':(za ro m).box i = some (zD B):=by show (zT ro m i).map zD = _; rw [hB]; rfl
  obtain ⟨b,q1,q2,_⟩:=h.box i _ hB'
  exact zqm hl q2
 ·rcases Nat.lt_or_ge i m.bx.length with q | q
  ·exact q
  ·have:=h.lamsub i b hi
   rw [hl i q] at this; cases this
end Go.X
namespace Go.X
open Go.Eng
open Go.RowKit
variable {β:Type}
section
variable {P:Program} {n':Nat}
theorem zrK {x y:Code} {st:St} {Q:Exit->St->Prop} (h:AWp P n' x st (zo1 (fun st'=>AWp P n' y st' Q) Q)):AWp P n' (.seq x y) st Q:=by
 intro F a w pr lam hF hs
 refine wp_seq (wp_mono (h F a w pr lam hF hs) ?_)
 rintro e a' w' ⟨st',pr',lam',q,r⟩
 cases e with
 | normal=>exact q F a' w' pr' lam' hF r
 | exit id=>exact ⟨st',pr',lam',q,r⟩
 | goto l=>exact ⟨st',pr',lam',q,r⟩
 | ret=>exact ⟨st',pr',lam',q,r⟩
 | panic c=>exact ⟨st',pr',lam',q,r⟩
 | outgrown=>exact ⟨st',pr',lam',q,r⟩
theorem zoy {id:Nat} {x:Code} {st:St} {Q:Exit->St->Prop} (h:AWp P n' x st (zfJ id Q)):AWp P n' (.block id x) st Q:=by
 intro F a w pr lam hF hs
 refine wp_block (wp_mono (h F a w pr lam hF hs) ?_)
 rintro e a' w' ⟨st',pr',lam',q,r⟩
 cases e with
 | exit id' =>
  simp only [zfJ] at q
  simp only [Exit.inBlock]
  split at q
  ·rename_i hid; rw [if_pos hid]; exact ⟨st',pr',lam',q,r⟩
  ·rename_i hid; rw [if_neg hid]; exact ⟨st',pr',lam',q,r⟩
 | normal=>exact ⟨st',pr',lam',q,r⟩
 | goto l=>exact ⟨st',pr',lam',q,r⟩
 | ret=>exact ⟨st',pr',lam',q,r⟩
 | panic c=>exact ⟨st',pr',lam',q,r⟩
 | outgrown=>exact ⟨st',pr',lam',q,r⟩
theorem zqr {c:Operand} {x y:Code} {st:St} {Q:Exit->St->Prop} {b:Bool} (hc:st.eval c = .bool b) (h1:b = true->AWp P n' x st Q) (h2:b = false->AWp P n' y st Q):AWp P n' (.cond c x y) st Q:=by
 intro F a w pr lam hF hs
 have hr:=hs.eval c
 rw [hc] at hr
 simp only [R] at hr
 exact wp_cond_split hr (fun ht=>h1 ht F a w pr lam hF hs) (fun hf=>h2 hf F a w pr lam hF hs)
end
theorem zct {old:Nat->Option yW} {roI:RO} {mI m1:Mm} {e:EX} {k:Exit->Mm->Option β} {r:β}:∀ {es:List (EX × List LV)} {w:zqe es},zca old roI mI e es = some w->zbO old m1 k es w = some r ->
  ∃ L,∃ x:zhe L,(∃ e',(e',L) ∈ es)/\zbN old roI mI L = some x/\k e.to (ZR old m1 L x) = some r
 | [],w,h,_=>by cases h
 | [(e0,L)],w,h,hk=>by
  simp only [zca] at h
  obtain ⟨h1,h2⟩:=zZ h
  have he:e0 = e:=by
   cases e0 <;> cases e <;> simp only [EX.beq,Bool.false_eq_true] at h1
   ·rw [zud h1]
   ·rfl
  subst he
  exact ⟨L,w,⟨e0,by simp⟩,h2,hk⟩
 | (e0,L) :: f :: es,w,h,hk=>by
  simp only [zca] at h
  cases hb:e0.beq e with
  | true =>
   rw [hb] at h
   simp only [cond_true] at h
   have he:e0 = e:=by
    cases e0 <;> cases e <;> simp only [EX.beq,Bool.false_eq_true] at hb
    ·rw [zud hb]
    ·rfl
   subst he
   split at h
   ·rename_i x hx
    cases h
    simp only [zbO,Sum.elim_inl] at hk
    exact ⟨L,x,⟨e0,by simp⟩,hx,hk⟩
   ·cases h
  | false =>
   rw [hb] at h
   simp only [cond_false] at h
   split at h
   ·rename_i x hx
    cases h
    simp only [zbO,Sum.elim_inr] at hk
    obtain ⟨L',y,⟨e',q1⟩,q2,q3⟩:=zct (es:=f :: es) hx hk
    exact ⟨L',y,⟨e',List.mem_cons_of_mem _ q1⟩,q2,q3⟩
   ·cases h
theorem EX.of_to {ex:Exit} {e:EX} (h:EX.of ex = some e):e.to = ex:=by
 cases ex <;> simp only [EX.of,zuf,reduceCtorEq] at h <;> subst h <;> rfl
theorem zgS:∀ (l:List Nat) (sl:T (S × Tk)) (s:Nat),(zmj sl l).get s = if s ∈ l then some (.any,none) else sl.get s
 | [],sl,s=>by simp [zmj]
 | x :: l,sl,s=>by
  simp only [zmj]
  rw [zgS l,T.get_set]
  by_cases h1:s ∈ l
  ·simp [h1]
  ·by_cases h2:s = x
   ·subst h2; simp
   ·simp [h1,h2]
def okX (n':Nat):Code->Ann->Bool
 | .region id ops draw,a=>bif draw && a.isFull then ops.toList.all (Yd n') && Region.noSelect ops else bif draw && a.isSch then ops.toList.all (Yd n') && Region.noSelect ops else bif a.isSch then ops.toList.all (Yd n') else zaj n' [] (.region id ops draw)
 | .seq x y,a=>okX n' x a.l && okX n' y a.r.un
 | .cond _ x y,a=>okX n' x a.l && okX n' y a.r
 | .block _ b,a=>okX n' b a
 | .loop b,.loop _ _ _ _ a=>okX n' b a
 | _,_=>true
theorem YV:∀ {L:List LV} {i:Nat},qh L i = true->i ∈ Qc L
 | [],i,h=>by simp [qh] at h
 | .slot _ _ _ :: L,i,h=>YV (L:=L) h
 | .box j _ :: L,i,h=>by
  simp only [qh,Bool.or_eq_true] at h
  rcases h with h | h
  ·rw [zud h]; simp [Qc]
  ·simp [Qc,YV h]
 | .mapb j _ _ :: L,i,h=>by
  simp only [qh,Bool.or_eq_true] at h
  rcases h with h | h
  ·rw [zud h]; simp [Qc]
  ·simp [Qc,YV h]
section
variable {P:Program} {X:zcm P}
theorem zmB {ro:RO} {m:Mm} {mu:Bool} (hro:Qp mu ro) (ops:Array Oper):zrR ops (za ro ⟨m.sl.mapV (zhf ((ops.toList.filter QD).map (·.dst))),m.bx⟩):=by
 intro s t e ht h2 o ho hno hd
 have ht':(zy ro ⟨m.sl.mapV (zhf ((ops.toList.filter QD).map (·.dst))),m.bx⟩ s).2 = some (t,e):=ht
 unfold zy at ht'
 cases hw:ro.own s with
 | false =>
  rw [hw] at ht'
  simp only [cond_false] at ht'
  rw [hro.tok s t e ht'] at h2
  omega
 | true =>
  rw [hw] at ht'
  simp only [cond_true,T.get_mapV] at ht'
  cases hg:m.sl.get s with
  | none=>rw [hg] at ht'; cases ht'
  | some x =>
   rw [hg] at ht'
   simp only [Option.map_some,Option.getD_some] at ht'
   unfold zhf at ht'
   cases hx:x.2 with
   | none=>rw [hx] at ht'; simp only at ht'; rw [hx] at ht'; cases ht'
   | some te =>
    obtain ⟨t',e'⟩:=te
    rw [hx] at ht'
    simp only at ht'
    cases hb:(Nat.blt (tcl t') 2 && inD ((ops.toList.filter QD).map (·.dst)) t') with
    | true=>rw [hb] at ht'; cases ht'
    | false =>
     rw [hb] at ht'
     simp only [cond_false] at ht'
     rw [hx] at ht'
     cases ht'
     rw [Bool.and_eq_false_iff] at hb
     rcases hb with hb | hb
     ·have:Nat.blt (tcl t) 2 = true:=Nat.ble_eq_true_of_le h2
      rw [this] at hb; cases hb
     ·have:inD ((ops.toList.filter QD).map (·.dst)) t = true:=by
       unfold inD
       rw [List.any_eq_true]
       exact ⟨some (t % 1000000),List.mem_map.2 ⟨o,List.mem_filter.2 ⟨ho,hno⟩,hd⟩,Nat.beq_refl _⟩
      rw [this] at hb; cases hb
theorem zrL (ds:List (Option Nat)) (x:S × Tk):Wk (pv (zhf ds x)) (pv x):=by
 unfold zhf
 split
 ·generalize (Nat.blt _ 2 && _:Bool) = b
  cases b with
  | true=>exact .inr (.inl rfl)
  | false=>exact .inl rfl
 ·exact .inl rfl
theorem zoz {ro:RO} {m:Mm} (ds:List (Option Nat)) (s:Nat):Wk ((za ro ⟨m.sl.mapV (zhf ds),m.bx⟩).sl s) ((za ro m).sl s):=by
 show Wk (pv (zy ro ⟨m.sl.mapV (zhf ds),m.bx⟩ s)) (pv (zy ro m s))
 unfold zy
 cases hw:ro.own s with
 | false=>exact .inl rfl
 | true =>
  simp only [cond_true,T.get_mapV]
  cases hg:m.sl.get s with
  | none=>exact .inl rfl
  | some x=>exact zrL ds x
def zqs (s2 s3:St):Prop:=(∀ s,s3.env s = s2.env s/\s3.tok s = none)/\s3.box = s2.box
theorem AWp.reframe {n':Nat} {c:Code} {st st':St} {Q:Exit->St->Prop} (h1:∀ s,st'.env s = st.env s/\(st'.tok s = none ∨ ∃ e,st'.tok s = some (2000000,e))) (hb:st'.box = st.box)
  (h:AWp P n' c st' fun ex s2=>∃ s3,zqs s2 s3/\Q ex s3):AWp P n' c st Q:=by
 intro F a w pr lam hF hs
 have hl:=hs.hl
 have hcl:∀ s t e,st'.tok s = some (t,e)->t = 2000000:=fun s t e q=>by
  rcases (h1 s).2 with q2 | ⟨e2,q2⟩
  ·rw [q] at q2; cases q2
  ·rw [q] at q2; cases q2; rfl
 have hgb:∀ s t e,st'.tok s = some (t,e)->zp (tcl t) (a.tmps.getD s undef) = none:=fun s t e q=>by
  rw [hcl s t e q,show tcl 2000000 = 2 from rfl]
  unfold zp
  split
  ·rw [if_neg (by omega)]
  ·rfl
 have hgl:∀ g vs,GL g = some vs->(∃ ty,w.heap[g]? = some (.cells vs.toArray ty (0,0)))/\(¬ (F.io g ∨ F.N <= g)/\(none:Option Nat) ≠ some g)/\∀ i,i < vs.length->pr g i:=fun g vs hg=>by
   obtain ⟨⟨ty,q1⟩,q2,q3⟩:=F.gl g vs hg
   obtain ⟨q4,q5⟩:=hl.glob g vs hg
   refine ⟨q4,⟨?_,by simp⟩,q5⟩
   rintro (q | q)
   ·exact q2.1 q
   ·exact Nat.lt_irrefl _ (Nat.lt_of_lt_of_le (Array.getElem?_eq_some_iff.1 q1).1 q)
 let F':Fr:=⟨F.nt,F.lam0,w,pr,fun b=>F.io b ∨ F.N <= b,hs.prlt,none,fun b o q=>(by cases q),hgl⟩
 have hsF:zq P F' st' a w pr lam:={
  size:=hs.size,defers:=hs.defers
  env:=fun s=>by rw [(h1 s).1]; exact hs.env s
  own:=fun s t e q g hg=>by rw [hgb s t e q] at hg; cases hg
  coh:=fun s s' t t' e e' g q q' hg=>by rw [hgb s t e q] at hg; cases hg
  box:=fun i B q=>by
   rw [hb] at q
   obtain ⟨b,b1,b2,b3,b4⟩:=hs.box i B q
   refine ⟨b,b1,b2,b3,.inr ?_⟩
   rcases b4 with b4 | b4
   ·exact .inr b4
   ·exact .inl b4
  inj:=fun i j B B' b q q'=>by rw [hb] at q q'; exact hs.inj i j B B' b q q'
  apart:=fun i B b s t e q q' q2=>by rw [hgb s t e q2]; simp
  nolam:=fun i q=>by rw [hb] at q; exact hs.nolam i q
  prlt:=hs.prlt
  keep:=⟨rfl,rfl,rfl,DLE.refl _,Nat.le_refl _,fun _ _ _ _=>rfl⟩
  prsub:=fun b o q=>q
  prnew:=fun b o q=>.inl q
  lamsub:=hs.lamsub
  coh2:=fun s s' t e e' q q' q2=>by rw [hcl s t e q] at q2; cases q2
  old:=fun s t e q q2=>by rw [(h1 s).1]; exact hs.env s
  ptr:=fun s s' t e e' b o g q=>by have:=hcl s _ _ q; omega }
 refine wp_mono (h F' a w pr lam hF hsF) ?_
 rintro ex a2 w2 ⟨s2,pr2,lam2,⟨s3,⟨l1,l2⟩,hq⟩,h2⟩
 have hk:=h2.keep
 refine ⟨s3,pr2,lam2,hq,{
  size:=h2.size,defers:=h2.defers
  env:=fun s=>by rw [(l1 s).1]; exact h2.env s
  own:=fun s t e q=>by rw [(l1 s).2] at q; cases q
  coh:=fun s s' t t' e e' g q=>by rw [(l1 s).2] at q; cases q
  box:=fun i B q=>by
   rw [l2] at q
   obtain ⟨b,b1,b2,b3,b4⟩:=h2.box i B q
   refine ⟨b,b1,b2,b3,?_⟩
   rcases b4 with b4 | b4 | b4
   ·exact .inl (Nat.le_trans hs.keep.size b4)
   ·exact .inr b4
   ·exact .inl b4
  inj:=fun i j B B' b q q'=>by rw [l2] at q q'; exact h2.inj i j B B' b q q'
  apart:=fun i B b s t e q q' q2=>by rw [(l1 s).2] at q2; cases q2
  nolam:=fun i q=>by rw [l2] at q; exact h2.nolam i q
  prlt:=h2.prlt
  keep:=⟨hk.os.trans hs.keep.os,hk.tape.trans hs.keep.tape,hk.output.trans hs.keep.output,DLE.trans hs.keep.drawn hk.drawn,Nat.le_trans hs.keep.size hk.size,fun k q1 q2 q3=>?_⟩
  prsub:=fun b o q=>h2.prsub b o (hs.prsub b o q)
  prnew:=fun b o q=>by
   rcases h2.prnew b o q with q | q
   ·exact hs.prnew b o q
   ·rcases q with q | q
    ·exact .inr (.inl (Nat.le_trans hs.keep.size q))
    ·cases q
  lamsub:=h2.lamsub
  coh2:=fun s s' t e e' q=>by rw [(l1 s).2] at q; cases q
  old:=fun s t e q=>by rw [(l1 s).2] at q; cases q
  ptr:=fun s s' t e e' b o g q=>by rw [(l1 s).2] at q; cases q }⟩
 have e:=hk.block k (Nat.lt_of_lt_of_le q1 hs.keep.size) (fun q=>by
  rcases q with q | q
  ·exact q2 q
  ·exact Nat.lt_irrefl _ (Nat.lt_of_lt_of_le q1 q)) (fun q=>by cases q)
 exact e.trans (hs.keep.block k q1 q2 q3)
theorem zdF {ro:RO} (h:ro.all = true) (m:Mm) (s:Nat):zy ro m s = (m.sl.get s).getD (.any,none):=by
 unfold zy RO.own
 rw [h]; rfl
theorem zqt {ro:RO} {m:Mm} (h:ro.all = true):∀ s,(za ro (zjk m)).env s = (za ro m).env s/\((za ro (zjk m)).tok s = none ∨ ∃ e,(za ro (zjk m)).tok s = some (2000000,e)):=by
 intro s
 show toV (zy ro (zjk m) s).1 = toV (zy ro m s).1/\((zy ro (zjk m) s).2 = none ∨ ∃ e,(zy ro (zjk m) s).2 = some (2000000,e))
 rw [zdF h,zdF h]
 unfold zjk
 rw [T.get_mapV]
 cases m.sl.get s with
 | none=>exact ⟨rfl,.inl rfl⟩
 | some x=>exact ⟨rfl,.inr ⟨0,rfl⟩⟩
theorem zoA {ro:RO} {m:Mm} (h:ro.all = true):zqs (za ro m) (za ro (zgD m)):=by
 refine ⟨fun s=>?_,rfl⟩
 show toV (zy ro (zgD m) s).1 = toV (zy ro m s).1/\(zy ro (zgD m) s).2 = none
 rw [zdF h,zdF h]
 unfold zgD
 rw [T.get_mapV]
 cases m.sl.get s with
 | none=>exact ⟨rfl,rfl⟩
 | some x=>exact ⟨rfl,rfl⟩
theorem qx (hm:P.follows .mixedOrders = true) {n':Nat}:∀ (c:Code) (a:Ann) (ro:RO) (hro:Qp (!Nat.beq X.wr 0) ro) (m:Mm) {β:Type} (k:Exit->Mm->Option β) (r:β) (Kp:Exit->St->Prop),okX n' c a = true ->
  (∀ ex m',k ex m' = some r->Kp ex (za ro m'))->QS X c a ro m k = some r->AWp P n' c (za ro m) Kp
 | .skip,_,ro,hro,m,β,k,r,Kp,_,hK,h=>fun F a w pr lam _ hs=>wp_skip ⟨_,pr,lam,hK _ _ h,hs⟩
 | .label _,_,ro,hro,m,β,k,r,Kp,_,hK,h=>fun F a w pr lam _ hs=>wp_label ⟨_,pr,lam,hK _ _ h,hs⟩
 | .exit id,_,ro,hro,m,β,k,r,Kp,_,hK,h=>fun F a w pr lam _ hs=>wp_exit ⟨_,pr,lam,hK _ _ h,hs⟩
 | .ret,_,ro,hro,m,β,k,r,Kp,_,hK,h=>fun F a w pr lam _ hs=>wp_ret ⟨_,pr,lam,hK _ _ h,hs⟩
 | .region id ops dr,a,ro,hro,m,β,k,r,Kp,hok,hK,h=>by
  cases hful:(dr && a.isFull) with
  | true =>
   simp only [okX,hful,cond_true,zuc] at hok
   simp only [QS,hful,cond_true] at h
   rw [zuc] at hful
   obtain ⟨rfl,_⟩:=hful
   exact AWp.full hm hok.1 hok.2 (zag hro (fun m' h'=>hK _ _ h') _ _ m h)
  | false =>
  simp only [okX,hful,cond_false] at hok
  simp only [QS,hful,cond_false] at h
  clear hful
  cases hsch:(dr && a.isSch) with
  | true =>
   simp only [hsch,cond_true,zuc] at hok
   simp only [hsch,cond_true] at h
   rw [zuc] at hsch
   obtain ⟨rfl,_⟩:=hsch
   split at h
   ·rename_i l hl
    exact AWp.sched hm hok.1 hok.2 hl (QY hro (fun m' h'=>hK _ _ h') l m h)
   ·cases h
  | false =>
  simp only [hsch,cond_false] at hok
  simp only [hsch,cond_false] at h
  cases hsc:a.isSch with
  | true =>
   rw [hsc] at hok h hsch
   simp only [cond_true] at hok h
   simp only [Bool.and_true] at hsch
   subst hsch
   exact AWp.clr hok (zeN hro (fun m' h'=>hK _ _ h') _ m h)
  | false =>
  rw [hsc] at hok h
  simp only [cond_false] at hok h
  clear hsch hsc
  cases dr with
  | false =>
   refine Zt hm (.region id ops false) _ _ hok ?_
   show (if ([]:List Nat).contains id = true then _ else zo3 P false ops (za ro m) (Kp .normal))
   rw [if_neg (by simp)]
   exact ⟨(fun h=>by cases h),za1 hro (fun m' h'=>hK _ _ h') _ _ h⟩
  | true =>
   have hv:QF P true (ops.toList.map (·.dst)) ops.toList (za ro ⟨m.sl.mapV (zhf ((ops.toList.filter QD).map (·.dst))),m.bx⟩) (Kp .normal):=za1 hro (fun m' h'=>hK _ _ h') _ _ h
   have hn:=zmB (m:=m) hro ops
   have hw:=zoz (ro:=ro) (m:=m) ((ops.toList.filter QD).map (·.dst))
   generalize hm1:za ro ⟨m.sl.mapV (zhf ((ops.toList.filter QD).map (·.dst))),m.bx⟩ = st1 at hv hn hw
   have hc:AWp P n' (.region id ops true) st1 Kp:=by
    refine Zt hm (.region id ops true) _ _ hok ?_
    show (if ([]:List Nat).contains id = true then _ else zo3 P true ops st1 (Kp .normal))
    rw [if_neg (by simp)]
    exact ⟨fun _=>hn,hv⟩
   intro F a w pr lam hF hs
   refine hc F a w pr lam hF ?_
   have:=zq.weak hs (nb':=st1.nb) (sl':=st1.sl) hw
   have hb:st1.box = (za ro m).box:=by rw [<- hm1]; rfl
   rw [<- hb] at this
   exact this
 | .seq x y,a,ro,hro,m,β,k,r,Kp,hok,hK,h=>by
  simp only [okX,zuc] at hok
  refine zrK (qx hm x a.l ro hro m _ r _ hok.1 ?_ h)
  intro ex m' h'
  cases ex with
  | normal =>
   simp only at h'
   cases hold:(a.r.isOld && ro.all) with
   | false =>
    rw [hold] at h'
    exact qx hm y a.r.un ro hro m' k r Kp hok.2 hK h'
   | true =>
    rw [hold] at h'
    rw [zuc] at hold
    exact AWp.reframe (zqt hold.2) rfl (qx hm y a.r.un ro hro (zjk m') _ r (fun ex s2=>∃ s3,zqs s2 s3/\Kp ex s3) hok.2 (fun ex m2 hq=>⟨_,zoA hold.2,hK ex _ hq⟩) h')
  | exit id=>exact hK _ _ h'
  | goto l=>exact hK _ _ h'
  | ret=>exact hK _ _ h'
  | panic c=>exact hK _ _ h'
  | outgrown=>exact hK _ _ h'
 | .cond c x y,a,ro,hro,m,β,k,r,Kp,hok,hK,h=>by
  simp only [okX,zuc] at hok
  simp only [QS] at h
  split at h
  ·rename_i b hb
   have he:(za ro m).eval c = .bool b:=by rw [<- zk,hb]; simp [toV]
   refine zqr he (fun hbt=>?_) (fun hbf=>?_)
   ·subst hbt
    have:=qx hm x a.l ro hro (YQ ro m c true) k r Kp hok.1 hK h
    rwa [zgP hb] at this
   ·subst hbf
    have:=qx hm y a.r ro hro (YQ ro m c false) k r Kp hok.2 hK h
    rwa [zgP hb] at this
  ·cases h
 | .block id x,a,ro,hro,m,β,k,r,Kp,hok,hK,h=>by
  refine zoy (qx hm x a ro hro m _ r _ hok ?_ h)
  intro ex m' h'
  cases ex with
  | exit id' =>
   simp only at h'
   simp only [zfJ]
   cases hb:Nat.beq id' id with
   | true=>rw [hb] at h'; rw [if_pos (zud hb)]; exact hK _ _ h'
   | false =>
    rw [hb] at h'
    rw [if_neg (fun e=>by subst e; simp at hb)]
    exact hK _ _ h'
  | normal=>exact hK _ _ h'
  | goto l=>exact hK _ _ h'
  | ret=>exact hK _ _ h'
  | panic c=>exact hK _ _ h'
  | outgrown=>exact hK _ _ h'
 | .loop x,.loop ds bs L es a,ro,hro,m,β,k,r,Kp,hok,hK,h=>by
  simp only [QS] at h
  obtain ⟨h0,h⟩:=zZ h
  simp only [zuc] at h0
  obtain ⟨⟨⟨⟨⟨⟨⟨c1,c2⟩,c3⟩,c4⟩,c5⟩,c6⟩,c7⟩,c8⟩:=h0
  split at h
  case h_2=>cases h
  rename_i v0 hv0
  obtain ⟨out,hit,hw⟩:=bind_some h
  obtain ⟨N,hN⟩:=zcf.1 hit
  have d1:∀ s ∈ ds,ro.own s = true:=List.all_eq_true.1 c1
  have d2:∀ i ∈ bs,ro.ownB i = true:=List.all_eq_true.1 c2
  have d3:∀ i ∈ bs,i < m.bx.length:=fun i hi=>zhj (List.all_eq_true.1 c3 i hi)
  have d4:∀ i ∈ bs,qh L i = true:=List.all_eq_true.1 c4
  have d5:∀ e ∈ es,∀ i ∈ bs,qh e.2 i = true:=fun e he=>List.all_eq_true.1 (List.all_eq_true.1 c5 e he)
  have d6:ro.nb <= m.bx.length:=zue c6
  have ownI:∀ s,(Ya (!Nat.beq X.wr 0) ro m ds bs).own s = decide (s ∈ ds):=fun s=>by
   unfold RO.own Ya; simp only [cond_false]; exact zeP ds s
  have ownBI:∀ i,i < m.bx.length->(Ya (!Nat.beq X.wr 0) ro m ds bs).ownB i = decide (i ∈ bs):=fun i hi=>by
   unfold RO.ownB Ya
   have:Nat.ble m.bx.length i = false:=by
    cases hb:Nat.ble m.bx.length i
    ·rfl
    ·have:=zue hb; omega
   rw [this]; simp only [cond_false]; exact zeP bs i
  have ownBI':∀ i,m.bx.length <= i->(Ya (!Nat.beq X.wr 0) ro m ds bs).ownB i = true:=fun i hi=>by
   unfold RO.ownB Ya
   rw [Nat.ble_eq_true_of_le hi]; rfl
  have hroI:Qp (!Nat.beq X.wr 0) (Ya (!Nat.beq X.wr 0) ro m ds bs):=by
   refine ⟨fun s=>zmu _ _,fun s t e h=>zot h,fun hfl s _=>?_,fun hfl i B hi hB=>?_⟩
   ·have hfl':(!Nat.beq X.wr 0) = true:=by
     have:((!Nat.beq X.wr 0) && _) = true:=hfl
     rw [zuc] at this; exact this.1
    show (Zn (!Nat.beq X.wr 0) (zy ro m s)).2 ≠ none ∨ qm (Zn (!Nat.beq X.wr 0) (zy ro m s)).1 = true
    rw [hfl']
    exact zmv
   ·have hfl':((List.range m.bx.length).all fun i=>match zT ro m i with | some B=>zba B | none=>true) = true:=by
     have:((!Nat.beq X.wr 0) && _) = true:=hfl
     rw [zuc] at this; exact this.2
    have hil:i < m.bx.length:=by
     rcases Nat.lt_or_ge i m.bx.length with q | q
     ·exact q
     ·rw [ownBI' i q] at hi; cases hi
    have:=List.all_eq_true.1 hfl' i (List.mem_range.2 hil)
    have hB':zT ro m i = some B:=hB
    rw [hB'] at this
    exact this
  intro F ac w pr lam hF hs
  obtain ⟨E1,E2,E3⟩:=zq.below hs c6
  have f1:∀ i,qh L i = true->i < m.bx.length:=fun i hi=>d3 i (zjs.1 (List.all_eq_true.1 c7 i (YV hi)))
  have f2:∀ e ∈ es,∀ i,qh e.2 i = true->i < m.bx.length:=fun e he i hi=>d3 i (zjs.1 (List.all_eq_true.1 (List.all_eq_true.1 c8 e he) i (YV hi)))
  have hlen0:(⟨.nil,List.replicate m.bx.length none⟩:Mm).bx.length = m.bx.length:=by simp
  have getS0:∀ s,zy (Ya (!Nat.beq X.wr 0) ro m ds bs) ⟨.nil,List.replicate m.bx.length none⟩ s = if s ∈ ds then (.any,none) else Zn (!Nat.beq X.wr 0) (zy ro m s):=by
   intro s
   rw [zy,ownI]
   by_cases hs:s ∈ ds
   ·simp [hs,T.get_nil]
   ·simp only [hs,decide_false,cond_false,if_false]
    rfl
  have getB0:∀ i,i < m.bx.length->i ∉ bs->zT (Ya (!Nat.beq X.wr 0) ro m ds bs) ⟨.nil,List.replicate m.bx.length none⟩ i = zT ro m i:=by
   intro i hi hb
   rw [zT,ownBI i hi]
   simp only [hb,decide_false,cond_false]
   rfl
  have E1':∀ s,ltV m.bx.length (toV (zy (Ya (!Nat.beq X.wr 0) ro m ds bs) ⟨.nil,List.replicate m.bx.length none⟩ s).1) = true:=by
   intro s
   rw [getS0]
   split
   ·simp [toV,ltV]
   ·exact zk1 (E1 s)
  have E2':∀ i B,zT (Ya (!Nat.beq X.wr 0) ro m ds bs) ⟨.nil,List.replicate m.bx.length none⟩ i = some B->ZU m.bx.length (zD B).cells = true:=by
   intro i B hB
   rcases Nat.lt_or_ge i m.bx.length with hi | hi
   ·by_cases hb:i ∈ bs
    ·rw [zT,ownBI i hi] at hB
     simp [hb,hi] at hB
    ·rw [getB0 i hi hb] at hB
     exact E2 i B hB
   ·rw [zT,ownBI' i hi] at hB
    simp [Nat.not_lt.2 hi] at hB
  have enter:∀ (roS:RO) (mS:Mm) (v:zhe L) (a':Act) (w':World) (pr':Nat->Nat->Prop) (lam':Nat->Option Nat),zbN (zT ro m) roS mS L = some v->zq P F (za roS mS) a' w' pr' lam' ->
    (∀ s,s ∉ ds->Wk (pv (Zn (!Nat.beq X.wr 0) (zy ro m s))) (pv (zy roS mS s)))->(∀ i,i < m.bx.length->i ∉ bs->(zT roS mS i).map zD = (zT ro m i).map zD) ->
    ∃ lam'',zq P F (za (Ya (!Nat.beq X.wr 0) ro m ds bs) (ZR (zT ro m) ⟨.nil,List.replicate m.bx.length none⟩ L v)) a' w' pr' lam'':=by
   intro roS mS v a' w' pr' lam' hr hs' hw1 hw2
   refine zq.carry hs' hr hlen0 (Nat.le_refl _) f1 (fun s=>?_) (fun i hi=>?_) E1' E2' E3
   ·rw [getS0]
    split
    ·exact .inr (.inr (by simp [pv,toV]))
    ·exact hw1 s ‹_›
   ·by_cases hb:i ∈ bs
    ·exact .inr ⟨d4 i hb,by rw [ownBI i hi]; simp [hb]⟩
    ·rw [getB0 i hi hb]
     exact .inl (hw2 i hi hb).symm
  obtain ⟨lam0,hs0⟩:=enter ro m v0 ac w pr lam hv0 hs (fun s _=>zk0 _ _) (fun i _ _=>rfl)
  have insS:∀ (mI:Mm) s,s ∉ ds->zy (Ya (!Nat.beq X.wr 0) ro m ds bs) mI s = Zn (!Nat.beq X.wr 0) (zy ro m s):=by
   intro mI s hsd
   rw [zy,ownI]
   simp only [hsd,decide_false,cond_false]
   rfl
  have insB:∀ (mI:Mm) i,i < m.bx.length->i ∉ bs->zT (Ya (!Nat.beq X.wr 0) ro m ds bs) mI i = zT ro m i:=by
   intro mI i hi hb
   rw [zT,ownBI i hi]
   simp only [hb,decide_false,cond_false]
   rfl
  refine zfK (fun j a' w'=>∃ v pr' lam',zbb _ j v = some out/\zq P F (za (Ya (!Nat.beq X.wr 0) ro m ds bs) (ZR (zT ro m) ⟨.nil,List.replicate m.bx.length none⟩ L v)) a' w' pr' lam') ?_ N ac w ⟨v0,pr,lam0,hN,hs0⟩
  rintro j a' w' ⟨v,pr',lam',hj,hsv⟩
  cases j with
  | zero=>cases hj
  | succ j =>
   unfold zbb at hj
   split at hj
   ·rename_i v' hF'
    have hbody:=qx hm x a _ hroI _ _ _ (fun ex st'=>∃ m',st' = za (Ya (!Nat.beq X.wr 0) ro m ds bs) m'/\ex = .normal/\zbN (zT ro m) (Ya (!Nat.beq X.wr 0) ro m ds bs) m' L = some v') hok (fun ex m' h'=>?_) hF'
    ·refine wp_mono (hbody F a' w' pr' lam' hF hsv) ?_
     rintro ex a'' w'' ⟨st',pr'',lam'',⟨m',rfl,rfl,hr⟩,hs'⟩
     obtain ⟨lam3,hs3⟩:=enter _ m' v' a'' w'' pr'' lam'' hr hs' (fun s hsd=>by rw [insS m' s hsd]; exact .inl rfl) (fun i hi hb=>by rw [insB m' i hi hb])
     exact ⟨j,by omega,v',pr'',lam3,hj,hs3⟩
    ·cases ex with
     | normal =>
      simp only at h'
      split at h'
      ·rename_i w2 hw2; cases h'; exact ⟨m',rfl,rfl,hw2⟩
      ·cases h'
     | exit id =>
      simp only at h'
      split at h'
      ·split at h' <;> cases h'
      ·cases h'
     | ret =>
      simp only at h'
      split at h'
      ·split at h' <;> cases h'
      ·cases h'
     | goto l=>simp [EX.of] at h'
     | panic l=>simp [EX.of] at h'
     | outgrown=>simp [EX.of] at h'
   ·rename_i out' hF'
    cases hj
    have hbody:=qx hm x a _ hroI _ _ _ (fun ex st'=>∃ m' e,st' = za (Ya (!Nat.beq X.wr 0) ro m ds bs) m'/\EX.of ex = some e/\zca (zT ro m) (Ya (!Nat.beq X.wr 0) ro m ds bs) m' e es = some out) hok (fun ex m' h'=>?_) hF'
    ·refine wp_mono (hbody F a' w' pr' lam' hF hsv) ?_
     rintro ex a'' w'' ⟨st',pr'',lam'',⟨m',e,rfl,he,hr⟩,hs'⟩
     obtain ⟨L',y,⟨e',hmem⟩,hr',hk'⟩:=zct hr hw
     have getS1:∀ s,zy ro ⟨zmj (m.sl.mapV (Zn (!Nat.beq X.wr 0))) ds,m.bx⟩ s = if s ∈ ds then (.any,none) else Zn (!Nat.beq X.wr 0) (zy ro m s):=by
      intro s
      unfold zy
      by_cases hsd:s ∈ ds
      ·rw [d1 s hsd,if_pos hsd]
       simp [zgS,hsd]
      ·rw [if_neg hsd]
       cases ho:ro.own s
       ·exact (hro.idem s).symm
       ·simp only [cond_true]
        rw [zgS,if_neg hsd,T.get_mapV]
        cases m.sl.get s
        ·simp [Zn,qm]
        ·rfl
     obtain ⟨lam3,hs3⟩:=zq.carry (roT:=ro) (m1:=⟨zmj (m.sl.mapV (Zn (!Nat.beq X.wr 0))) ds,m.bx⟩) (n:=m.bx.length) hs' hr' rfl d6 (f2 _ hmem) (fun s=>by
       rw [getS1]
       split
       ·exact .inr (.inr (by simp [pv,toV]))
       ·rw [insS m' s ‹_›]; exact .inl rfl) (fun i hi=>by
       by_cases hb:i ∈ bs
       ·exact .inr ⟨d5 _ hmem i hb,d2 i hb⟩
       ·rw [insB m' i hi hb]; exact .inl rfl) (fun s=>by
       rw [getS1]
       split
       ·simp [toV,ltV]
       ·exact zk1 (E1 s)) E2 E3
     have hfin:=hK _ _ hk'
     rw [EX.of_to he] at hfin
     cases ex with
     | normal=>simp [EX.of] at he
     | exit id=>exact ⟨_,pr'',lam3,hfin,hs3⟩
     | ret=>exact ⟨_,pr'',lam3,hfin,hs3⟩
     | goto l=>simp [EX.of] at he
     | panic l=>simp [EX.of] at he
     | outgrown=>simp [EX.of] at he
    ·cases ex with
     | normal =>
      simp only at h'
      split at h' <;> cases h'
     | exit id =>
      simp only at h'
      split at h'
      ·rename_i e he
       split at h'
       ·rename_i w2 hw2; cases h'; exact ⟨m',e,rfl,he,hw2⟩
       ·cases h'
      ·cases h'
     | ret =>
      simp only at h'
      split at h'
      ·rename_i e he
       split at h'
       ·rename_i w2 hw2; cases h'; exact ⟨m',e,rfl,he,hw2⟩
       ·cases h'
      ·cases h'
     | goto l=>simp [EX.of] at h'
     | panic l=>simp [EX.of] at h'
     | outgrown=>simp [EX.of] at h'
   ·cases hj
 | .loop _,.no,ro,hro,m,β,k,r,Kp,_,_,h=>by cases h
 | .loop _,.two _ _,ro,hro,m,β,k,r,Kp,_,_,h=>by cases h
 | .rangeFunc _ _ _ _,a,ro,hro,m,β,k,r,Kp,_,_,h=>by cases a <;> cases h
 | .scope _,a,ro,hro,m,β,k,r,Kp,_,_,h=>by cases a <;> cases h
 | .goto _,a,ro,hro,m,β,k,r,Kp,_,_,h=>by cases a <;> cases h
 | .refuse _,a,ro,hro,m,β,k,r,Kp,_,_,h=>by cases a <;> cases h
end
end Go.X
namespace Go.X
open Go.Eng
open Go.RowKit
variable {β:Type}
section
variable {P:Program}
theorem zcP:∀ (args:List S) (n s:Nat),(Zf n args).get s = if n <= s then (args[s - n]?).map (·,some (2000000,0)) else none
 | [],n,s=>by simp [Zf,T.get_nil]
 | a :: args,n,s=>by
  simp only [Zf]
  rw [T.get_set,zcP args (n + 1) s]
  by_cases h:s = n
  ·subst h; simp
  ·rw [if_neg h]
   by_cases h1:n + 1 <= s
   ·rw [if_pos h1,if_pos (by omega)]
    have:s - n = s - (n + 1) + 1:=by omega
    rw [this,List.getElem?_cons_succ]
   ·rw [if_neg h1,if_neg (by omega)]
theorem zid {F:Fr} {a:Act} {w:World} {pr:Nat->Nat->Prop} {lam:Nat->Option Nat} {args:List S} {ins:List yW} (h:zq P F (St.init (zg args) (ins.map zD)) a w pr lam) :
  zq P F (za yC ⟨Zf 0 args,ins.map some⟩) a w pr lam:=by
 have hw:=zq.weak h (nb':=ins.length) (sl':=(za yC ⟨Zf 0 args,ins.map some⟩).sl) (fun s=>?_)
 ·refine (congrArg (fun st=>zq P F st a w pr lam) ?_).mp hw
  show (⟨ins.length,_,_⟩:St) = za _ _
  unfold za
  congr 1
  ·simp
  ·funext i
   show (ins.map zD)[i]? = (zT yC ⟨Zf 0 args,ins.map some⟩ i).map zD
   have:zT yC ⟨Zf 0 args,ins.map some⟩ i = ((ins.map some)[i]?).getD none:=rfl
   rw [this,List.getElem?_map,List.getElem?_map]
   cases ins[i]? <;> rfl
 ·show Wk (pv (zy yC ⟨Zf 0 args,ins.map some⟩ s)) ((zg args).getD s .un,some (2000000,0))
  have:zy yC ⟨Zf 0 args,ins.map some⟩ s = ((Zf 0 args).get s).getD (.any,none):=rfl
  rw [this,zcP]
  simp only [Nat.zero_le,if_true,Nat.sub_zero]
  cases hq:args[s]? with
  | none=>exact .inr (.inr (by simp [pv,toV]))
  | some x =>
   refine .inl ?_
   simp only [Option.map_some,Option.getD_some,pv,List.getD,ZS,hq]
theorem zie {m:Mm}:∀ {rs:List ResultVar} {vs:List S},zmk (P:=P) m rs = some vs->QH (za yC m) P rs = some (zg vs)
 | [],vs,h=>by simp only [zmk,zuf] at h; subst h; simp [QH,zg]
 | r :: rs,vs,h=>by
  simp only [zmk] at h
  simp only [QH]
  split at h
  ·rename_i v vs' h1 h2
   cases h
   rw [zie h2]
   have:zbm (za yC m) P r = some (toV v):=by
    cases r with
    | tmp t =>
     simp only [zuf] at h1
     subst h1; rfl
    | cell a t =>
     simp only at h1
     have he:(za yC m).env a = toV (zy yC m a).1:=rfl
     simp only [zbm]
     rw [he]
     split at h1
     ·rename_i i off hl
      rw [hl]
      simp only [toV]
      split at h1
      ·rename_i cs ty hB ha
       have hb:(za yC m).box i = some ⟨zg cs,ty⟩:=by show (zT yC m i).map zD = _; rw [hB]; rfl
       simp only [hb,ha]
       split at h1
       ·rename_i n hn
        obtain ⟨q1,q2⟩:=zZ h1
        simp only [zuc] at q1
        cases q2
        simp only [hn]
        rw [if_pos ⟨zhj q1.1,by rw [yI]; exact zue q1.2⟩]
        simp [toV,Ql]
       ·cases h1
      ·rename_i cs ty hB ha
       have hb:(za yC m).box i = some ⟨zg cs,ty⟩:=by show (zT yC m i).map zD = _; rw [hB]; rfl
       simp only [hb,ha]
       cases hq:Nat.blt ty 1000000000 with
       | false=>rw [hq] at h1; cases h1
       | true =>
        rw [hq] at h1
        simp only [cond_true] at h1
        rw [if_pos (zhj hq),ZS,h1]; rfl
      ·cases h1
     ·cases h1
   rw [this]
   simp [zg]
  ·cases h
theorem zcQ {m:Mm}:∀ {n i:Nat} {outs:List yW},zeI m i n = some outs->outs.length = n/\(∀ B ∈ outs,zbL B = true)/\∀ j B,outs[j]? = some B->zT yC m (i + j) = some B
 | 0,i,outs,h=>by
  simp only [zeI,zuf] at h; subst h
  exact ⟨rfl,by simp,fun j B hj=>by simp at hj⟩
 | n + 1,i,outs,h=>by
  simp only [zeI] at h
  split at h
  ·rename_i B bs h1 h2
   obtain ⟨q1,q2⟩:=zZ h
   cases q2
   obtain ⟨a1,a2,a3⟩:=zcQ h2
   refine ⟨by simp [a1],fun B' hB'=>?_,fun j B' hj=>?_⟩
   ·simp at hB'
    rcases hB' with rfl | hB'
    ·exact q1
    ·exact a2 B' hB'
   ·cases j with
    | zero=>simp at hj; subst hj; exact h1
    | succ j =>
     have:=a3 j B' (by simpa using hj)
     rwa [show i + 1 + j = i + (j + 1) from by omega] at this
  ·cases h
theorem znE {X:zcm P} (hm:P.follows .mixedOrders = true) {f:FuncId} {fn:Func} {c:Code} {a:Ann} (hf:P.funcs[f]? = some fn) (hb:fn.body = some c) (hok:okX fn.ntmps c a = true) {args:List S} {ins:List yW}
  (hsz:args.length <= fn.ntmps) {K:S->List yW->Option β} {r:β} {vres:V} {vouts:List Box} (h:zqf X fn.results.toList c a args ins K = some r)
  (hK:∀ res outs,K res outs = some r->outs.length = ins.length->toV res = vres/\outs.map zD = vouts) (hnl:vres.noLoc = true) (hno:∀ B ∈ vouts,V.noLocL B.cells = true) (hl:vouts.length <= ins.length) :
  Go.Eng.Fn P f (zg args) (ins.map zD) vres vouts:=by
 refine Fn.of_AWp hf hb (by rw [yI]; exact hsz) hnl hno (by simpa using hl) ?_
 have hc:=qx (X:=X) hm c a yC ⟨fun s=>by simp [yC,Zn,qm],fun s t e h=>(by cases h),fun _ s _=>.inr rfl,fun _ i B hi=>(by cases hi)⟩ _ _ r (ztc P fn.results.toList vres vouts) hok ?_ h
 ·intro F ac w pr lam hF hs
  exact hc F ac w pr lam hF (zid hs)
 ·intro ex m' hk
  have key:(∃ vs outs,zmk (P:=P) m' fn.results.toList = some vs/\zeI m' 0 ins.length = some outs/\K (match vs with | [v]=>v | vs=>.tup vs) outs = some r)->zg3 (za yC m') P fn.results.toList = some vres/\(∀ i B,vouts[i]? = some B->(za yC m').box i = some B):=by
   rintro ⟨vs,outs,h1,h2,h3⟩
   obtain ⟨q1,q2,q3⟩:=zcQ h2
   obtain ⟨e1,e2⟩:=hK _ _ h3 q1
   refine ⟨?_,fun i B hB=>?_⟩
   ·unfold zg3
    rw [zie h1,<- e1]
    match vs with
    | []=>simp [zg,toV]
    | [v]=>simp [zg]
    | v :: w :: vs=>simp [zg,toV]
   ·rw [<- e2,List.getElem?_map] at hB
    cases ho:outs[i]? with
    | none=>rw [ho] at hB; cases hB
    | some B' =>
     rw [ho] at hB
     cases hB
     show (zT yC m' i).map zD = _
     have:=q3 i B' ho
     rw [Nat.zero_add] at this
     rw [this]; rfl
  have hk':(ex = .ret ∨ ex = .normal)/\∃ vs outs,zmk (P:=P) m' fn.results.toList = some vs/\zeI m' 0 ins.length = some outs/\K (match vs with | [v]=>v | vs=>.tup vs) outs = some r:=by
   split at hk
   ·rename_i v outs hex h1 h2
    obtain ⟨_,hk⟩:=zZ hk
    refine ⟨?_,_,_,h1,h2,hk⟩
    cases ex <;> simp at hex ⊢
   ·rename_i vs outs hne hex h1 h2
    obtain ⟨_,hk⟩:=zZ hk
    refine ⟨?_,_,_,h1,h2,?_⟩
    ·cases ex <;> simp at hex ⊢
    ·match vs,hne with
     | [],_=>exact hk
     | [v],hne=>exact absurd rfl (hne v)
     | v :: w :: vs,_=>exact hk
   ·cases hk
  obtain ⟨hex,hk'⟩:=hk'
  rcases hex with rfl | rfl
  ·exact key hk'
  ·exact key hk'
end
@[reducible] def qu:List C->Type
 | []=>Unit
 | [c]=>den c
 | c :: d :: cs=>den c × qu (d :: cs)
def Z6:(cs:List C)->List S->Option (qu cs)
 | [],[]=>some ()
 | [c],[s]=>qC c s
 | c :: d :: cs,s :: ss=>(match qC c s,Z6 (d :: cs) ss with | some x,some y=>some (x,y) | _,_=>none)
 | _,_=>none
def qT:(cs:List C)->qu cs->List S
 | [],_=>[]
 | [c],x=>[refl c x]
 | c :: d :: cs,x=>refl c x.1 :: qT (d :: cs) x.2
def zhu:(cs:List C)->qu cs->List V
 | [],_=>[]
 | [c],x=>[enc c x]
 | c :: d :: cs,x=>enc c x.1 :: zhu (d :: cs) x.2
theorem QB:∀ (cs:List C) (x:qu cs),zg (qT cs x) = zhu cs x
 | [],_=>by simp [qT,zhu,zg]
 | [c],x=>by simp [qT,zhu,zg,qw]
 | c :: d :: cs,x=>by simp [qT,zhu,zg,qw,QB (d :: cs) x.2]
theorem ZW:∀ {cs:List C} {ss:List S} {x:qu cs},Z6 cs ss = some x->zg ss = zhu cs x
 | [],[],x,h=>by simp [zhu,zg]
 | [],_ :: _,x,h=>by simp [Z6] at h
 | [c],[],x,h=>by simp [Z6] at h
 | [c],[s],x,h=>by
  simp only [Z6] at h
  simp [zhu,zg,yl h]
 | [c],_ :: _ :: _,x,h=>by simp [Z6] at h
 | c :: d :: cs,[],x,h=>by simp [Z6] at h
 | c :: d :: cs,s :: ss,x,h=>by
  simp only [Z6] at h
  split at h
  ·rename_i y z hy hz
   cases h
   simp [zhu,zg,yl hy,ZW hz]
  ·cases h
theorem zeQ:∀ (cs:List C) (x:qu cs),qD (qT cs x) = true
 | [],_=>rfl
 | [c],x=>by simp [qT,qD,zaf]
 | c :: d :: cs,x=>by simp [qT,qD,zaf,zeQ (d :: cs) x.2]
def zmC (rs:List C) (x:qu rs):S:=match qT rs x with
 | [v]=>v
 | vs=>.tup vs
def zeR (rs:List C) (x:qu rs):V:=toV (zmC rs x)
def zcg (rs:List C) (s:S):Option (qu rs):=match rs with
 | [c]=>qC c s
 | rs=>(match s with | .tup vs=>Z6 rs vs | _=>none)
theorem zeS:∀ {rs:List C} {s:S} {x:qu rs},zcg rs s = some x->toV s = zeR rs x
 | [c],s,x,h=>by
  simp only [zcg] at h
  show toV s = toV (refl c x)
  rw [qw]; exact yl h
 | [],s,x,h=>by
  simp only [zcg] at h
  split at h
  ·rename_i vs
   have e:=ZW h
   simp only [toV,e,zhu]
   show _ = toV (.tup [])
   simp [toV,zg]
  ·cases h
 | c :: d :: rs,s,x,h=>by
  simp only [zcg] at h
  split at h
  ·rename_i vs
   have e:=ZW h
   rw [<- QB] at e
   have hq:zmC (c :: d :: rs) x = .tup (qT (c :: d :: rs) x):=by
    unfold zmC
    cases rs <;> simp [qT]
   unfold zeR
   rw [hq]
   simp only [toV,e]
  ·cases h
theorem zcR (rs:List C) (x:qu rs):yD (zmC rs x) = true:=by
 unfold zmC
 have h:=zeQ rs x
 split
 ·rename_i v e
  rw [e] at h
  simpa [qD] using h
 ·rename_i e; simpa [yD] using h
theorem zeT (rs:List C) (x:qu rs):(zeR rs x).noLoc = true:=zdy _ (zcR rs x)
inductive AK where
 | d (c:C)
 | f (g:FuncId) (caps:List Nat)
 | l (i off:Nat)
 | m (g:FuncId)
 | e
def qa:List AK->List C
 | []=>[]
 | .d c :: ak=>c :: qa ak
 | _ :: ak=>qa ak
def zqu:List Nat->List S
 | []=>[]
 | i :: is=>.loc i 0 :: zqu is
def yr:List AK->List S->List S
 | [],_=>[]
 | .d _ :: ak,s :: ss=>s :: yr ak ss
 | .d _ :: ak,[]=>[]
 | .f g caps :: ak,ss=>.fn (.func g) [] (zqu caps) :: yr ak ss
 | .l i off :: ak,ss=>.loc i off :: yr ak ss
 | .m g :: ak,ss=>.fn (.func g) [.agg []] [] :: yr ak ss
 | .e :: ak,ss=>.agg [] :: yr ak ss
def zeo:List Nat->List S->Bool
 | [],[]=>true
 | i :: is,.loc j o :: ss=>Nat.beq i j && Nat.beq o 0 && zeo is ss
 | _,_=>false
def qy:List AK->List S->Option (List S)
 | [],[]=>some []
 | .d _ :: ak,s :: ss=>(match qy ak ss with | some ds=>some (s :: ds) | none=>none)
 | .f g caps :: ak,.fn (.func g') [] cs :: ss=>bif Nat.beq g g' && zeo caps cs then qy ak ss else none
 | .l i off :: ak,.loc i' off' :: ss=>bif Nat.beq i i' && Nat.beq off off' then qy ak ss else none
 | .m g :: ak,.fn (.func g') [.agg []] [] :: ss=>bif Nat.beq g g' then qy ak ss else none
 | .e :: ak,.agg [] :: ss=>qy ak ss
 | _,_=>none
theorem zeU:∀ {is:List Nat} {ss:List S},zeo is ss = true->ss = zqu is
 | [],[],_=>rfl
 | [],_ :: _,h=>by simp [zeo] at h
 | _ :: _,[],h=>by simp [zeo] at h
 | i :: is,s :: ss,h=>by
  cases s <;> simp only [zeo,zuc,Bool.false_eq_true] at h
  rename_i j o
  obtain ⟨⟨h1,h2⟩,h3⟩:=h
  rw [zud h1,zud h2,zeU h3]
  rfl
theorem Za:∀ {ak:List AK} {ss ds:List S},qy ak ss = some ds->ss = yr ak ds
 | [],[],ds,h=>by simp only [qy,zuf] at h; subst h; rfl
 | [],_ :: _,ds,h=>by simp [qy] at h
 | .d c :: ak,[],ds,h=>by simp [qy] at h
 | .d c :: ak,s :: ss,ds,h=>by
  simp only [qy] at h
  split at h
  ·rename_i ds' hd; cases h; simp only [yr]; rw [<- Za hd]
  ·cases h
 | .f g caps :: ak,[],ds,h=>by simp [qy] at h
 | .l i off :: ak,[],ds,h=>by simp [qy] at h
 | .f g caps :: ak,s :: ss,ds,h=>by
  cases s with
  | fn f first cap =>
   cases f with
   | func g' =>
    cases first with
    | nil =>
     simp only [qy] at h
     obtain ⟨h1,h2⟩:=zZ h
     simp only [zuc] at h1
     simp only [yr]
     rw [<- Za h2,zud h1.1,zeU h1.2]
    | cons=>simp [qy] at h
   | _=>simp [qy] at h
  | _=>simp [qy] at h
 | .l i off :: ak,s :: ss,ds,h=>by
  cases s with
  | loc i' off' =>
   simp only [qy] at h
   obtain ⟨h1,h2⟩:=zZ h
   simp only [zuc] at h1
   simp only [yr]
   rw [<- Za h2,zud h1.1,zud h1.2]
  | _=>simp [qy] at h
 | .m g :: ak,[],ds,h=>by simp [qy] at h
 | .e :: ak,[],ds,h=>by simp [qy] at h
 | .m g :: ak,s :: ss,ds,h=>by
  unfold qy at h
  split at h
  all_goals first | (simp at *; done) | skip
  ·rename_i heq1 heq2
   cases heq1
   cases heq2
   obtain ⟨h1,h2⟩:=zZ h
   simp only [yr]
   rw [<- Za h2,zud h1]
 | .e :: ak,s :: ss,ds,h=>by
  unfold qy at h
  split at h
  all_goals first | (simp at *; done) | skip
  ·rename_i heq1 heq2
   cases heq1
   cases heq2
   simp only [yr]
   rw [<- Za h]
theorem Z7:∀ (ak:List AK) (ss:List S),(yr ak ss).length <= ak.length
 | [],_=>by simp [yr]
 | .d c :: ak,[]=>by simp [yr]
 | .d c :: ak,s :: ss=>by simp [yr]; exact Z7 ak ss
 | .f g caps :: ak,ss=>by simp [yr]; exact Z7 ak ss
 | .l i o :: ak,ss=>by simp [yr]; exact Z7 ak ss
 | .m g :: ak,ss=>by simp [yr]; exact Z7 ak ss
 | .e :: ak,ss=>by simp [yr]; exact Z7 ak ss
theorem qG:∀ (ak:List AK) {ss ds:List S},zg ss = zg ds->zg (yr ak ss) = zg (yr ak ds)
 | [],_,_,_=>rfl
 | .d c :: ak,[],[],_=>rfl
 | .d c :: ak,[],_ :: _,h=>by simp [zg] at h
 | .d c :: ak,_ :: _,[],h=>by simp [zg] at h
 | .d c :: ak,s :: ss,d :: ds,h=>by
  simp only [zg,List.cons.injEq] at h
  simp only [yr,zg,h.1,qG ak h.2]
 | .f g caps :: ak,ss,ds,h=>by simp only [yr,zg,qG ak h]
 | .l i off :: ak,ss,ds,h=>by simp only [yr,zg,qG ak h]
 | .m g :: ak,ss,ds,h=>by simp only [yr,zg,qG ak h]
 | .e :: ak,ss,ds,h=>by simp only [yr,zg,qG ak h]
abbrev BK:=List (C × TypeId)
@[reducible] def bkC (b:BK):List C:=b.map (·.1)
def Zg:(b:BK)->qu (bkC b)->List yW
 | [],_=>[]
 | [c],x=>[.cells (qN (refl c.1 x)) c.2]
 | c :: d :: b,x=>.cells (qN (refl c.1 x.1)) c.2 :: Zg (d :: b) x.2
def zjy (c:C) (ty:TypeId):yW->Option (den c)
 | .cells cs ty'=>bif Nat.beq ty' ty then (match qC c (.agg cs) with
  | some y=>some y
  | none=>(match cs with
   | [.agg _]=>none
   | [x]=>qC c x
   | _=>none)) else none
 | _=>none
def Z8:(b:BK)->List yW->Option (qu (bkC b))
 | [],[]=>some ()
 | [c],[B]=>zjy c.1 c.2 B
 | c :: d :: b,B :: Bs=>(match zjy c.1 c.2 B,Z8 (d :: b) Bs with | some x,some y=>some (x,y) | _,_=>none)
 | _,_=>none
theorem zeV {c:C} {ty:TypeId} {B:yW} {x:den c} (h:zjy c ty B = some x):zD B = zD (.cells (qN (refl c x)) ty):=by
 cases B with
 | map=>cases h
 | cells cs ty' =>
  simp only [zjy] at h
  obtain ⟨h1,h2⟩:=zZ h
  have ht:=zud h1
  subst ht
  simp only [zD]
  congr 1
  rw [Y6]
  split at h2
  ·rename_i y hy
   cases h2
   have:=yl hy
   simp only [toV] at this
   rw [<- this]; rfl
  ·split at h2
   ·cases h2
   ·rename_i z hz _
    have:=yl h2
    rw [<- this]
    have hne:∀ ds,z ≠ .agg ds:=fun ds e=>hz ds (by rw [e])
    have hcl:(toV z).cellsL = [toV z]:=by
     cases z with
     | agg ds=>exact absurd rfl (hne ds)
     | gel g o=>simp only [toV]; split <;> rfl
     | ivd x=>simp only [toV]; exact zcb x
     | _=>rfl
    rw [hcl]; simp [zg]
   ·cases h2
theorem YW:∀ {b:BK} {Bs:List yW} {x:qu (bkC b)},Z8 b Bs = some x->Bs.map zD = (Zg b x).map zD
 | [],[],x,h=>rfl
 | [],_ :: _,x,h=>by simp [Z8] at h
 | [c],[],x,h=>by simp [Z8] at h
 | [c],[B],x,h=>by
  simp only [Z8] at h
  simp only [Zg,List.map_cons,List.map_nil,zeV h]
 | [c],_ :: _ :: _,x,h=>by simp [Z8] at h
 | c :: d :: b,[],x,h=>by simp [Z8] at h
 | c :: d :: b,B :: Bs,x,h=>by
  simp only [Z8] at h
  split at h
  ·rename_i y z hy hz
   cases h
   simp only [Zg,List.map_cons,zeV hy]
   congr 1
   exact YW hz
  ·cases h
theorem Zh:∀ (b:BK) (x:qu (bkC b)),(Zg b x).length = b.length
 | [],_=>rfl
 | [c],_=>rfl
 | c :: d :: b,x=>by simp [Zg,Zh (d :: b) x.2]
theorem zdG {s:S} (h:yD s = true):qD (qN s) = true:=by
 cases s <;> simp_all [qN,yD,qD]
theorem YX:∀ (b:BK) (x:qu (bkC b)),∀ B ∈ Zg b x,zbL B = true
 | [],_=>by simp [Zg]
 | [c],x=>by
  intro B hB
  simp [Zg] at hB; subst hB
  exact zdG (zaf _ _)
 | c :: d :: b,x=>by
  intro B hB
  simp only [Zg,List.mem_cons] at hB
  rcases hB with rfl | hB
  ·exact zdG (zaf _ _)
  ·exact YX (d :: b) x.2 B hB
def FnT (P:Program) (f:FuncId) (ak:List AK) (rs:List C) (g:qu (qa ak)->Option (qu rs)):Prop :=
 ∀ x r,g x = some r->Go.Eng.Fn P f (zg (yr ak (qT _ x))) [] (zeR rs r) []
def FnB (P:Program) (f:FuncId) (ak:List AK) (b:BK) (rs:List C) (g:qu (qa ak)->qu (bkC b)->Option (qu rs × qu (bkC b))):Prop :=
 ∀ x y r y',g x y = some (r,y')->Go.Eng.Fn P f (zg (yr ak (qT _ x))) ((Zg b y).map zD) (zeR rs r) ((Zg b y').map zD)
def ze.t {P:Program} (f:FuncId) (ak:List AK) (rs:List C) (g:qu (qa ak)->Option (qu rs)) (hgo:zaR P f = true) (h:FnT P f ak rs g):ze P where
 f:=f
 run:=fun args ins K=>match ins with
  | []=>(match qy ak args with
   | some ds=>(match Z6 (qa ak) ds with
    | some x=>some ((g x).bind fun r=>K (zmC rs r) [])
    | none=>none)
   | none=>none)
  | _=>none
 sound:=by
  intro β args ins K r hr
  split at hr
  ·split at hr
   ·rename_i ds hd
    split at hr
    ·rename_i x hx
     simp only [zuf] at hr
     obtain ⟨y,h1,h2⟩:=bind_some hr
     refine ⟨_,_,h2,hgo,?_,zcR rs y,by simp,rfl⟩
     have hF:=h x y h1
     have e:=ZW hx
     rw [<- QB] at e
     rw [<- qG ak e,<- Za hd] at hF
     exact hF
    ·cases hr
   ·cases hr
  ·cases hr
def ze.b {P:Program} (f:FuncId) (ak:List AK) (b:BK) (rs:List C) (g:qu (qa ak)->qu (bkC b)->Option (qu rs × qu (bkC b))) (hgo:zaR P f = true) (h:FnB P f ak b rs g):ze P where
 f:=f
 run:=fun args ins K=>match qy ak args,Z8 b ins with
  | some ds,some y=>(match Z6 (qa ak) ds with
    | some x=>some ((g x y).bind fun r=>K (zmC rs r.1) (Zg b r.2))
    | none=>none)
  | _,_=>none
 sound:=by
  intro β args ins K r hr
  split at hr
  ·rename_i ds y hd hy
   split at hr
   ·rename_i x hx
    simp only [zuf] at hr
    obtain ⟨z,h1,h2⟩:=bind_some hr
    have hb:=YW hy
    refine ⟨_,_,h2,hgo,?_,zcR rs _,YX b _,?_⟩
    ·have hF:=h x y z.1 z.2 h1
     have e:=ZW hx
     rw [<- QB] at e
     rw [<- qG ak e,<- Za hd,<- hb] at hF
     exact hF
    ·rw [Zh,<- Zh b y]
     have:=congrArg List.length hb
     simpa using this.symm
   ·cases hr
  ·cases hr
theorem FnT.of {P:Program} {X:zcm P} (hm:P.follows .mixedOrders = true) {f:FuncId} {fn:Func} {c:Code} {ak:List AK} {rs:List C} {g:qu (qa ak)->Option (qu rs)} (a:Ann)
  (hf:P.funcs[f]? = some fn) (hb:fn.body = some c) (hok:okX fn.ntmps c a = true) (hsz:ak.length <= fn.ntmps)
  (h:∀ x,zqf X fn.results.toList c a (yr ak (qT _ x)) [] (fun res _=>zcg rs res) = g x):FnT P f ak rs g:=by
 intro x r hr
 exact znE (X:=X) hm hf hb hok (Nat.le_trans (Z7 _ _) hsz) ((h x).trans hr) (fun res outs hk ho=>⟨zeS hk,by
  have:outs = []:=zui ho
  rw [this]; rfl⟩) (zeT rs r) (by simp) (Nat.le_refl _)
theorem FnB.of {P:Program} {X:zcm P} (hm:P.follows .mixedOrders = true) {f:FuncId} {fn:Func} {c:Code} {ak:List AK} {b:BK} {rs:List C} {g:qu (qa ak)->qu (bkC b)->Option (qu rs × qu (bkC b))} (a:Ann)
  (hf:P.funcs[f]? = some fn) (hb:fn.body = some c) (hok:okX fn.ntmps c a = true) (hsz:ak.length <= fn.ntmps)
  (h:∀ x y,zqf X fn.results.toList c a (yr ak (qT _ x)) (Zg b y) (fun res outs=>match zcg rs res,Z8 b outs with | some r,some z=>some (r,z) | _,_=>none) = g x y):FnB P f ak b rs g:=by
 intro x y r y' hr
 refine znE (X:=X) hm hf hb hok (Nat.le_trans (Z7 _ _) hsz) ((h x y).trans hr) (fun res outs hk ho=>?_) (zeT rs r) ?_ (by simp [Zh])
 ·split at hk
  ·rename_i r' z h1 h2
   cases hk
   exact ⟨zeS h1,YW h2⟩
  ·cases hk
 ·intro B hB
  obtain ⟨B',hB',rfl⟩:=List.mem_map.1 hB
  exact zbQ (YX b y' B' hB')
def zoB (P:Program) (f:FuncId) (ak:List AK) (c:C) (e:TypeId) (g:qu (qa ak)->Option (List (den c))):Prop :=
 ∀ x l,g x = some l->FnO P f (zg (yr ak (qT _ x))) (.list (l.map (enc c))) e
def zcL.t {P:Program} (f:FuncId) (ak:List AK) (c:C) (e:TypeId) (g:qu (qa ak)->Option (List (den c))) (hgo:zaR P f = true) (h:zoB P f ak c e g):zcL P where
 f:=f
 c:=c
 e:=e
 run:=fun args=>match qy ak args with
  | some ds=>(match Z6 (qa ak) ds with
   | some x=>some (g x)
   | none=>none)
  | none=>none
 sound:=by
  intro args l hr
  split at hr
  ·rename_i ds hd
   split at hr
   ·rename_i x hx
    simp only [zuf] at hr
    have hF:=h x l hr
    have e:=ZW hx
    rw [<- QB] at e
    rw [<- qG ak e,<- Za hd] at hF
    exact ⟨hgo,hF⟩
   ·cases hr
  ·cases hr
theorem zoB.of {P:Program} {X:zcm P} (hm:P.follows .mixedOrders = true) {f:FuncId} {fn:Func} {c:Code} {ak:List AK} {cc:C} {e:TypeId} {g:qu (qa ak)->Option (List (den cc))} (a:Ann)
  (hf:P.funcs[f]? = some fn) (hb:fn.body = some c) (hok:okX fn.ntmps c a = true) (hsz:ak.length <= fn.ntmps)
  (h:∀ x,ztF X fn.results.toList c a (yr ak (qT _ x)) cc e = g x):zoB P f ak cc e g:=by
 intro x l hr
 have hb':=(h x).trans hr
 refine FnO.of_AWp hf hb (by rw [yI]; exact Nat.le_trans (Z7 _ _) hsz) (by simp only [V.noLoc]; exact yH (Z4 cc) l) ?_
 have hc:=qx (X:=X) hm c a yC ⟨fun s=>by simp [yC,Zn,qm],fun s t e h=>(by cases h),fun _ s _=>.inr rfl,fun _ i B hi=>(by cases hi)⟩ _ _ l (ztd P fn.results.toList (.list (l.map (enc cc))) e) hok ?_ hb'
 ·intro F ac w pr lam hF hs
  exact hc F ac w pr lam hF (zid (ins:=[]) hs)
 ·intro ex m' hk
  have key:(ex = .ret ∨ ex = .normal)/\∃ s t,fn.results.toList = [.tmp s]/\(za yC m').env s = .list (l.map (enc cc))/\(za yC m').tok s = some (t,e)/\tcl t = 0:=by
   split at hk
   ·rename_i s hex hrs
    refine ⟨by cases ex <;> simp at hex ⊢,s,?_⟩
    split at hk
    ·rename_i c' l' t e' hs
     obtain ⟨h1,h2⟩:=zZ hk
     simp only [zuc] at h1
     have b1:=zud h1.1
     have b2:=zud h1.2
     subst b2
     split at h2
     ·rename_i hcc
      subst hcc
      cases h2
      exact ⟨t,hrs,by show toV (zy yC m' s).1 = _; rw [hs]; simp only [toV],by show (zy yC m' s).2 = _; rw [hs],b1⟩
     ·cases h2
    ·rename_i t e' hs
     obtain ⟨h1,h2⟩:=zZ hk
     simp only [zuc] at h1
     have b1:=zud h1.1
     have b2:=zud h1.2
     subst b2
     cases h2
     exact ⟨t,hrs,by show toV (zy yC m' s).1 = _; rw [hs]; simp [toV,zg],by show (zy yC m' s).2 = _; rw [hs],b1⟩
    ·cases hk
   ·cases hk
  obtain ⟨hex,key⟩:=key
  rcases hex with rfl | rfl
  ·exact key
  ·exact key
def zqv (P:Program) (f:FuncId) (ak:List AK) (b:BK) (p:Nat) (c:C) (e:TypeId) (g:qu (qa ak)->qu (bkC b)->Option (List (den c) × qu (bkC b))):Prop :=
 ∀ x y l y',g x y = some (l,y')->FnM P f (zg (yr ak (qT _ x))) ((Zg b y).map zD) p e (.list (l.map (enc c))) ((Zg b y').map zD)
def zeg.t {P:Program} (f:FuncId) (ak:List AK) (b:BK) (p:Nat) (c:C) (e:TypeId) (g:qu (qa ak)->qu (bkC b)->Option (List (den c) × qu (bkC b))) (hgo:zaR P f = true) (h:zqv P f ak b p c e g):zeg P where
 f:=f
 p:=p
 c:=c
 e:=e
 run:=fun args ins K=>match qy ak args,Z8 b ins with
  | some ds,some y=>(match Z6 (qa ak) ds with
   | some x=>some ((g x y).bind fun r=>K r.1 (Zg b r.2))
   | none=>none)
  | _,_=>none
 sound:=by
  intro β args ins K r hr
  split at hr
  ·rename_i ds y hd hy
   split at hr
   ·rename_i x hx
    simp only [zuf] at hr
    obtain ⟨z,h1,h2⟩:=bind_some hr
    have hb:=YW hy
    refine ⟨_,_,h2,hgo,?_,YX b _,?_⟩
    ·have hF:=h x y z.1 z.2 h1
     have e:=ZW hx
     rw [<- QB] at e
     rw [<- qG ak e,<- Za hd,<- hb] at hF
     exact hF
    ·rw [Zh,<- Zh b y]
     have:=congrArg List.length hb
     simpa using this.symm
   ·cases hr
  ·cases hr
theorem zmD {P:Program} {F:Fr} {a:Act} {w:World} {pr:Nat->Nat->Prop} {lam:Nat->Option Nat} {args:List S} {ins:List yW} {p:Nat} {e:TypeId} (hpa:p < args.length) (h:zq P F (St.initM (zg args) (ins.map zD) p e) a w pr lam) :
  zq P F (za yC ⟨(Zf 0 args).set p ((args[p]?).getD .any,some (p,e)),ins.map some⟩) a w pr lam:=by
 have hw:=zq.weak h (nb':=ins.length) (sl':=(za yC ⟨(Zf 0 args).set p ((args[p]?).getD .any,some (p,e)),ins.map some⟩).sl) (fun s=>?_)
 ·refine (congrArg (fun st=>zq P F st a w pr lam) ?_).mp hw
  show (⟨ins.length,_,_⟩:St) = za _ _
  unfold za
  congr 1
  ·simp
  ·funext i
   show (ins.map zD)[i]? = (zT yC ⟨(Zf 0 args).set p ((args[p]?).getD .any,some (p,e)),ins.map some⟩ i).map zD
   have:zT yC ⟨(Zf 0 args).set p ((args[p]?).getD .any,some (p,e)),ins.map some⟩ i = ((ins.map some)[i]?).getD none:=rfl
   rw [this,List.getElem?_map,List.getElem?_map]
   cases ins[i]? <;> rfl
 ·show Wk (pv (zy yC ⟨(Zf 0 args).set p ((args[p]?).getD .any,some (p,e)),ins.map some⟩ s)) ((zg args).getD s .un,if s = p then some (p,e) else some (2000000,0))
  have:zy yC ⟨(Zf 0 args).set p ((args[p]?).getD .any,some (p,e)),ins.map some⟩ s = (((Zf 0 args).set p ((args[p]?).getD .any,some (p,e))).get s).getD (.any,none):=rfl
  rw [this,T.get_set]
  by_cases hs:s = p
  ·subst hs
   rw [if_pos rfl,if_pos rfl]
   refine .inl ?_
   have hg:=List.getElem?_eq_getElem hpa
   simp only [Option.getD_some,pv,List.getD,ZS,hg,Option.map_some]
  ·rw [if_neg hs,if_neg hs,zcP]
   simp only [Nat.zero_le,if_true,Nat.sub_zero]
   cases hq:args[s]? with
   | none=>exact .inr (.inr (by simp [pv,toV]))
   | some x =>
    refine .inl ?_
    simp only [Option.map_some,Option.getD_some,pv,List.getD,ZS,hq]
theorem zqv.of {P:Program} {X:zcm P} (hm:P.follows .mixedOrders = true) {f:FuncId} {fn:Func} {c:Code} {ak:List AK} {b:BK} {p:Nat} {cc:C} {e:TypeId} {g:qu (qa ak)->qu (bkC b)->Option (List (den cc) × qu (bkC b))} (a:Ann)
  (hf:P.funcs[f]? = some fn) (hb:fn.body = some c) (hok:okX fn.ntmps c a = true) (hsz:ak.length <= fn.ntmps) (hp:p < 1000000) (hpa:∀ x,p < (yr ak (qT (qa ak) x)).length)
  (h:∀ x y,ztG X fn.results.toList c a (yr ak (qT _ x)) (Zg b y) p cc e (fun l outs=>match Z8 b outs with | some z=>some (l,z) | none=>none) = g x y):zqv P f ak b p cc e g:=by
 intro x y l y' hr
 have hb':=(h x y).trans hr
 refine FnM.of_AWp hf hb (by rw [yI]; exact Nat.le_trans (Z7 _ _) hsz) hp (by rw [yI]; exact hpa x) (by simp only [V.noLoc]; exact yH (Z4 cc) l) ?_ (by simp [Zh]) ?_
 ·intro B hB
  obtain ⟨B',hB',rfl⟩:=List.mem_map.1 hB
  exact zbQ (YX b y' B' hB')
 have hc:=qx (X:=X) hm c a yC ⟨fun s=>by simp [yC,Zn,qm],fun s t e h=>(by cases h),fun _ s _=>.inr rfl,fun _ i B hi=>(by cases hi)⟩ _ _ (l,y') (zte P fn.results.toList (.list (l.map (enc cc))) e ((Zg b y').map zD)) hok ?_ hb'
 ·intro F ac w pr lam hF hs
  exact hc F ac w pr lam hF (zmD (hpa x) hs)
 ·intro ex m' hk
  have key:(ex = .ret ∨ ex = .normal)/\(∃ s t,fn.results.toList = [.tmp s]/\(za yC m').env s = .list (l.map (enc cc))/\(za yC m').tok s = some (t,e)/\tcl t = 0)/\∀ i B,((Zg b y').map zD)[i]? = some B->(za yC m').box i = some B:=by
   split at hk
   case h_2=>cases hk
   rename_i s outs hex hrs hout
   obtain ⟨o1,o2,o3⟩:=zcQ hout
   have boxes:∀ z,Z8 b outs = some z->z = y'->∀ i B,((Zg b y').map zD)[i]? = some B->(za yC m').box i = some B:=by
    intro z hz hzy i B hB
    subst hzy
    rw [<- YW hz,List.getElem?_map] at hB
    cases hoi:outs[i]? with
    | none=>rw [hoi] at hB; cases hB
    | some B' =>
     rw [hoi] at hB
     cases hB
     show (zT yC m' i).map zD = _
     have:=o3 i B' hoi
     rw [Nat.zero_add] at this
     rw [this]; rfl
   refine ⟨by cases ex <;> simp at hex ⊢,?_⟩
   split at hk
   ·rename_i c' l' t e' hs
    obtain ⟨h1,h2⟩:=zZ hk
    simp only [zuc] at h1
    have b1:=zud h1.1
    have b2:=zud h1.2
    subst b2
    split at h2
    ·rename_i hcc
     subst hcc
     dsimp only at h2
     split at h2
     ·rename_i z hz
      simp only [zuf,Prod.mk.injEq] at h2
      obtain ⟨h3,h4⟩:=h2
      subst h3
      exact ⟨⟨s,t,hrs,by show toV (zy yC m' s).1 = _; rw [hs]; simp only [toV],by show (zy yC m' s).2 = _; rw [hs],b1⟩,boxes z hz h4⟩
     ·cases h2
    ·cases h2
   ·rename_i t e' hs
    obtain ⟨h1,h2⟩:=zZ hk
    simp only [zuc] at h1
    have b1:=zud h1.1
    have b2:=zud h1.2
    subst b2
    dsimp only at h2
    split at h2
    ·rename_i z hz
     simp only [zuf,Prod.mk.injEq] at h2
     obtain ⟨h3,h4⟩:=h2
     subst h3
     exact ⟨⟨s,t,hrs,by show toV (zy yC m' s).1 = _; rw [hs]; simp [toV,zg],by show (zy yC m' s).2 = _; rw [hs],b1⟩,boxes z hz h4⟩
    ·cases h2
   ·cases hk
  obtain ⟨hex,key⟩:=key
  rcases hex with rfl | rfl
  ·exact key
  ·exact key
end Go.X
