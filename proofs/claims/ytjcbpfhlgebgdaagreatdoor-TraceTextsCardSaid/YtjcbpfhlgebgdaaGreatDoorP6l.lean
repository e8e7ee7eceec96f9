import Derived.Test.YtjcbpfhlgebgdaaGreatDoorXKr
import Derived.Test.YtjcbpfhlgebgdaaGreatDoorP22v
import Derived.Test.YtjcbpfhlgebgdaaGreatDoorXL
import Derived.Test.YtjcbpfhlgebgdaaGreatDoorXGPk
set_option linter.unusedSimpArgs false
set_option linter.unusedVariables false
namespace Go.Proofs.YtjcbpfhlgebgdaaGreatDoor
open Go Go.Eng Go.RowKit Go.X Go.Seq
theorem YM {n:Int} (h0:0 <= n) (h1:n < 18446744073709551616):IntKind.u64.wrap n = n:=by rw [IntKind.wrap_u64]; omega
theorem zuW {n:Nat} (h:n <= 13):(10:Int) ^ n <= 10000000000000:=by
 rcases (by omega:n = 0 ∨ n = 1 ∨ n = 2 ∨ n = 3 ∨ n = 4 ∨ n = 5 ∨ n = 6 ∨ n = 7 ∨ n = 8 ∨ n = 9 ∨ n = 10 ∨ n = 11 ∨ n = 12 ∨ n = 13) with rfl | rfl | rfl | rfl | rfl | rfl | rfl | rfl | rfl | rfl | rfl | rfl | rfl | rfl <;> decide
def zdE (l:List UInt8):Prop:=∀ c,l.head? = some c->c.toNat < 48 ∨ 57 < c.toNat
theorem zdF {l:List Int} (h:l.length = 3) {k:Nat} (hk:k < 3) (x:Int):(l.set k x).getD k 0 = x:=by
 simp [List.getD,h,hk]
theorem zlo (l:List Int) (k:Nat) (x y:Int):(l.set k x).set k y = l.set k y:=List.set_set ..
theorem zaR {c:UInt8} {l:List UInt8} {k:Nat} {p d:List Int} (h:48 <= c.toNat/\c.toNat <= 57):pkF (c :: l) k p d = if (0 < d.getD k 0/\p.getD k 0 = 0) ∨ d.getD k 0 = 13 then none else pkF l k (p.set k (IntKind.u64.wrap (IntKind.u64.wrap (10 * p.getD k 0) + ((c.toNat:Int) - 48)))) (d.set k (wrap64 (d.getD k 0 + 1))):=by
 show (if c.toNat = 46 then _ else if c.toNat < 48 ∨ 57 < c.toNat then none else _) = _
 rw [if_neg (by omega),if_neg (by omega)]
theorem zfN {c:UInt8} {l:List UInt8} {k:Nat} {p d:List Int} (h:c.toNat = 46):pkF (c :: l) k p d = if k + 1 = 3 then none else pkF l (k + 1) p d:=by
 show (if c.toNat = 46 then _ else _) = _
 rw [if_pos h]
theorem zfO {c:UInt8} {l:List UInt8} {k:Nat} {p d:List Int} (h:c.toNat < 48 ∨ 57 < c.toNat) (h46:c.toNat ≠ 46):pkF (c :: l) k p d = none:=by
 show (if c.toNat = 46 then _ else if c.toNat < 48 ∨ 57 < c.toNat then none else _) = _
 rw [if_neg h46,if_pos h]
theorem zlp {k:Nat} (hk:k < 3):∀ (l:List UInt8) (n:Nat) (v:Int) (p d:List Int),p.length = 3->d.length = 3->1 <= n->n <= 13->1 <= v->v < 10 ^ n ->
  ((rdF l n v).2.1 <= 13/\n <= (rdF l n v).2.1/\zdE (rdF l n v).2.2/\pkF l k (p.set k v) (d.set k (n:Int)) = pkF (rdF l n v).2.2 k (p.set k (rdF l n v).1) (d.set k ((rdF l n v).2.1:Int))) ∨
  (13 < (rdF l n v).2.1/\pkF l k (p.set k v) (d.set k (n:Int)) = none)
 | [],n,v,p,d,hp,hd,h1,h13,hv,hv2=>.inl ⟨h13,Nat.le_refl _,fun c h=>(by cases h),rfl⟩
 | c :: l,n,v,p,d,hp,hd,h1,h13,hv,hv2=>by
  by_cases hc:48 <= c.toNat/\c.toNat <= 57
  ·rw [zao ⟨hc.1,hc.2,h13⟩,zaR hc,zdF hp hk,zdF hd hk]
   by_cases hn:n = 13
   ·subst hn
    rw [if_pos (.inr rfl)]
    refine .inr ⟨?_,rfl⟩
    cases l with
    | nil=>show 13 < 13 + 1; omega
    | cons x l =>
     rw [Yu (by omega)]
     show 13 < 13 + 1
     omega
   ·rw [if_neg (by omega)]
    have hp13:=zuW (n:=n) (by omega)
    have hp13':(10:Int) ^ (n + 1) = 10 * 10 ^ n:=by rw [Int.pow_succ]; omega
    have w1:IntKind.u64.wrap (10 * v) = 10 * v:=YM (by omega) (by omega)
    have w2:IntKind.u64.wrap (10 * v + ((c.toNat:Int) - 48)) = 10 * v + ((c.toNat:Int) - 48):=YM (by omega) (by omega)
    have w3:wrap64 ((n:Int) + 1) = ((n + 1:Nat):Int):=by rw [IntWalk.wrap64_in _ (by omega)]; omega
    rw [w1,w2,w3,zlo,zlo]
    have ih:=zlp hk l (n + 1) (10 * v + ((c.toNat:Int) - 48)) p d hp hd (by omega) (by omega) (by omega) (by omega)
    rcases ih with ⟨a,b,e,f⟩ | ⟨a,b⟩
    ·exact .inl ⟨a,by omega,e,f⟩
    ·exact .inr ⟨a,b⟩
  ·rw [Yu (fun h=>hc ⟨h.1,h.2.1⟩)]
   refine .inl ⟨h13,Nat.le_refl _,fun x hx=>?_,rfl⟩
   simp only [List.head?_cons,Option.some.injEq] at hx
   subst hx
   omega
theorem zgI {k:Nat} (hk:k < 3) (l:List UInt8) (p d:List Int) (hp:p.length = 3) (hd:d.length = 3) (hpk:p.getD k 0 = 0) (hdk:d.getD k 0 = 0) :
  (Yv k l p = none/\((rdF l 0 0).2.1 = 0/\zdE l ∨ pkF l k p d = none)) ∨
  (∃ (v:Int) (n:Nat) (rest:List UInt8),Yv k l p = some (rest,p.set k v)/\1 <= n/\n <= 13/\zdE rest/\pkF l k p d = pkF rest k (p.set k v) (d.set k (n:Int))):=by
 unfold Yv
 rw [hpk]
 cases l with
 | nil =>
  refine .inl ⟨if_pos (.inl rfl),.inl ⟨rfl,fun c h=>(by cases h)⟩⟩
 | cons c l =>
  by_cases hc:48 <= c.toNat/\c.toNat <= 57
  ·rw [zao ⟨hc.1,hc.2,by omega⟩,zaR hc,hpk,hdk,if_neg (show ¬ ((0 < (0:Int)/\(0:Int) = 0) ∨ (0:Int) = 13) by omega)]
   have w1:IntKind.u64.wrap (10 * 0) = 0:=YM (by omega) (by omega)
   have w2:IntKind.u64.wrap (0 + ((c.toNat:Int) - 48)) = (c.toNat:Int) - 48:=by rw [Int.zero_add]; exact YM (by omega) (by omega)
   have w3:wrap64 ((0:Int) + 1) = ((1:Nat):Int):=by rw [IntWalk.wrap64_in _ (by omega)]; rfl
   rw [w1,w2,w3]
   by_cases h0:c.toNat = 48
   ·have hc48:c = 48:=UInt8.toNat_inj.1 h0
    have hv:(c.toNat:Int) - 48 = 0:=by omega
    rw [hv]
    cases l with
    | nil =>
     refine .inr ⟨0,1,[],?_,(by omega),(by omega),fun c h=>(by cases h),rfl⟩
     rw [if_neg (by simp [rdF])]
     rfl
    | cons x l =>
     by_cases hx:48 <= x.toNat/\x.toNat <= 57
     ·have ge:∀ (l:List UInt8) (n:Nat) (v:Int),n <= (rdF l n v).2.1:=by
       intro l
       induction l with
       | nil=>intro n v; exact Nat.le_refl _
       | cons y l ih =>
        intro n v
        by_cases hy:48 <= y.toNat/\y.toNat <= 57/\n <= 13
        ·rw [zao hy]
         have:=ih (n + 1) (IntKind.u64.wrap (IntKind.u64.wrap (10 * v) + ((y.toNat:Int) - 48)))
         omega
        ·rw [Yu hy]; exact Nat.le_refl _
      have h1:1 < (rdF (x :: l) (0 + 1) 0).2.1:=by
       rw [zao ⟨hx.1,hx.2,by omega⟩]
       have:=ge l (0 + 1 + 1) (IntKind.u64.wrap (IntKind.u64.wrap (10 * 0) + ((x.toNat:Int) - 48)))
       omega
      have h2:pkF (x :: l) k (p.set k 0) (d.set k ((1:Nat):Int)) = none:=by
       rw [zaR hx,zdF hp hk,zdF hd hk,if_pos (.inl ⟨by omega,rfl⟩)]
      exact .inl ⟨if_pos (.inr (.inr ⟨h1,by simp [hc48]⟩)),.inr h2⟩
     ·rw [Yu (fun h=>hx ⟨h.1,h.2.1⟩)]
      refine .inr ⟨0,1,x :: l,?_,(by omega),(by omega),fun y hy=>?_,rfl⟩
      ·rw [if_neg (by simp)]
      ·simp only [List.head?_cons,Option.some.injEq] at hy
       subst hy
       omega
   ·have hh:¬ (c :: l).head? = some 48:=by
     simp only [List.head?_cons,Option.some.injEq]
     rintro rfl
     exact h0 rfl
    have ih:=zlp hk l 1 ((c.toNat:Int) - 48) p d hp hd (Nat.le_refl _) (by omega) (by omega) (by omega)
    rcases ih with ⟨a,b,e,f⟩ | ⟨a,b⟩
    ·refine .inr ⟨(rdF l 1 ((c.toNat:Int) - 48)).1,(rdF l 1 ((c.toNat:Int) - 48)).2.1,(rdF l 1 ((c.toNat:Int) - 48)).2.2,?_,by omega,a,e,f⟩
     have a':(rdF l (0 + 1) ((c.toNat:Int) - 48)).2.1 <= 13:=a
     have b':1 <= (rdF l (0 + 1) ((c.toNat:Int) - 48)).2.1:=b
     rw [if_neg (fun h=>by rcases h with h | h | h; omega; omega; exact hh h.2)]
    ·exact .inl ⟨if_pos (.inr (.inl a)),.inr b⟩
  ·have hs:zdE (c :: l):=fun x hx=>by
    simp only [List.head?_cons,Option.some.injEq] at hx
    subst hx
    omega
   rw [Yu (fun h=>hc ⟨h.1,h.2.1⟩)]
   exact .inl ⟨if_pos (.inl rfl),.inl ⟨rfl,hs⟩⟩
theorem zgJ:∀ (l:List UInt8) (k j:Nat) (p d:List Int),j < k->d.getD j 0 = 0->pkF l k p d = none ∨ ∃ p' d',pkF l k p d = some (p',d')/\d'.getD j 0 = 0/\d'.length = d.length/\p'.length = p.length
 | [],k,j,p,d,hj,h0=>.inr ⟨p,d,rfl,h0,rfl,rfl⟩
 | c :: l,k,j,p,d,hj,h0=>by
  by_cases h46:c.toNat = 46
  ·rw [zfN h46]
   split
   ·exact .inl rfl
   ·exact zgJ l (k + 1) j p d (by omega) h0
  ·by_cases hc:48 <= c.toNat/\c.toNat <= 57
   ·rw [zaR hc]
    split
    ·exact .inl rfl
    ·have:=zgJ l k j (p.set k (IntKind.u64.wrap (IntKind.u64.wrap (10 * p.getD k 0) + ((c.toNat:Int) - 48)))) (d.set k (wrap64 (d.getD k 0 + 1))) hj (by
      rw [List.getD_eq_getElem?_getD,List.getElem?_set_ne (by omega),<- List.getD_eq_getElem?_getD]; exact h0)
     simpa using this
   ·exact .inl (zfO (by omega) h46)
open Go.X Go.Eng
def Yn (d:ID):Prop:=1 <= d.Node/\d.Node <= 16/\d.Seq <= 1099511627776/\0 <= d.Off/\d.Off <= 19999
theorem zqX (l:List W3) (hl:l.length <= 100):W (qc l) fun r=>(r = true/\∀ x ∈ l,x.b <= x.a/\x.a <= x.c) ∨ (r = false/\¬ ∀ x ∈ l,x.b <= x.a/\x.a <= x.c):=by
 unfold qc
 refine Qg (fun i:Int=>0 <= i/\i <= (l.length:Int)/\∀ x ∈ l.take i.toNat,x.b <= x.a/\x.a <= x.c) (fun i=>l.length - i.toNat) ?_ ⟨by omega,by omega,by simp⟩
 intro i hi
 refine yn (fun h=>?_) fun h=>?_
 ·refine Zj (by omega) (by omega) fun x hx=>?_
  have hm:=List.mem_of_getElem? hx
  refine yn (fun h=>yK (zx (.inr ⟨rfl,fun q=>?_⟩))) fun h=>?_
  ·have:=q x hm; omega
  refine yn (fun h=>yK (zx (.inr ⟨rfl,fun q=>?_⟩))) fun h2=>?_
  ·have:=q x hm; omega
  refine ZW fun j hj=>qn ⟨⟨by omega,by omega,fun y hy=>?_⟩,by omega⟩
  rw [show j.toNat = i.toNat + 1 from by omega,List.take_add_one,hx] at hy
  rcases List.mem_append.1 hy with hy | hy
  ·exact hi.2.2 y hy
  ·simp at hy; subst hy; omega
 ·refine yK (zx (.inl ⟨rfl,?_⟩))
  have:=hi.2.2
  rwa [List.take_of_length_le (by omega)] at this
theorem zcr (d:ID):W (zm d) fun r=>(r = 0/\Yn d) ∨ (r = 2/\¬ Yn d):=by
 unfold zm
 refine qM (zqX _ (by simp)) fun r hr=>?_
 rcases hr with ⟨rfl,hr⟩ | ⟨rfl,hr⟩
 ·have h1:=hr ⟨d.Node,1,16⟩ (by simp)
  have h2:=hr ⟨d.Off,0,19999⟩ (by simp)
  dsimp only at h1 h2
  refine Zs (zap ?_)
  refine yn (fun h=>zx (.inr ⟨rfl,fun k=>?_⟩)) fun h=>zx (.inl ⟨rfl,?_⟩)
  ·unfold Yn at k; omega
  ·unfold Yn; omega
 ·refine Zs (zhB (zx (.inr ⟨rfl,fun k=>hr fun x hx=>?_⟩)))
  unfold Yn at k
  simp at hx
  rcases hx with rfl | rfl
  ·dsimp only; omega
  ·dsimp only; omega
theorem zcV (d:ID):W (zd d) fun r=>(r = 0/\Yn d) ∨ (r = 2/\¬ Yn d):=by
 unfold zd
 have no:¬ Yn d->W (some (2:Int)) fun r=>(r = 0/\Yn d) ∨ (r = 2/\¬ Yn d):=fun h=>zx (.inr ⟨rfl,h⟩)
 refine yn (fun h=>no fun k=>by unfold Yn at k; omega) fun q1=>?_
 refine yn (fun h=>no fun k=>by unfold Yn at k; omega) fun q2=>?_
 refine yn (fun h=>no fun k=>by unfold Yn at k; omega) fun q3=>?_
 refine yn (fun h=>no fun k=>by unfold Yn at k; omega) fun q4=>?_
 refine yn (fun h=>no fun k=>by unfold Yn at k; omega) fun q5=>?_
 exact zx (.inl ⟨rfl,by unfold Yn; omega⟩)
open Go Go.Eng Go.RowKit Go.X Go.Seq
theorem zm2 (d:ID):∃ e,zm d = some e/\zd d = some e:=by
 obtain ⟨r,h1,h2⟩:=zcr d
 obtain ⟨r',h1',h2'⟩:=zcV d
 rcases h2 with ⟨rfl,h2⟩ | ⟨rfl,h2⟩ <;> rcases h2' with ⟨rfl,h2'⟩ | ⟨rfl,h2'⟩
 ·exact ⟨_,h1,h1'⟩
 ·exact absurd h2 h2'
 ·exact absurd h2' h2
 ·exact ⟨_,h1,h1'⟩
theorem it3 {d0 d1 d2:Int} (F:Int->Option (Yt Int (Int ⊕ Unit))) (f0:F 0 = some (if d0 = 0 then .done (.inl 0) else .next 1)) (f1:F 1 = some (if d1 = 0 then .done (.inl 1) else .next 2)) (f2:F 2 = some (if d2 = 0 then .done (.inl 2) else .next 3)) (f3:F 3 = some (.done (.inr ()))) :
  qg F 0 = some (if d0 = 0 then .inl 0 else if d1 = 0 then .inl 1 else if d2 = 0 then .inl 2 else .inr ()):=by
 have s3:qg F 3 = some (.inr ()):=by rw [qk,f3]
 have s2:qg F 2 = some (if d2 = 0 then .inl 2 else .inr ()):=by
  rw [qk,f2]
  by_cases h:d2 = 0
  ·rw [if_pos h,if_pos h]
  ·rw [if_neg h,if_neg h]; exact s3
 have s1:qg F 1 = some (if d1 = 0 then .inl 1 else if d2 = 0 then .inl 2 else .inr ()):=by
  rw [qk,f1]
  by_cases h:d1 = 0
  ·rw [if_pos h,if_pos h]
  ·rw [if_neg h,if_neg h]; exact s2
 rw [qk,f0]
 by_cases h:d0 = 0
 ·rw [if_pos h,if_pos h]
 ·rw [if_neg h,if_neg h]; exact s1
theorem ziv (d0 d1 d2:Int):zX ([d0,d1,d2],0) = some (decide (d0 = 0) || decide (d1 = 0) || decide (d2 = 0)):=by
 have st:∀ (i x:Int),0 <= i->i < 3->(br ((0:Int) == x) (some (Yt.done (Sum.inl i))) ((zD .i64 i (1:Int)).bind fun x_5=>some (Yt.next x_5)):Option (Yt Int (Int ⊕ Unit))) = some (if x = 0 then .done (.inl i) else .next (i + 1)):=fun i x h0 h1=>by
  rw [Zo (by omega)]
  by_cases h:x = 0
  ·subst h; rfl
  ·rw [show ((0:Int) == x) = false from beq_eq_false_iff_ne.2 (fun g=>h g.symm),if_neg h]; rfl
 have hit:=it3 (d0:=d0) (d1:=d1) (d2:=d2) (fun x_3=>br (decide (x_3 < (([d0,d1,d2]:List Int).length:Int))) ((idx [d0,d1,d2] x_3).bind fun x_4=>br ((0:Int) == x_4) (some (.done (.inl x_3))) ((zD .i64 x_3 (1:Int)).bind fun x_5=>some (.next x_5))) (some (.done (.inr ()))))
  (st 0 d0 (by decide) (by decide)) (st 1 d1 (by decide) (by decide)) (st 2 d2 (by decide) (by decide)) rfl
 unfold zX qG
 dsimp only at hit ⊢
 rw [hit]
 by_cases h0:d0 = 0
 ·rw [if_pos h0,decide_eq_true h0]; rfl
 ·rw [if_neg h0,decide_eq_false h0]
  by_cases h1:d1 = 0
  ·rw [if_pos h1,decide_eq_true h1]; rfl
  ·rw [if_neg h1,decide_eq_false h1]
   by_cases h2:d2 = 0
   ·rw [if_pos h2,decide_eq_true h2]; rfl
   ·rw [if_neg h2,decide_eq_false h2]; rfl
def zsK (o:Option (List Int × List Int)):Prop:=o = none ∨ ∃ p0 p1 p2 d0 d1 d2,o = some ([p0,p1,p2],[d0,d1,d2])/\(d0 = 0 ∨ d1 = 0 ∨ d2 = 0)
theorem zsL {o:Option (List Int × List Int)} (h:zsK o):zqe o = some (⟨0,0,0⟩,3):=by
 rcases h with rfl | ⟨p0,p1,p2,d0,d1,d2,rfl,h⟩
 ·rfl
 ·have:(decide (d0 = 0) || decide (d1 = 0) || decide (d2 = 0)) = true:=by
   rcases h with h | h | h
   ·rw [decide_eq_true h]; rfl
   ·rw [decide_eq_true h,Bool.or_true]; rfl
   ·rw [decide_eq_true h,Bool.or_true]
  show (zX ([d0,d1,d2],0)).bind _ = _
  rw [ziv,this]; rfl
theorem ztG {l:List Int} (h:l.length = 3):∃ a b c,l = [a,b,c]:=by
 rcases l with _ | ⟨a,_ | ⟨b,_ | ⟨c,_ | ⟨d,l⟩⟩⟩⟩
 ·simp at h
 ·simp at h
 ·simp at h
 ·exact ⟨a,b,c,rfl⟩
 ·simp at h
theorem zlq {o:Option (List Int × List Int)} {j:Nat} (hj:j < 3) (h:o = none ∨ ∃ p' d',o = some (p',d')/\d'.getD j 0 = 0/\d'.length = 3/\p'.length = 3):zsK o:=by
 rcases h with rfl | ⟨p',d',rfl,h1,h2,h3⟩
 ·exact .inl rfl
 ·obtain ⟨a,b,c,rfl⟩:=ztG h2
  obtain ⟨x,y,z,rfl⟩:=ztG h3
  refine .inr ⟨x,y,z,a,b,c,rfl,?_⟩
  rcases (by omega:j = 0 ∨ j = 1 ∨ j = 2) with rfl | rfl | rfl
  ·exact .inl h1
  ·exact .inr (.inl h1)
  ·exact .inr (.inr h1)
theorem zgK {k:Nat} (hk:k < 3) {l:List UInt8} {p d:List Int} (hp:p.length = 3) (hd:d.length = 3) (hdk:d.getD k 0 = 0) (h:(rdF l 0 0).2.1 = 0/\zdE l ∨ pkF l k p d = none):zsK (pkF l k p d):=by
 rcases h with ⟨_,hs⟩ | h
 ·cases l with
  | nil=>exact zlq hk (.inr ⟨p,d,rfl,hdk,hd,hp⟩)
  | cons c l =>
   by_cases h46:c.toNat = 46
   ·rw [zfN h46]
    split
    ·exact .inl rfl
    ·refine zlq hk ?_
     rcases zgJ l (k + 1) k p d (by omega) hdk with h | ⟨p',d',h1,h2,h3,h4⟩
     ·exact .inl h
     ·exact .inr ⟨p',d',h1,h2,by omega,by omega⟩
   ·exact .inl (zfO (hs c rfl) h46)
 ·exact .inl h
theorem zcW {rest:List UInt8} (hs:zdE rest):rest = [] ∨ (∃ l,zkt rest = some l/\∀ (k:Nat) (p d:List Int),pkF rest k p d = if k + 1 = 3 then none else pkF l (k + 1) p d) ∨ (rest ≠ []/\zkt rest = none/\∀ (k:Nat) (p d:List Int),pkF rest k p d = none):=by
 cases rest with
 | nil=>exact .inl rfl
 | cons c l =>
  by_cases h46:c.toNat = 46
  ·exact .inr (.inl ⟨l,by rw [Q3,if_pos h46],fun k p d=>zfN h46⟩)
  ·exact .inr (.inr ⟨by simp,by rw [Q3,if_neg h46],fun k p d=>zfO (hs c rfl) h46⟩)
theorem rk0 (l:List UInt8) (p:List Int):rkF 0 l p = (Yv 0 l p).bind fun z=>rkF 1 z.1 z.2:=by rw [rkF]
theorem rk1 (l:List UInt8) (p:List Int):rkF 1 l p = (zkt l).bind fun l1=>(Yv 1 l1 p).bind fun z=>rkF 2 z.1 z.2:=by rw [rkF]
theorem rk2 (l:List UInt8) (p:List Int):rkF 2 l p = (zkt l).bind fun l1=>Yv 2 l1 p:=by rw [rkF]
theorem zua (s:List UInt8):∃ r,zqe (pkF s 0 [0,0,0] [0,0,0]) = some r/\zku (rkF 0 s [0,0,0]) = some r:=by
 have bad:zsK (pkF s 0 [0,0,0] [0,0,0])->zku (rkF 0 s [0,0,0]) = some (⟨0,0,0⟩,3)->∃ r,zqe (pkF s 0 [0,0,0] [0,0,0]) = some r/\zku (rkF 0 s [0,0,0]) = some r:=fun h1 h2=>⟨_,zsL h1,h2⟩
 rcases zgI (k:=0) (by decide) s [0,0,0] [0,0,0] rfl rfl rfl rfl with ⟨a1,a2⟩ | ⟨v0,n0,r0,a1,a2,a3,a4,a5⟩
 ·exact bad (zgK (by decide) rfl rfl rfl a2) (by rw [rk0,a1]; rfl)
 have hP0:pkF s 0 [0,0,0] [0,0,0] = pkF r0 0 [v0,0,0] [(n0:Int),0,0]:=a5
 have hR0:rkF 0 s [0,0,0] = rkF 1 r0 [v0,0,0]:=by rw [rk0,a1]; rfl
 rcases zcW a4 with rfl | ⟨l1,b1,b2⟩ | ⟨b0,b1,b2⟩
 ·exact bad (.inr ⟨_,_,_,_,_,_,hP0,.inr (.inl rfl)⟩) (by rw [hR0,rk1]; rfl)
 rotate_left
 ·exact bad (.inl (hP0.trans (b2 _ _ _))) (by rw [hR0,rk1,b1]; rfl)
 have hP1:pkF s 0 [0,0,0] [0,0,0] = pkF l1 1 [v0,0,0] [(n0:Int),0,0]:=by rw [hP0,b2,if_neg (by decide)]
 have hR1:rkF 0 s [0,0,0] = (Yv 1 l1 [v0,0,0]).bind fun z=>rkF 2 z.1 z.2:=by rw [hR0,rk1,b1]; rfl
 rcases zgI (k:=1) (by decide) l1 [v0,0,0] [(n0:Int),0,0] rfl rfl rfl rfl with ⟨c1,c2⟩ | ⟨v1,n1,r1,c1,c2,c3,c4,c5⟩
 ·exact bad (by rw [hP1]; exact zgK (by decide) rfl rfl rfl c2) (by rw [hR1,c1]; rfl)
 have hP2:pkF s 0 [0,0,0] [0,0,0] = pkF r1 1 [v0,v1,0] [(n0:Int),(n1:Int),0]:=hP1.trans c5
 have hR2:rkF 0 s [0,0,0] = rkF 2 r1 [v0,v1,0]:=by rw [hR1,c1]; rfl
 rcases zcW c4 with rfl | ⟨l2,d1,d2⟩ | ⟨d0,d1,d2⟩
 ·exact bad (.inr ⟨_,_,_,_,_,_,hP2,.inr (.inr rfl)⟩) (by rw [hR2,rk2]; rfl)
 rotate_left
 ·exact bad (.inl (hP2.trans (d2 _ _ _))) (by rw [hR2,rk2,d1]; rfl)
 have hP3:pkF s 0 [0,0,0] [0,0,0] = pkF l2 2 [v0,v1,0] [(n0:Int),(n1:Int),0]:=by rw [hP2,d2,if_neg (by decide)]
 have hR3:rkF 0 s [0,0,0] = Yv 2 l2 [v0,v1,0]:=by rw [hR2,rk2,d1]; rfl
 rcases zgI (k:=2) (by decide) l2 [v0,v1,0] [(n0:Int),(n1:Int),0] rfl rfl rfl rfl with ⟨f1,f2⟩ | ⟨v2,n2,r2,f1,f2,f3,f4,f5⟩
 ·exact bad (by rw [hP3]; exact zgK (by decide) rfl rfl rfl f2) (by rw [hR3,f1]; rfl)
 have hP4:pkF s 0 [0,0,0] [0,0,0] = pkF r2 2 [v0,v1,v2] [(n0:Int),(n1:Int),(n2:Int)]:=hP3.trans f5
 have hR4:rkF 0 s [0,0,0] = some (r2,[v0,v1,v2]):=by rw [hR3,f1]; rfl
 have hne:r2 ≠ []->zku (rkF 0 s [0,0,0]) = some (⟨0,0,0⟩,3):=fun h=>by
  rw [hR4]
  show (if r2 ≠ [] then _ else _) = _
  rw [if_pos h]
 rcases zcW f4 with rfl | ⟨l3,g1,g2⟩ | ⟨g0,g1,g2⟩
 ·obtain ⟨e,h1,h2⟩:=zm2 ⟨wrap64 v0,v1,wrap64 v2⟩
  have hc:zX ([(n0:Int),(n1:Int),(n2:Int)],0) = some false:=by
   rw [ziv,decide_eq_false (by omega),decide_eq_false (by omega),decide_eq_false (by omega)]; rfl
  have k1:zqe (pkF s 0 [0,0,0] [0,0,0]) = if e ≠ 0 then some (⟨0,0,0⟩,e) else some (⟨wrap64 v0,v1,wrap64 v2⟩,0):=by
   rw [hP4]
   show (zX ([(n0:Int),(n1:Int),(n2:Int)],0)).bind _ = _
   rw [hc]
   show (zm ⟨wrap64 v0,v1,wrap64 v2⟩).bind _ = _
   rw [h1]; rfl
  have k2:zku (rkF 0 s [0,0,0]) = if e ≠ 0 then some (⟨0,0,0⟩,e) else some (⟨wrap64 v0,v1,wrap64 v2⟩,0):=by
   rw [hR4]
   show (zd ⟨wrap64 v0,v1,wrap64 v2⟩).bind _ = _
   rw [h2]; rfl
  rw [k1,k2]
  by_cases he:e ≠ 0
  ·rw [if_pos he]; exact ⟨_,rfl,rfl⟩
  ·rw [if_neg he]; exact ⟨_,rfl,rfl⟩
 ·exact bad (.inl (by rw [hP4,g2,if_pos rfl])) (hne (by rintro rfl; cases g1))
 ·exact bad (.inl (hP4.trans (g2 _ _ _))) (hne g0)
theorem zbT (s:List UInt8) (hs:s.length <= 1000000):∃ r,ym s = some r/\zy s = some r:=by
 unfold ym zy
 rw [if_pos hs,if_pos hs]
 exact zua s
end Go.Proofs.YtjcbpfhlgebgdaaGreatDoor
