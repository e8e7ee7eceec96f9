import Derived.Test.YtjcbpfhlgebgdaaDoorX3
set_option linter.unusedSimpArgs false
set_option linter.unusedVariables false
namespace Go.X
open Go.Eng
open Go.RowKit
variable {β:Type}
section
variable {P:Program} {code:TypeId→Option C} {ro:RO} {m:Mm} {r:β} {K:S→Option β} {Kp:V→Prop} {K2:S→Tk→Option β} {K2p:V→Tk→Prop}
theorem fieldX_sound {s:TypeId} {i:Nat} {x:S} (hK:∀ s,K s = some r→Kp (toV s)) (h:fieldX P s i x K = some r):fieldVC P s i (toV x) Kp:=by
 unfold fieldX at h
 unfold fieldVC
 split at h
 ·rename_i off t cs hf
  simp only [hf,toV]
  split at h
  ·rename_i n ha hs
   simp only [ha,hs]
   have:=hK _ h
   simpa only [toV,toVL_seg] using this
  ·rename_i ha
   simp only [ha]
   split at h
   ·rename_i c hc
    simp only [toVL_get,hc,Option.map_some]
    exact hK _ h
   ·cases h
  ·cases h
 ·cases h
theorem inB_spec {i:Int} {n:Nat} (h:inB i n = true):0 ≤ i∧i < (n:Int):=by
 simpa [inB] using h
theorem iaddrX_sound {t:TypeId} {x i:S} (hK:∀ s,K s = some r→Kp (toV s)) (h:iaddrX P code t x i K = some r):iaddrVC P t (toV x) (toV i) Kp:=by
 have hK':∀ s v,K s = some r→toV s = v→Kp v:=fun s v h e=>e ▸ hK s h
 unfold iaddrX at h
 split at h
 ·rename_i c l k i
  split at h
  ·rename_i en he
   obtain ⟨e,n⟩:=en
   obtain ⟨e1,e2,rfl⟩:=elemC_spec he
   obtain ⟨y,h1,h2⟩:=bind_some h
   obtain ⟨q1,q2,q3⟩:=idx_spec h1
   simp only [toV,iaddrVC,e1,e2]
   refine ⟨rowsOK_lst c l,⟨q1,by simpa using q2⟩,hK' _ _ h2 ?_⟩
   have hg:(l.map (enc c)).getD i.toNat .any = enc c y:=by simp [List.getD,q3]
   rw [hg]
   simp only [toV]
   rw [refl_cells]
  ·cases h
 ·split at h
  ·rename_i len e ha
   split at h
   ·rename_i n hs
    split at h
    ·have h0:=(condS h).1
     have h9:=(condS h).2
     clear h
     simp only [Bool.and_eq_true] at h0
     have hn:=Nat.eq_of_beq_eq_true h0.1
     subst hn
     rcases brS h9 with ⟨h1,h2⟩ | ⟨_,h2⟩
     ·simp only [toV,iaddrVC,ha,hs]
      exact ⟨inB_spec h1,hK' _ _ h2 (by simp [toV])⟩
     ·cases h2
    ·rcases brS h with ⟨h1,h2⟩ | ⟨_,h2⟩
     ·simp only [toV,iaddrVC,ha,hs]
      exact ⟨inB_spec h1,hK' _ _ h2 (by simp [toV])⟩
     ·cases h2
   ·cases h
  ·cases h
 ·split at h
  ·rename_i len e ha
   split at h
   ·rename_i n hs
    rcases brS h with ⟨h1,h2⟩ | ⟨_,h2⟩
    ·simp only [toV,iaddrVC,ha,hs]
     exact ⟨inB_spec h1,hK' _ _ h2 (by simp [toV])⟩
    ·cases h2
   ·cases h
  ·cases h
 ·split at h
  ·rename_i len e ha
   split at h
   ·rename_i n vs hs hv
    rcases brS h with ⟨h1,h2⟩ | ⟨_,h2⟩
    ·simp only [toV,hv,iaddrVC,ha,hs]
     exact ⟨inB_spec h1,hK' _ _ h2 (by simp [toV,hv])⟩
    ·cases h2
   ·cases h
  ·cases h
 ·cases h
theorem indexX_sound {t:TypeId} {x i:S} (hK:∀ s,K s = some r→Kp (toV s)) (h:indexX P code t x i K = some r):indexVC P t (toV x) (toV i) Kp:=by
 have hK':∀ s v,K s = some r→toV s = v→Kp v:=fun s v h e=>e ▸ hK s h
 unfold indexX at h
 split at h
 ·rename_i s k i
  split at h
  ·rename_i hb
   obtain ⟨y,h1,h2⟩:=bind_some h
   simp only [toV,indexVC,hb]
   unfold idxS at h1
   cases hx:idx s i with
   | none=>rw [hx] at h1; cases h1
   | some z =>
    rw [hx] at h1
    cases h1
    obtain ⟨q1,q2,q3⟩:=idx_spec hx
    refine ⟨⟨q1,q2⟩,hK' _ _ h2 ?_⟩
    simp [toV,List.getD,q3]
  ·cases h
 ·rename_i cs k i
  split at h
  ·rename_i len e ha
   split at h
   ·rename_i n hs1 hs2
    split at h
    ·rename_i c k' hac
     have h0:=(condS h).1
     have h9:=(condS h).2
     clear h
     have hn:=Nat.eq_of_beq_eq_true h0
     subst hn
     rcases brS h9 with ⟨h1,h2⟩ | ⟨_,h2⟩
     ·simp only [toV,indexVC,ha,hs1,hs2]
      refine ⟨inB_spec h1,?_⟩
      split at h2
      ·rename_i l hl
       obtain ⟨y,h3,h4⟩:=bind_some h2
       obtain ⟨q1,q2,q3⟩:=idx_spec h3
       have hget:(toVL cs)[i.toNat * 1]? = some (enc c y):=by rw [unreflL_V hl,List.getElem?_map,Nat.mul_one,q3]; rfl
       rw [hget]
       simp only
       rw [← refl_enc]
       exact hK _ h4
      ·cases h2
     ·cases h2
    ·rcases brS h with ⟨h1,h2⟩ | ⟨_,h2⟩
     ·simp only [toV,indexVC,ha,hs1,hs2]
      refine ⟨inB_spec h1,?_⟩
      split at h2
      ·rename_i c hc
       simp only [toVL_get,hc,Option.map_some]
       exact hK _ h2
      ·cases h2
     ·cases h2
   ·cases h
  ·cases h
 ·cases h
theorem fillX_V {place:Nat→Option (Nat × Nat)}:∀ {parts:List (Nat × S)} {cells out:List S},fillX place cells parts = some out→fillV place (toVL cells) (parts.map fun x=>(x.1,toV x.2)) = some (toVL out)
 | [],cells,out,h=>by simp only [fillX,Option.some.injEq] at h; subst h; rfl
 | (i,v) :: rest,cells,out,h=>by
  simp only [fillX] at h
  simp only [List.map_cons,fillV]
  split at h
  ·rename_i off size n hp hc
   obtain ⟨h1,h2⟩:=condS h
   simp only [Bool.and_eq_true] at h1
   have e1:=Nat.eq_of_beq_eq_true h1.1
   have e2:=Nat.le_of_ble_eq_true h1.2
   subst e1
   simp only [hp,cszS_V hc]
   rw [if_neg (by rw [toVL_length]; omega)]
   have:=fillX_V h2
   rw [toVL_append,toVL_append,toVL_take,toVL_drop,cellsS_V hc] at this
   exact this
  ·cases h
theorem zeroX_V {t:TypeId} {s:S} (h:zeroX P t = some s):zeroT P t = some (toV s):=by
 unfold zeroX at h
 unfold zeroT
 cases hz:(P.info? t).bind (·.zero) with
 | none=>rw [hz] at h; cases h
 | some z=>rw [hz] at h; cases h; simp [constXV_V]
theorem buildX_sound {t:TypeId} {parts:List (Nat × Operand)} (hK:∀ s,K s = some r→Kp (toV s)) (h:buildX P ro m t parts K = some r):buildVC P t (toSt ro m) parts Kp:=by
 unfold buildX at h
 unfold buildVC
 split at h
 ·rename_i zv place hz hp
  simp only [zeroX_V hz,hp]
  split at h
  ·rename_i n hc
   split at h
   ·rename_i out hf
    have:=fillX_V hf
    rw [cellsS_V hc] at this
    have e:(parts.map fun x=>(x.1,evalX ro m x.2)).map (fun x=>(x.1,toV x.2)) = parts.map fun x=>(x.1,(toSt ro m).eval x.2):=by
     rw [List.map_map]
     exact List.map_congr_left fun x _=>by simp [evalX_V]
    rw [e] at this
    refine ⟨by rw [cszS_V hc]; rfl,?_⟩
    rw [this]
    have:=hK _ h
    simpa only [toV] using this
   ·cases h
  ·cases h
 ·cases h
theorem rowsSz_V {n:Nat}:∀ {ss:List S},rowsSz n ss = true→rowsOK n (toVL ss)
 | [],_=>by intro v hv; simp [toVL] at hv
 | s :: ss,h=>by
  simp only [rowsSz,Bool.and_eq_true] at h
  intro v hv
  simp only [toVL,List.mem_cons] at hv
  rcases hv with rfl | hv
  ·have h1:=h.1
   split at h1
   ·rename_i k hk
    rw [cszS_V hk,Nat.eq_of_beq_eq_true h1]
   ·cases h1
  ·exact rowsSz_V h.2 v hv
theorem bsliceX_sound {t:TypeId} {len:Nat} {parts:List (Nat × Operand)} {dst:Option Nat} (hK:∀ s tk,K2 s tk = some r→K2p (toV s) tk) (h:bsliceX P code ro m t len parts dst K2 = some r) :
  bsliceVC P t (toSt ro m) len parts dst K2p:=by
 have hK':∀ s tk v,K2 s tk = some r→toV s = v→K2p v tk:=fun s tk v h e=>e ▸ hK s tk h
 have e:toVL (parts.map fun x=>evalX ro m x.2) = parts.map fun x=>(toSt ro m).eval x.2:=by
  rw [toVL_map,List.map_map]
  exact List.map_congr_left fun x _=>evalX_V ro m x.2
 unfold bsliceX at h
 unfold bsliceVC
 split at h
 ·rename_i e' he
  simp only [he]
  split at h
  ·rename_i sz zv hs hz
   simp only [hs,zeroX_V hz]
   split at h
   ·rename_i zn hzn
    obtain ⟨h1,h2⟩:=condS h
    simp only [Bool.and_eq_true,Bool.not_eq_true'] at h1
    obtain ⟨⟨⟨⟨a1,a2⟩,a3⟩,a4⟩,a5⟩:=h1
    have a1':sz ≠ 0:=fun e=>by subst e; cases a1
    have a2':=Nat.eq_of_beq_eq_true a2
    subst a2'
    refine ⟨⟨a1',cszS_V hzn,Nat.eq_of_beq_eq_true a3,Nat.le_of_ble_eq_true a4,a5⟩,?_⟩
    split at h2
    ·rename_i c hc
     split at h2
     ·rename_i l hl
      obtain ⟨h3,h4⟩:=condS h2
      have h3':=Nat.eq_of_beq_eq_true h3
      have hq:=unreflL_V hl
      rw [e] at hq
      rw [hq]
      refine ⟨by rw [← h3']; exact rowsOK_lst c l,hK' _ _ _ h4 (by simp [toV])⟩
     ·cases h2
    ·obtain ⟨h3,h4⟩:=condS h2
     rw [← e]
     exact ⟨rowsSz_V h3,hK' _ _ _ h4 (by simp [toV])⟩
   ·cases h
  ·cases h
 ·cases h
theorem nilX_sound {x:S} (hK:∀ s,K s = some r→Kp (toV s)) (h:nilX x K = some r):nilVC (toV x) Kp:=by
 have hK':∀ s v,K s = some r→toV s = v→Kp v:=fun s v h e=>e ▸ hK s h
 unfold nilX at h
 split at h
 ·simp only [toV,nilVC]; exact hK' _ _ h (by simp [toV])
 ·simp only [toV,nilVC]; exact hK' _ _ h (by simp [toV])
 ·split at h
  ·rename_i vs hv
   simp only [toV,hv,nilVC]; exact hK' _ _ h (by simp [toV,hv])
  ·cases h
 ·cases h
theorem lenX_sound {t:TypeId} {x:S} (hK:∀ s,K s = some r→Kp (toV s)) (h:lenX P t x K = some r):lenVC P t (toV x) Kp:=by
 have hK':∀ s v,K s = some r→toV s = v→Kp v:=fun s v h e=>e ▸ hK s h
 unfold lenX at h
 split at h
 ·split at h
  ·rename_i e he
   simp only [toV,lenVC,he]; exact hK' _ _ h (by simp [toV])
  ·cases h
 ·split at h
  ·rename_i e he
   simp only [toV,lenVC,he]; exact hK' _ _ h (by simp [toV,toVL_length])
  ·cases h
 ·split at h
  ·rename_i he
   simp only [toV,lenVC,he]; exact hK' _ _ h (by simp [toV])
  ·cases h
 ·cases h
theorem builtinX_sound {b:Builtin} {args:List S} {tys:List TypeId} (hK:∀ s,K s = some r→Kp (toV s)) (h:builtinX P b args tys K = some r):builtinVC P b (toVL args) tys Kp:=by
 have hK':∀ s v,K s = some r→toV s = v→Kp v:=fun s v h e=>e ▸ hK s h
 unfold builtinX at h
 split at h
 ·simp only [toVL,builtinVC]; exact lenX_sound hK h
 ·obtain ⟨h1,h2⟩:=iteS h
  simp only [toVL,toV,builtinVC]; exact ⟨h1,hK' _ _ h2 (by simp [toV])⟩
 ·obtain ⟨h1,h2⟩:=iteS h
  simp only [toVL,toV,builtinVC]; exact ⟨h1,hK' _ _ h2 (by simp [toV])⟩
 ·cases h
theorem assignX_sound {o:Oper} {x:Operand} (hK:∀ s tk,K2 s tk = some r→K2p (toV s) tk) (h:assignX P code ro m o x K2 = some r):assignVC P o (toSt ro m) x K2p:=by
 have hK':∀ s tk v,K2 s tk = some r→toV s = v→K2p v tk:=fun s tk v h e=>e ▸ hK s tk h
 unfold assignX at h
 unfold assignVC
 split at h
 ·split at h
  ·rename_i e he
   simp only [he]
   split at h
   ·exact hK' _ _ _ h (by simp [toV])
   ·exact hK' _ _ _ h (by simp [toV,toVL])
  ·rename_i he
   simp only [he]
   exact hK' _ _ _ h (by simp [toV,toVL])
 ·rename_i hne
  split
  ·exact absurd rfl hne
  ·have:=hK _ _ h
   rwa [evalX_V,tokX_V] at this
theorem pickX_sound {c a b:S} (hK:∀ s,K s = some r→Kp (toV s)) (h:pickX c a b K = some r):∃ t,toV c = .bool t∧Kp (pickV t (toV a) (toV b)):=by
 have hK':∀ s v,K s = some r→toV s = v→Kp v:=fun s v h e=>e ▸ hK s h
 unfold pickX at h
 split at h
 ·rename_i t
  refine ⟨t,by simp [toV],?_⟩
  rw [pickV_eq]
  split at h
  ·exact hK' _ _ h (by cases t <;> simp [toV])
  ·obtain ⟨h1,h2⟩:=iteS h
   subst h1
   exact hK' _ _ h2 (by cases t <;> simp [toV])
  ·exact hK' _ _ h (by cases t <;> simp [toV])
  ·rcases brS h with ⟨h1,h2⟩ | ⟨h1,h2⟩
   ·subst h1; exact hK _ h2
   ·subst h1; exact hK _ h2
 ·cases h
theorem valX_sound {o:Oper} (hK:∀ s tk,K2 s tk = some r→K2p (toV s) tk) (h:valX P code ro m o K2 = some r):valVC P o (toSt ro m) K2p:=by
 have hK1:∀ s,K2 s none = some r→K2p (toV s) none:=fun s=>hK s none
 unfold valX at h
 split at h
 ·rename_i x ho
  have:=hK _ _ h
  rw [evalX_V,tokX_V] at this
  simp only [valVC,ho]; exact this
 ·rename_i ho; simp only [valVC,ho]; exact assignX_sound hK h
 ·rename_i c x y ho
  obtain ⟨t,h1,h2⟩:=pickX_sound (Kp:=(K2p · none)) hK1 h
  simp only [valVC,ho]
  rw [← evalX_V,← evalX_V,← evalX_V,h1]
  exact h2
 ·rename_i ho; simp only [valVC,ho]; rw [← evalX_V]; exact loadX_sound (Kp:=(K2p · none)) hK1 h
 ·rename_i ho; simp only [valVC,ho]; rw [← evalX_V,← evalX_V]; exact binX_sound (Kp:=(K2p · none)) hK1 h
 ·rename_i ho; simp only [valVC,ho]; rw [← evalX_V]; exact unX_sound (Kp:=(K2p · none)) hK1 h
 ·rename_i ho; simp only [valVC,ho]; rw [← evalX_V]; exact convX_sound (Kp:=(K2p · none)) hK1 h
 ·rename_i t x ho
  obtain ⟨h1,h2⟩:=condS h
  have:=hK1 _ h2
  simp only [toV] at this
  simp only [valVC,ho]; rw [← evalX_V]; exact ⟨h1,this⟩
 ·rename_i f first cap ho
  have:=hK1 _ h
  simp only [toV,evalX_VL] at this
  simp only [valVC,ho]; exact this
 ·rename_i ho; simp only [valVC,ho]; rw [← evalX_V]; exact gsliceX_sound hK h
 ·rename_i ho; simp only [valVC,ho]; rw [← evalX_V]; exact faddrX_sound (Kp:=(K2p · none)) hK1 h
 ·rename_i ho; simp only [valVC,ho]; rw [← evalX_V]; exact fieldX_sound (Kp:=(K2p · none)) hK1 h
 ·rename_i ho; simp only [valVC,ho]; rw [← evalX_V,← evalX_V]; exact iaddrX_sound (Kp:=(K2p · none)) hK1 h
 ·rename_i ho; simp only [valVC,ho]; rw [← evalX_V,← evalX_V]; exact indexX_sound (Kp:=(K2p · none)) hK1 h
 ·rename_i x i ho
  simp only [valVC,ho]; rw [← evalX_V]
  split at h
  ·rename_i vs hx
   rw [hx]
   split at h
   ·rename_i v hv
    simp only [toV,toVL_get,hv,Option.map_some]
    exact hK1 _ h
   ·cases h
  ·cases h
 ·rename_i ho; simp only [valVC,ho]; exact buildX_sound (Kp:=(K2p · none)) hK1 h
 ·rename_i ho; simp only [valVC,ho]; exact bsliceX_sound hK h
 ·rename_i ho; simp only [valVC,ho]; rw [← evalX_V]; exact nilX_sound (Kp:=(K2p · none)) hK1 h
 ·rename_i b args tys ho
  simp only [valVC,ho]; rw [← evalX_VL]; exact builtinX_sound (Kp:=(K2p · none)) hK1 h
 ·cases h
end
end Go.X
namespace Go.X
open Go.Eng
open Go.RowKit
def pv (x:S × Tk):V × Tk:=(toV x.1,x.2)
mutual
def ltV (n:Nat):V→Bool
 | .loc i _=>decide (i < n)
 | .mref i=>decide (i < n)
 | .agg cs=>ltVL n cs
 | .tup cs=>ltVL n cs
 | .elt cs _=>ltVL n cs
 | .list rows=>ltVL n rows
 | .fn _ a b=>ltVL n a && ltVL n b
 | .iface _ v=>ltV n v
 | _=>true
def ltVL (n:Nat):List V→Bool
 | []=>true
 | c :: cs=>ltV n c && ltVL n cs
end
mutual
theorem noLoc_lt (n:Nat):∀ v:V,v.noLoc = true→ltV n v = true
 | .loc _ _,h=>by simp [V.noLoc] at h
 | .mref _,h=>by simp [V.noLoc] at h
 | .agg cs,h=>by simp only [V.noLoc] at h; simp only [ltV]; exact noLocL_lt n cs h
 | .tup cs,h=>by simp only [V.noLoc] at h; simp only [ltV]; exact noLocL_lt n cs h
 | .elt cs _,h=>by simp only [V.noLoc] at h; simp only [ltV]; exact noLocL_lt n cs h
 | .list cs,h=>by simp only [V.noLoc] at h; simp only [ltV]; exact noLocL_lt n cs h
 | .fn _ a b,h=>by
  simp only [V.noLoc,Bool.and_eq_true] at h
  simp only [ltV,Bool.and_eq_true]; exact ⟨noLocL_lt n a h.1,noLocL_lt n b h.2⟩
 | .iface _ v,h=>by simp only [V.noLoc] at h; simp only [ltV]; exact noLoc_lt n v h
 | .any,_=>rfl
 | .un,_=>rfl
 | .int _ _,_=>rfl
 | .bool _,_=>rfl
 | .str _,_=>rfl
 | .nilp,_=>rfl
 | .nilfn,_=>rfl
 | .nilif,_=>rfl
 | .nilm,_=>rfl
 | .ptr _,_=>rfl
theorem noLocL_lt (n:Nat):∀ cs:List V,V.noLocL cs = true→ltVL n cs = true
 | [],_=>rfl
 | c :: cs,h=>by
  simp only [V.noLocL,Bool.and_eq_true] at h
  simp only [ltVL,Bool.and_eq_true]; exact ⟨noLoc_lt n c h.1,noLocL_lt n cs h.2⟩
end
section
variable {w:World} {pr:Nat→Nat→Prop} {lam lam':Nat→Option Nat} {n:Nat}
mutual
theorem R_lt (hl:∀ i,n ≤ i→lam i = none):∀ (v:V) (x:Value),R ⟨w,pr,lam⟩ v x→ltV n v = true
 | .loc i _,_,q=>by
  simp only [R] at q
  obtain ⟨b,e,_⟩:=q
  simp only [ltV,decide_eq_true_eq]
  rcases Nat.lt_or_ge i n with h | h
  ·exact h
  ·exact absurd (hl i h) (by rw [show lam i = some b from e]; simp)
 | .mref i,_,q=>by
  simp only [R] at q
  obtain ⟨b,e,_⟩:=q
  simp only [ltV,decide_eq_true_eq]
  rcases Nat.lt_or_ge i n with h | h
  ·exact h
  ·exact absurd (hl i h) (by rw [show lam i = some b from e]; simp)
 | .agg cs,_,q=>by
  simp only [R] at q; obtain ⟨xs,_,q,_⟩:=q
  simp only [ltV]; exact RL_lt hl cs xs q
 | .tup cs,_,q=>by
  simp only [R] at q; obtain ⟨xs,_,q⟩:=q
  simp only [ltV]; exact RL_lt hl cs xs q
 | .elt cs _,_,q=>by
  simp only [R] at q; obtain ⟨b,o,_,q⟩:=q
  simp only [ltV]; exact RC_lt hl b o cs q
 | .list rows,_,q=>by
  simp only [R] at q; obtain ⟨base,cap,_,_,_,q⟩:=q
  simp only [ltV]
  rcases q with ⟨q,_⟩ | ⟨b,o,k,_,q⟩
  ·subst q; rfl
  ·exact RR_lt hl b k o rows q
 | .fn _ a c,_,q=>by
  simp only [R] at q; obtain ⟨xs,ys,_,q1,q2⟩:=q
  simp only [ltV,Bool.and_eq_true]; exact ⟨RL_lt hl a xs q1,RL_lt hl c ys q2⟩
 | .iface _ v,_,q=>by
  simp only [R] at q; obtain ⟨y,_,q⟩:=q
  simp only [ltV]; exact R_lt hl v y q
 | .any,_,_=>rfl
 | .un,_,_=>rfl
 | .int _ _,_,_=>rfl
 | .bool _,_,_=>rfl
 | .str _,_,_=>rfl
 | .nilp,_,_=>rfl
 | .nilfn,_,_=>rfl
 | .nilif,_,_=>rfl
 | .nilm,_,_=>rfl
 | .ptr _,_,_=>rfl
theorem RL_lt (hl:∀ i,n ≤ i→lam i = none):∀ (cs:List V) (xs:List Value),RL ⟨w,pr,lam⟩ cs xs→ltVL n cs = true
 | [],_,_=>rfl
 | c :: cs,_,q=>by
  simp only [RL] at q; obtain ⟨y,ys,_,q1,q2⟩:=q
  simp only [ltVL,Bool.and_eq_true]; exact ⟨R_lt hl c y q1,RL_lt hl cs ys q2⟩
theorem RC_lt (hl:∀ i,n ≤ i→lam i = none) (b:Nat):∀ (o:Nat) (cs:List V),RC ⟨w,pr,lam⟩ b o cs→ltVL n cs = true
 | _,[],_=>rfl
 | o,c :: cs,q=>by
  simp only [RC] at q; obtain ⟨⟨y,_,_,q1⟩,q2⟩:=q
  simp only [ltVL,Bool.and_eq_true]; exact ⟨R_lt hl c y q1,RC_lt hl b (o + 1) cs q2⟩
theorem RR_lt (hl:∀ i,n ≤ i→lam i = none) (b k:Nat):∀ (o:Nat) (cs:List V),RR ⟨w,pr,lam⟩ b k o cs→ltVL n cs = true
 | _,[],_=>rfl
 | o,c :: cs,q=>by
  simp only [RR] at q; obtain ⟨⟨y,q1,_⟩,q2⟩:=q
  simp only [ltVL,Bool.and_eq_true]; exact ⟨R_lt hl c y q1,RR_lt hl b k (o + k) cs q2⟩
end
mutual
theorem R_lam (hl:∀ i,i < n→lam' i = lam i):∀ (v:V) (x:Value),ltV n v = true→R ⟨w,pr,lam⟩ v x→R ⟨w,pr,lam'⟩ v x
 | .loc i _,_,h,q=>by
  simp only [ltV,decide_eq_true_eq] at h
  simp only [R] at q ⊢
  obtain ⟨b,e,q⟩:=q
  exact ⟨b,(hl i h).trans e,q⟩
 | .mref i,_,h,q=>by
  simp only [ltV,decide_eq_true_eq] at h
  simp only [R] at q ⊢
  obtain ⟨b,e,q⟩:=q
  exact ⟨b,(hl i h).trans e,q⟩
 | .agg cs,_,h,q=>by
  simp only [ltV] at h; simp only [R] at q ⊢
  obtain ⟨xs,e,q,q1⟩:=q
  exact ⟨xs,e,RL_lam hl cs xs h q,q1⟩
 | .tup cs,_,h,q=>by
  simp only [ltV] at h; simp only [R] at q ⊢
  obtain ⟨xs,e,q⟩:=q
  exact ⟨xs,e,RL_lam hl cs xs h q⟩
 | .elt cs _,_,h,q=>by
  simp only [ltV] at h; simp only [R] at q ⊢
  obtain ⟨b,o,e,q⟩:=q
  exact ⟨b,o,e,RC_lam hl b o cs h q⟩
 | .list rows,_,h,q=>by
  simp only [ltV] at h; simp only [R] at q ⊢
  obtain ⟨base,cap,e1,e2,e3,q⟩:=q
  refine ⟨base,cap,e1,e2,e3,?_⟩
  rcases q with q | ⟨b,o,k,e4,q⟩
  ·exact .inl q
  ·exact .inr ⟨b,o,k,e4,RR_lam hl b k o rows h q⟩
 | .fn _ a c,_,h,q=>by
  simp only [ltV,Bool.and_eq_true] at h; simp only [R] at q ⊢
  obtain ⟨xs,ys,e,q1,q2⟩:=q
  exact ⟨xs,ys,e,RL_lam hl a xs h.1 q1,RL_lam hl c ys h.2 q2⟩
 | .iface _ v,_,h,q=>by
  simp only [ltV] at h; simp only [R] at q ⊢
  obtain ⟨y,e,q⟩:=q
  exact ⟨y,e,R_lam hl v y h q⟩
 | .any,_,_,_=>by simp [R]
 | .un,_,_,q=>by simpa [R] using q
 | .int _ _,_,_,q=>by simpa [R] using q
 | .bool _,_,_,q=>by simpa [R] using q
 | .str _,_,_,q=>by simpa [R] using q
 | .nilp,_,_,q=>by simpa [R] using q
 | .nilfn,_,_,q=>by simpa [R] using q
 | .nilif,_,_,q=>by simpa [R] using q
 | .nilm,_,_,q=>by simpa [R] using q
 | .ptr _,_,_,q=>by simpa [R] using q
theorem RL_lam (hl:∀ i,i < n→lam' i = lam i):∀ (cs:List V) (xs:List Value),ltVL n cs = true→RL ⟨w,pr,lam⟩ cs xs→RL ⟨w,pr,lam'⟩ cs xs
 | [],_,_,q=>by simpa [RL] using q
 | c :: cs,_,h,q=>by
  simp only [ltVL,Bool.and_eq_true] at h; simp only [RL] at q ⊢
  obtain ⟨y,ys,e,q1,q2⟩:=q
  exact ⟨y,ys,e,R_lam hl c y h.1 q1,RL_lam hl cs ys h.2 q2⟩
theorem RC_lam (hl:∀ i,i < n→lam' i = lam i) (b:Nat):∀ (o:Nat) (cs:List V),ltVL n cs = true→RC ⟨w,pr,lam⟩ b o cs→RC ⟨w,pr,lam'⟩ b o cs
 | _,[],_,_=>by simp [RC]
 | o,c :: cs,h,q=>by
  simp only [ltVL,Bool.and_eq_true] at h; simp only [RC] at q ⊢
  obtain ⟨⟨y,e1,e2,q1⟩,q2⟩:=q
  exact ⟨⟨y,e1,e2,R_lam hl c y h.1 q1⟩,RC_lam hl b (o + 1) cs h.2 q2⟩
theorem RR_lam (hl:∀ i,i < n→lam' i = lam i) (b k:Nat):∀ (o:Nat) (cs:List V),ltVL n cs = true→RR ⟨w,pr,lam⟩ b k o cs→RR ⟨w,pr,lam'⟩ b k o cs
 | _,[],_,_=>by simp [RR]
 | o,c :: cs,h,q=>by
  simp only [ltVL,Bool.and_eq_true] at h; simp only [RR] at q ⊢
  obtain ⟨⟨y,q1,e⟩,q2⟩:=q
  exact ⟨⟨y,R_lam hl c y h.1 q1,e⟩,RR_lam hl b k (o + k) cs h.2 q2⟩
end
theorem RM_lt (hl:∀ i,n ≤ i→lam i = none):∀ (cs:List V) (es:List MapEntry),RM ⟨w,pr,lam⟩ cs es→ltVL n cs = true
 | [],_,_=>rfl
 | c :: cs,_,q=>by
  simp only [RM] at q
  obtain ⟨k,v,e,es',rfl,_,h3,h4,h5⟩:=q
  simp only [ltVL,ltV,Bool.and_eq_true,Bool.and_true]
  exact ⟨⟨R_lt hl _ _ h3,R_lt hl _ _ h4⟩,RM_lt hl cs es' h5⟩
theorem RM_lam (hl:∀ i,i < n→lam' i = lam i):∀ (cs:List V) (es:List MapEntry),ltVL n cs = true→RM ⟨w,pr,lam⟩ cs es→RM ⟨w,pr,lam'⟩ cs es
 | [],_,_,q=>by simpa [RM] using q
 | c :: cs,_,h,q=>by
  simp only [RM] at q ⊢
  obtain ⟨k,v,e,es',rfl,h2,h3,h4,h5⟩:=q
  simp only [ltVL,ltV,Bool.and_eq_true,Bool.and_true] at h
  exact ⟨k,v,e,es',rfl,h2,R_lam hl _ _ h.1.1 h3,R_lam hl _ _ h.1.2 h4,RM_lam hl cs es' h.2 h5⟩
theorem boxAt_lt {b:Nat} {B:Box} (hl:∀ i,n ≤ i→lam i = none) (h:BoxAt ⟨w,pr,lam⟩ b B):ltVL n B.cells = true:=by
 rcases Nat.lt_or_ge B.ty mapTy with q | q
 ·obtain ⟨cur,_,h2,_⟩:=h.cells q
  exact RL_lt hl _ _ h2
 ·obtain ⟨es,clock,_,h2,_⟩:=h.map q
  exact RM_lt hl _ _ h2
theorem boxAt_lam {b:Nat} {B:Box} (hl:∀ i,i < n→lam' i = lam i) (hn:ltVL n B.cells = true) (h:BoxAt ⟨w,pr,lam⟩ b B):BoxAt ⟨w,pr,lam'⟩ b B:=by
 refine ⟨fun ht=>?_,fun ht=>?_⟩
 ·obtain ⟨cur,h1,h2,h3⟩:=h.cells ht
  exact ⟨cur,h1,RL_lam hl _ _ hn h2,h3⟩
 ·obtain ⟨es,clock,h1,h2,h3⟩:=h.map ht
  exact ⟨es,clock,h1,RM_lam hl _ _ hn h2,h3⟩
end
def Wk (x' x:V × Tk):Prop:=x' = x ∨ x' = (x.1,none) ∨ x' = (.any,none)
theorem SRel.weak {P:Program} {F:Fr} {st:St} {a:Act} {w:World} {pr:Nat→Nat→Prop} {lam:Nat→Option Nat} (h:SRel P F st a w pr lam) {nb':Nat} {sl':Nat→V × Tk} (hw:∀ s,Wk (sl' s) (st.sl s)) :
  SRel P F ⟨nb',sl',st.box⟩ a w pr lam:=by
 have ht:∀ s t e,(sl' s).2 = some (t,e)→st.tok s = some (t,e):=by
  intro s t e hs
  rcases hw s with q | q | q <;> rw [q] at hs
  ·exact hs
  ·cases hs
  ·cases hs
 refine ⟨h.size,h.defers,fun s=>?_,fun s t e hs=>h.own s t e (ht s t e hs),fun s s' t t' e e' g hs hs'=>h.coh s s' t t' e e' g (ht _ _ _ hs) (ht _ _ _ hs'),h.box,h.inj,fun i B b s t e hB hl hs=>h.apart i B b s t e hB hl (ht _ _ _ hs),h.nolam,h.prlt,h.keep,h.prsub,h.prnew,h.lamsub,
  fun s s' t e e' hs hs'=>h.coh2 s s' t e e' (ht _ _ _ hs) (ht _ _ _ hs'),fun s t e hs hc=>?_,fun s s' t e e' b o g hs hs'=>h.ptr s s' t e e' b o g (ht _ _ _ hs) (ht _ _ _ hs')⟩
 rotate_right
 ·have ho:=h.old s t e (ht _ _ _ hs) hc
  show R _ (sl' s).1 _
  change (sl' s).2 = some (t,e) at hs
  rcases hw s with q | q | q
  ·rw [q]; exact ho
  ·rw [q] at hs; cases hs
  ·rw [q] at hs; cases hs
 show R _ (sl' s).1 _
 rcases hw s with q | q | q <;> rw [q]
 ·exact h.env s
 ·exact h.env s
 ·simp [R]
theorem SRel.drop {P:Program} {F:Fr} {st:St} {a:Act} {w:World} {pr:Nat→Nat→Prop} {lam:Nat→Option Nat} (h:SRel P F st a w pr lam) {n nb':Nat} (h1:∀ s,ltV n (st.sl s).1 = true)
  (h2:∀ i B,i < n→st.box i = some B→ltVL n B.cells = true) (h3:∀ i b,F.lam0 i = some b→i < n) :
  SRel P F ⟨nb',st.sl,fun i=>if i < n then st.box i else none⟩ a w pr (fun i=>if i < n then lam i else none):=by
 have hl:∀ i,i < n→(fun i=>if i < n then lam i else none) i = lam i:=fun i hi=>if_pos hi
 have hbx:∀ i B,(if i < n then st.box i else none) = some B→i < n∧st.box i = some B:=by
  intro i B hB
  split at hB
  ·exact ⟨‹_›,hB⟩
  ·cases hB
 have hlx:∀ i b,(if i < n then lam i else none) = some b→lam i = some b:=by
  intro i b hB
  split at hB
  ·exact hB
  ·cases hB
 refine ⟨h.size,h.defers,fun s=>R_lam hl _ _ (h1 s) (h.env s),h.own,h.coh,fun i B hB=>?_,fun i j B B' b hB hB' q q'=>?_,fun i B b s t e hB q hs=>?_,fun i hi=>?_,h.prlt,h.keep,h.prsub,h.prnew,fun i b hi=>?_,h.coh2,fun s t e hs hc=>R_lam hl _ _ (h1 s) (h.old s t e hs hc),h.ptr⟩
 ·obtain ⟨q1,q2⟩:=hbx i B hB
  obtain ⟨b,r1,r2,r3,r4⟩:=h.box i B q2
  exact ⟨b,by rw [← r1]; exact if_pos q1,boxAt_lam hl (h2 i B q1 q2) r2,r3,r4⟩
 ·exact h.inj i j B B' b (hbx i B hB).2 (hbx j B' hB').2 (hlx _ _ q) (hlx _ _ q')
 ·exact h.apart i B b s t e (hbx i B hB).2 (hlx _ _ q) hs
 ·show (if i < n then lam i else none) = none
  by_cases q:i < n
  ·rw [if_pos q]
   have hi':(if i < n then st.box i else none) = none:=hi
   rw [if_pos q] at hi'
   exact h.nolam i hi'
  ·rw [if_neg q]
 ·show (if i < n then lam i else none) = some b
  rw [if_pos (h3 i b hi)]
  exact h.lamsub i b hi
end Go.X
namespace Go.X
open Go.Eng
open Go.RowKit
theorem keepS_Wk {tk:Nat} {rows':List V} {x:V × Option (Nat × TypeId)} (h:∀ e,x.2 ≠ some (tk,e)):Wk (keepS tk rows' x) x:=by
 rcases keepS_cases tk rows' x with ⟨e,q,_⟩ | q | ⟨q,_⟩
 ·exact absurd q (h e)
 ·exact .inr (.inr q)
 ·exact .inl q
open Classical in
theorem SRel.bear {P:Program} {F:Fr} {st:St} {a:Act} {w:World} {pr:Nat→Nat→Prop} {lam:Nat→Option Nat} (h:SRel P F st a w pr lam) {ss tk:Nat} {e:TypeId} {rows:List V} (hs:st.env ss = .list rows) (ht:st.tok ss = some (tk,e)) (hcl:tcl tk = 0) :
  SRel P F ⟨st.nb,fun s=>if ∃ e',(st.sl s).2 = some (tk,e') then (.list rows,(st.sl s).2) else st.sl s,st.box⟩ a w pr lam:=by
 have htok:∀ s,(⟨st.nb,fun s=>if ∃ e',(st.sl s).2 = some (tk,e') then (.list rows,(st.sl s).2) else st.sl s,st.box⟩:St).tok s = st.tok s:=by
  intro s
  show (if _ then _ else _:V × Option (Nat × TypeId)).2 = (st.sl s).2
  split <;> rfl
 refine ⟨h.size,h.defers,fun s=>?_,fun s t e hq=>h.own s t e (htok s ▸ hq),fun s s' t t' e e' g h1 h2=>h.coh s s' t t' e e' g (htok s ▸ h1) (htok s' ▸ h2),h.box,h.inj,fun i B b s t e hB hl hq=>h.apart i B b s t e hB hl (htok s ▸ hq),h.nolam,h.prlt,h.keep,h.prsub,h.prnew,h.lamsub,
  fun s s' t e e' h1 h2=>h.coh2 s s' t e e' (htok s ▸ h1) (htok s' ▸ h2),fun s t e' hq h2=>?_,fun s s' t e e' b o g h1 h2=>h.ptr s s' t e e' b o g (htok s ▸ h1) (htok s' ▸ h2)⟩
 ·show R _ (if _ then _ else _:V × Option (Nat × TypeId)).1 _
  split
  ·rename_i hex
   obtain ⟨e',hq⟩:=hex
   have hv:=h.coh2 s ss tk e' e hq ht hcl
   have:=h.env ss
   rw [hs,← hv] at this
   exact this
  ·exact h.env s
 ·show R _ (if _ then _ else _:V × Option (Nat × TypeId)).1 _
  rw [htok s] at hq
  rw [if_neg]
  ·exact h.old s t e' hq h2
  ·rintro ⟨e'',hq'⟩
   have hq2:(st.sl s).2 = some (t,e'):=hq
   rw [hq2] at hq'
   cases hq'
   omega
open Classical in
theorem sorted_nil {st:St} {tk:Nat} (s:Nat):Wk ((st.changed tk []).sl s) ((⟨st.nb,fun s=>if ∃ e',(st.sl s).2 = some (tk,e') then (.list [],(st.sl s).2) else st.sl s,st.box⟩:St).sl s):=by
 show Wk (keepS tk [] (st.sl s)) (if _ then _ else _)
 split
 ·rename_i hex
  obtain ⟨e',hq⟩:=hex
  refine .inl ?_
  unfold keepS
  rw [hq]
  simp
 ·rename_i hex
  exact keepS_Wk fun e' hq=>hex ⟨e',hq⟩
theorem run_equalIn_sn {P:Program} (w:World) (d:Nat) (t e:TypeId) (a:Option Addr) (l c:Nat) (h:P.underlying t = some (.slice e)):(Op.equalIn (d + 1) t (.slice a l c) (.slice none 0 0)).run P w = .ok a.isNone w:=by
 cases a <;> simp [Op.equalIn,run_underlying h]
theorem run_equal_sn {P:Program} (w:World) (t e:TypeId) (a:Option Addr) (l c:Nat) (h:P.underlying t = some (.slice e)):(Op.equal t (.slice a l c) (.slice none 0 0)).run P w = .ok a.isNone w:=run_equalIn_sn w 9999 t e a l c h
theorem opok_eqnil {P:Program} {n':Nat} {o:Oper} {st:St} {K:St→Prop} {op:BinOp} {t u e:TypeId} {x:Operand} {rows:List V} {w:Bool} (ho:o.op = .binOp op t x (.const (.slice none 0 0)) u) (hop:(op = .eql∧w = false) ∨ (op = .neq∧w = true)) (hT:P.underlying t = some (.slice e))
  (hx:st.eval x = .list rows) (hd:∀ d,o.dst = some d→d < n') (hk:∀ b:Bool,(rows ≠ []→b = w)→K (st.put o.dst (.bool b) none)):OpOK P n' o st K:=by
 intro F a w0 pr lam hF h next Q hn
 subst hF
 have h1:=h.eval x
 rw [hx] at h1
 simp only [R] at h1
 obtain ⟨base,cap,e1,_,_,hb⟩:=h1
 have key:∃ b:Bool,(rows ≠ []→b = w)∧(execOp a.eval o).run P w0 = .ok (.value (.bool b)) w0:=by
  have hbase:rows ≠ []→base.isNone = false:=by
   intro hr
   rcases hb with ⟨h1,_⟩ | ⟨b,o',k,rfl,_⟩
   ·exact absurd h1 hr
   ·rfl
  rcases hop with ⟨rfl,rfl⟩ | ⟨rfl,rfl⟩
  ·refine ⟨base.isNone,hbase,?_⟩
   have he:=run_equal_sn w0 t e base rows.length cap hT
   have e2:a.eval (.const (.slice none 0 0)) = .slice none 0 0:=rfl
   simp [execOp,ho,e1,e2,eqGuard,binOp,he]
  ·refine ⟨!base.isNone,fun hr=>by rw [hbase hr]; rfl,?_⟩
   have he:=run_equal_sn w0 t e base rows.length cap hT
   have e2:a.eval (.const (.slice none 0 0)) = .slice none 0 0:=rfl
   simp [execOp,ho,e1,e2,eqGuard,binOp,he]
 obtain ⟨b,h2,hr⟩:=key
 unfold Oper.wp
 rw [hr,Oper.upon_value]
 exact hn _ _ w0 pr lam (hk b h2) (h.put hd (by simp [R]) trivial)
theorem opok_sort {P:Program} {n':Nat} {o:Oper} {st:St} {K:St→Prop} {α:Type} {enc:α→V} {sz:Nat} {srt:List α→List α} {d:List α} {f:FuncId} {g:Option FuncId} {ss tk:Nat} {e:TypeId} {c:Operand} {ys:List Operand} {args:Array Operand} {tys:Array TypeId}
  (ho:o.op = .call { callee:=.value c,args:=args,argTypes:=tys }) (ha:args = (Operand.tmp ss :: ys).toArray) (hc:st.eval c = .fn (.func f) [] []) (hy:match g with | none=>ys = [] | some g=>∃ y,ys = [y]∧st.eval y = .fn (.func g) [] []) (hgo:isGo P f = true)
  (hss:st.env ss = .list (d.map enc)) (htk:st.tok ss = some (tk,e)) (hcl:tcl tk = 0) (hsz:sizeT P e = some sz) (hrows:rowsOK sz (d.map enc)) (hbf:∀ i B,st.box i = some B→V.flatL B.cells = true)
  (hS:Sorts P f g enc sz srt) (hlt:d.length < 4611686018427387904) (hd:∀ x,o.dst = some x→x < n') (hk:K ((st.changed tk ((srt d).map enc)).put o.dst (.tup []) none)):OpOK P n' o st K:=by
 intro F a w pr lam hF h next Q hn
 subst hF
 subst ha
 have h1:=h.eval c
 rw [hc] at h1
 simp only [R] at h1
 obtain ⟨xs,ys,e1,q1,q2⟩:=h1
 simp only [RL] at q1 q2
 subst q1; subst q2
 have hargs:(([]:List Value).toArray++((Operand.tmp ss :: ys).toArray).map a.eval++([]:List Value).toArray) = sArgs (a.tmps.getD ss undef) g:=by
  have e3:a.eval (.tmp ss) = a.tmps.getD ss undef:=rfl
  cases g with
  | none =>
   subst hy
   simp only [List.map_toArray,List.map_cons,List.map_nil,e3,List.append_toArray,List.nil_append,List.append_nil,sArgs]
  | some g =>
   obtain ⟨y,rfl,hy⟩:=hy
   have h2:=h.eval y
   rw [hy] at h2
   simp only [R] at h2
   obtain ⟨xs,ys,e2,q1,q2⟩:=h2
   simp only [RL] at q1 q2
   subst q1; subst q2
   simp only [List.map_toArray,List.map_cons,List.map_nil,e2,e3,List.append_toArray,List.nil_append,List.append_nil,sArgs]
 unfold Oper.wp
 rw [exec_call ho e1 hgo,Oper.upon_enter,hargs]
 by_cases hne:d = []
 ·subst hne
  have hR:=h.env ss
  rw [hss] at hR
  simp only [List.map_nil,R] at hR
  obtain ⟨base,cap,hv,_⟩:=hR
  rw [hv]
  refine (hS.nil w pr base cap h.hl).mono ?_
  rintro en w' ⟨rfl,hb,hdl⟩
  have hext:Ext w pr w' pr:=⟨hb,hdl,fun _ _ h=>h,fun _ _ h=>.inl h⟩
  have hsr:srt [] = []:=List.eq_nil_of_length_eq_zero (hS.len [])
  rw [hsr] at hk
  have hw:=SRel.weak (SRel.bear (h.ext hext) hss htk hcl) (nb':=st.nb) (sl':=(st.changed tk []).sl) sorted_nil
  refine hn _ _ w' pr lam hk (SRel.put (st:=st.changed tk []) hw hd ?_ trivial)
  simp [R,RL]
 ·have hne':d.map enc ≠ []:=by simpa using hne
  obtain ⟨blk,cap,cur,hvs,hcp,hm,hg,hN,hgb,hcs,hrr,hpr⟩:=h.own0 hss htk hcl hsz hrows hne'
  rw [hvs]
  rw [List.length_map] at hcp hvs ⊢
  have hgl:∀ k vs,GL k = some vs→blk ≠ k:=fun k vs hq=>F.mine_gl hN hq
  refine (hS.row w pr lam blk cap d cur e h.hl hgl hne hcp hm hlt hgb hcs hrr).mono ?_
  rintro en w' ⟨rfl,w1,cur',hsw,hgb',hsize,hrr',hb,hdl⟩
  have hlen:((srt d).map enc).length = (d.map enc).length:=by simp [hS.len]
  have hch:=h.changed (sz:=sz) htk hcl (by rw [List.length_map]; exact hvs) hg hN hsw hgb hgb' hsize hbf hlen (by rw [List.length_map]; exact hcp) hm hrr'
  have hext:Ext w1 pr w' pr:=⟨hb,hdl,fun _ _ h=>h,fun _ _ h=>.inl h⟩
  refine hn _ _ w' pr lam hk ((hch.ext hext).put hd ?_ trivial)
  simp [R,RL]
end Go.X
namespace Go.X
open Go.Eng
open Go.RowKit
variable {β:Type}
mutual
theorem ren_toV {f g:Nat→Nat}:∀ s:S,(∀ i ∈ locsS s,g (f i) = i)→V.ren g (toV (renS f s)) = toV s
 | .any,_=>by simp [toV,renS,V.ren]
 | .un,_=>by simp [toV,renS,V.ren]
 | .int _ _,_=>by simp [toV,renS,V.ren]
 | .bool _,_=>by simp [toV,renS,V.ren]
 | .str _,_=>by simp [toV,renS,V.ren]
 | .agg cs,h=>by simp only [renS,toV,V.ren]; rw [ren_toVL cs (by simpa [locsS] using h)]
 | .tup cs,h=>by simp only [renS,toV,V.ren]; rw [ren_toVL cs (by simpa [locsS] using h)]
 | .loc i o,h=>by simp only [renS,toV,V.ren]; rw [h i (by simp [locsS])]
 | .loco i o n ix,h=>by simp only [renS,toV,V.ren]; rw [h i (by simp [locsS])]
 | .elt cs o,h=>by simp only [renS,toV,V.ren]; rw [ren_toVL cs (by simpa [locsS] using h)]
 | .gel g' o,_=>by simp only [renS]; exact V.ren_noLoc _ _ (gel_noLoc g' o)
 | .nilp,_=>by simp [toV,renS,V.ren]
 | .lst c l,_=>by
  simp only [renS]
  refine V.ren_noLoc _ _ ?_
  simp only [toV,V.noLoc]; exact noLocL_map' (enc_noLoc c) l
 | .rows vs,h=>by simp only [renS,toV,V.ren]; rw [ren_toVL vs (by simpa [locsS] using h)]
 | .fn f' a b,h=>by
  simp only [renS,toV,V.ren]
  have h':∀ i,i ∈ locsSL a ∨ i ∈ locsSL b→g (f i) = i:=by simpa [locsS] using h
  rw [ren_toVL a (fun i hi=>h' i (.inl hi)),ren_toVL b (fun i hi=>h' i (.inr hi))]
 | .nilfn,_=>by simp [toV,renS,V.ren]
 | .iface t v,h=>by simp only [renS,toV,V.ren]; rw [ren_toV v (by simpa [locsS] using h)]
 | .nilif,_=>by simp [toV,renS,V.ren]
 | .mref i,h=>by simp only [renS,toV,V.ren]; rw [h i (by simp [locsS])]
 | .nilm,_=>by simp [toV,renS,V.ren]
 | .ptr _ _ _,_=>by simp [toV,renS,V.ren]
 | .ivd x,_=>by simp only [renS,toV]; exact V.ren_noLoc _ _ (noLoc_iv x)
theorem ren_toVL {f g:Nat→Nat}:∀ cs:List S,(∀ i ∈ locsSL cs,g (f i) = i)→V.renL g (toVL (renSL f cs)) = toVL cs
 | [],_=>by simp [toVL,renSL,V.renL]
 | c :: cs,h=>by
  simp only [renSL,toVL,V.renL]
  have h':∀ i,i ∈ locsS c ∨ i ∈ locsSL cs→g (f i) = i:=by simpa [locsSL] using h
  rw [ren_toV c (fun i hi=>h' i (.inl hi)),ren_toVL cs (fun i hi=>h' i (.inr hi))]
end
mutual
theorem noLocS_of_locs:∀ s:S,locsS s = []→noLocS s = true
 | .any,_=>by simp [noLocS]
 | .un,_=>by simp [noLocS]
 | .int _ _,_=>by simp [noLocS]
 | .bool _,_=>by simp [noLocS]
 | .str _,_=>by simp [noLocS]
 | .agg cs,h=>by simp only [noLocS]; exact noLocSL_of_locs cs (by simpa [locsS] using h)
 | .tup cs,h=>by simp only [noLocS]; exact noLocSL_of_locs cs (by simpa [locsS] using h)
 | .loc i o,h=>by simp [locsS] at h
 | .loco i o n ix,h=>by simp [locsS] at h
 | .elt cs o,h=>by simp only [noLocS]; exact noLocSL_of_locs cs (by simpa [locsS] using h)
 | .gel g' o,_=>by simp [noLocS]
 | .nilp,_=>by simp [noLocS]
 | .lst c l,_=>by simp [noLocS]
 | .rows vs,h=>by simp only [noLocS]; exact noLocSL_of_locs vs (by simpa [locsS] using h)
 | .fn f' a b,h=>by
  have h':locsSL a = []∧locsSL b = []:=by simpa [locsS] using h
  simp only [noLocS,noLocSL_of_locs a h'.1,noLocSL_of_locs b h'.2,Bool.and_self]
 | .nilfn,_=>by simp [noLocS]
 | .iface t v,h=>by simp only [noLocS]; exact noLocS_of_locs v (by simpa [locsS] using h)
 | .nilif,_=>by simp [noLocS]
 | .mref i,h=>by simp [locsS] at h
 | .nilm,_=>by simp [noLocS]
 | .ptr _ _ _,_=>by simp [noLocS]
 | .ivd _,_=>by simp [noLocS]
theorem noLocSL_of_locs:∀ cs:List S,locsSL cs = []→noLocSL cs = true
 | [],_=>rfl
 | c :: cs,h=>by
  have h':locsS c = []∧locsSL cs = []:=by simpa [locsSL] using h
  simp only [noLocSL,noLocS_of_locs c h'.1,noLocSL_of_locs cs h'.2,Bool.and_self]
end
theorem anyBeq {l:List Nat} {i:Nat}:l.any (Nat.beq i) = true ↔ i ∈ l:=by
 rw [List.any_eq_true]
 constructor
 ·rintro ⟨x,hx,hb⟩; rw [Nat.eq_of_beq_eq_true hb]; exact hx
 ·intro h; exact ⟨i,h,by simp⟩
theorem dedup_spec:∀ (l acc:List Nat),acc.Nodup→(dedup l acc).Nodup∧(∀ i ∈ acc,i ∈ dedup l acc)∧(∀ i ∈ l,i ∈ dedup l acc)∧(∀ i ∈ dedup l acc,i ∈ l ∨ i ∈ acc)
 | [],acc,h=>⟨h,fun i hi=>hi,fun i hi=>by simp at hi,fun i hi=>.inr hi⟩
 | j :: l,acc,h=>by
  simp only [dedup]
  cases hb:acc.any (Nat.beq j) with
  | true =>
   obtain ⟨h1,h2,h3,h4⟩:=dedup_spec l acc h
   have hj:=anyBeq.1 hb
   refine ⟨h1,h2,fun i hi=>?_,fun i hi=>?_⟩
   ·simp at hi; rcases hi with rfl | hi
    ·exact h2 i hj
    ·exact h3 i hi
   ·rcases h4 i hi with h | h
    ·exact .inl (by simp [h])
    ·exact .inr h
  | false =>
   have hj:j ∉ acc:=fun hj=>by rw [anyBeq.2 hj] at hb; cases hb
   obtain ⟨h1,h2,h3,h4⟩:=dedup_spec l (acc++[j]) (by
    rw [List.nodup_append]
    refine ⟨h,by simp,fun a ha b hb=>?_⟩
    simp at hb; subst hb
    exact fun e=>hj (e ▸ ha))
   refine ⟨h1,fun i hi=>h2 i (by simp [hi]),fun i hi=>?_,fun i hi=>?_⟩
   ·simp at hi; rcases hi with rfl | hi
    ·exact h2 _ (by simp)
    ·exact h3 i hi
   ·rcases h4 i hi with h | h
    ·exact .inl (by simp [h])
    ·simp at h; rcases h with h | rfl
     ·exact .inr h
     ·exact .inl (by simp)
theorem indexN_get:∀ (π:List Nat) (i:Nat),i ∈ π→π[indexN π i]? = some i
 | x :: xs,i,h=>by
  simp only [indexN]
  cases hb:Nat.beq x i with
  | true=>simp only [cond_true]; rw [Nat.eq_of_beq_eq_true hb]; rfl
  | false =>
   simp only [cond_false]
   have hne:i ≠ x:=fun e=>by subst e; simp at hb
   simp [hne] at h
   rw [List.getElem?_cons_succ]
   exact indexN_get xs i h
section
variable {P:Program} {X:XCtx P} {ro:RO} {m:Mm} {r:β}
theorem findSpec_sound {f:FuncId} {args:List S} {ins:List SBox} {K:S→List SBox→Option β}:∀ {ss:List (XSpec P)},findSpec ss f args ins K = some (some r) →
  ∃ res outs,K res outs = some r∧isGo P f = true∧Go.Eng.Fn P f (toVL args) (ins.map toBox) (toV res) (outs.map toBox)∧noLocS res = true∧(∀ B ∈ outs,noLocB B = true)∧outs.length = ins.length
 | [],h=>by cases h
 | s :: ss,h=>by
  simp only [findSpec] at h
  cases hf:Nat.beq s.f f with
  | false=>rw [hf] at h; exact findSpec_sound h
  | true =>
   rw [hf] at h
   simp only [cond_true] at h
   have e:=Nat.eq_of_beq_eq_true hf
   cases hr:s.run args ins K with
   | none=>rw [hr] at h; exact findSpec_sound h
   | some o =>
    rw [hr] at h
    simp only [Option.some.injEq] at h
    subst h
    have:=s.sound args ins K r hr
    rwa [e] at this
theorem getB_lt {i:Nat} {B:SBox} (h:getB ro m i = some B) (ho:ro.ownB i = true):i < m.bx.length:=by
 unfold getB at h
 rw [ho] at h
 simp only [cond_true] at h
 cases hq:m.bx[i]? with
 | none=>rw [hq] at h; cases h
 | some _=>exact (List.getElem?_eq_some_iff.1 hq).1
theorem bltS {a b:Nat} (h:Nat.blt a b = true):a < b:=Nat.le_of_ble_eq_true h
theorem getB_set {sl:T (S × Tk)} {bx:List (Option SBox)} {i j:Nat} {B:SBox} (ho:ro.ownB i = true) (hi:i < bx.length):getB ro ⟨sl,bx.set i (some B)⟩ j = if j = i then some B else getB ro ⟨sl,bx⟩ j:=by
 unfold getB
 by_cases h:j = i
 ·subst h; rw [if_pos rfl,ho]; simp [hi]
 ·rw [if_neg h]
  cases hq:ro.ownB j
  ·rfl
  ·simp only [cond_true]
   rw [List.getElem?_set_ne (Ne.symm h)]
theorem getB_push {sl:T (S × Tk)} {bx:List (Option SBox)} {j:Nat} {B:SBox} (hn:Nat.ble ro.nb bx.length = true):getB ro ⟨sl,bx++[some B]⟩ j = if j = bx.length then some B else getB ro ⟨sl,bx⟩ j:=by
 unfold getB
 by_cases h:j = bx.length
 ·subst h
  have:ro.ownB bx.length = true:=by unfold RO.ownB; rw [hn]; rfl
  rw [if_pos rfl,this]
  simp
 ·rw [if_neg h]
  cases hq:ro.ownB j
  ·rfl
  ·simp only [cond_true]
   rcases Nat.lt_or_ge j bx.length with q | q
   ·rw [List.getElem?_append_left q]
   ·rw [List.getElem?_eq_none (by simp; omega),List.getElem?_eq_none (by omega)]
theorem toSt_setBox {sl:T (S × Tk)} {bx:List (Option SBox)} {i:Nat} {B:SBox} (ho:ro.ownB i = true) (hi:i < bx.length):toSt ro ⟨sl,bx.set i (some B)⟩ = (toSt ro ⟨sl,bx⟩).setBox i (toBox B):=by
 unfold toSt St.setBox
 congr 1
 ·simp
 ·funext j
  unfold upd
  rw [getB_set ho hi]
  split <;> rfl
theorem boxesX_sound:∀ {π:List Nat} {ins:List SBox},boxesX ro m π = some ins→boxesOK (toSt ro m) π (ins.map toBox)∧(∀ i ∈ π,ro.ownB i = true∧i < m.bx.length)
 | [],ins,h=>by simp only [boxesX,Option.some.injEq] at h; subst h; exact ⟨trivial,fun i hi=>by simp at hi⟩
 | i :: π,ins,h=>by
  simp only [boxesX] at h
  split at h
  ·rename_i B hB
   obtain ⟨h1,h2⟩:=condS h
   simp only [Bool.and_eq_true] at h1
   split at h2
   ·rename_i bs hbs
    cases h2
    obtain ⟨q1,q2⟩:=boxesX_sound hbs
    refine ⟨⟨⟨?_,noLocB_V h1.1⟩,q1⟩,fun j hj=>?_⟩
    ·show (getB ro m i).map toBox = _
     rw [hB]; rfl
    ·simp at hj
     rcases hj with rfl | hj
     ·exact ⟨h1.2,getB_lt hB h1.2⟩
     ·exact q2 j hj
   ·cases h2
  ·cases h
theorem setBs_sound:∀ {π:List Nat} {outs:List SBox} {bx:List (Option SBox)} {sl:T (S × Tk)},π.length = outs.length→(∀ i ∈ π,ro.ownB i = true∧i < bx.length) →
  toSt ro ⟨sl,setBs bx π outs⟩ = (toSt ro ⟨sl,bx⟩).setBoxes π (outs.map toBox)
 | [],[],bx,sl,_,_=>by simp [setBs,St.setBoxes]
 | [],_ :: _,_,_,h,_=>by simp at h
 | _ :: _,[],_,_,h,_=>by simp at h
 | i :: π,B :: outs,bx,sl,h,ho=>by
  simp only [setBs,List.map_cons,St.setBoxes]
  rw [setBs_sound (by simpa using h) (fun j hj=>by
   have:=ho j (by simp [hj])
   exact ⟨this.1,by simpa using this.2⟩),toSt_setBox (ho i (by simp)).1 (ho i (by simp)).2]
theorem toSt_box_len {m:Mm} (h:Nat.ble ro.nb m.bx.length = true):(toSt ro m).box (toSt ro m).nb = none:=by
 show (getB ro m m.bx.length).map toBox = none
 unfold getB RO.ownB
 rw [h]
 simp
variable {Kp:St→Prop}
theorem callX_sound {dr:Bool} {f:FuncId} {first args cap:List S} {dst:Option Nat} {k:Mm→Option β} (hK:∀ m',k m' = some r→Kp (toSt ro m')) (h:callX X ro dr m f args dst k = some r) :
  callVC P f (toVL args) (fun v=>Kp ((toSt ro m).put dst v none)) ∨ (dr = false∧callBVC P f (toVL args) (toSt ro m) dst (Kp)):=by
 unfold callX at h
 split at h
 ·rename_i hd
  split at h
  ·rename_i o ho
   subst h
   obtain ⟨res,outs,h1,h2,h3,h4,h5,h6⟩:=findSpec_sound (ss:=X.known) ho
   obtain ⟨m',e,hk⟩:=putX_sound h1
   have ho:outs = []:=List.eq_nil_of_length_eq_zero (by simpa using h6)
   subst ho
   refine .inl ⟨h2,?_,toV res,h3,?_⟩
   rotate_left
   ·have:=hK m' hk; rw [← e] at this; exact this
   have hl:locsSL args = []:=by
    cases hq:locsSL args with
    | nil=>rfl
    | cons i l =>
     have:=(dedup_spec (locsSL args) [] (by simp)).2.2.1 i (by rw [hq]; simp)
     rw [hd] at this; simp at this
   exact noLocSL_V _ (noLocSL_of_locs _ hl)
  ·cases h
 ·rename_i hd
  have hdr:dr = false∧Nat.ble ro.nb m.bx.length = true:=by
   cases dr <;> cases hb:Nat.ble ro.nb m.bx.length <;> rw [hb] at h <;> first | (cases h; done) | exact ⟨rfl,rfl⟩
  obtain ⟨hdr,hnb⟩:=hdr
  subst hdr
  ·rw [hnb] at h
   simp only [Bool.not_true,Bool.or_self,cond_false] at h
   split at h
   ·rename_i ins hins
    split at h
    ·rename_i o ho
     subst h
     obtain ⟨res,outs,h1,h2,h3,h4,h5,h6⟩:=findSpec_sound (ss:=X.known) ho
     obtain ⟨m',e,hk⟩:=putX_sound h1
     obtain ⟨b1,b2⟩:=boxesX_sound hins
     obtain ⟨d1,_,d3,_⟩:=dedup_spec (locsSL args) [] (by simp)
     obtain ⟨l1,l2⟩:=boxesOK_spec b1
     have hlen:(dedup (locsSL args) []).length = outs.length:=by rw [l1,h6]; simp
     refine .inr ⟨rfl,h2,dedup (locsSL args) [],_,_,_,_,d1,toSt_box_len hnb,?_,b1,by simp [h6],?_,noLocS_V _ h4,h3,?_⟩
     ·rw [ren_toVL]
      intro i hi
      have:=indexN_get _ i (d3 i hi)
      simp [List.getD,this]
     ·intro B hB
      obtain ⟨B',hB',rfl⟩:=List.mem_map.1 hB
      exact noLocB_V (h5 B' hB')
     ·have:=hK m' hk
      rw [← e,setBs_sound hlen b2] at this
      exact this
    ·cases h
   ·cases h
theorem newBoxX_sound {B:SBox} {dst:Option Nat} {v:S} {k:Mm→Option β} (hK:∀ m',k m' = some r→Kp (toSt ro m')) (h:newBoxX ro m B dst v k = some r) :
  (toSt ro m).box (toSt ro m).nb = none∧Kp (({ nb:=m.bx.length + 1,sl:=(toSt ro m).sl,box:=upd (toSt ro m).box m.bx.length (some (toBox B)) }:St).put dst (toV v) none):=by
 unfold newBoxX at h
 obtain ⟨h1,h2⟩:=condS h
 refine ⟨toSt_box_len h1,?_⟩
 obtain ⟨m',e,hk⟩:=putX_sound h2
 have:=hK m' hk
 rw [← e] at this
 refine (congrArg Kp ?_).mp this
 congr 1
 unfold toSt
 congr 1
 ·simp
 ·funext j
  unfold upd
  rw [getB_push h1]
  split <;> rfl
theorem boxX_sound {e:TypeId} {v:S} {dst:Option Nat} {k:Mm→Option β} (hK:∀ m',k m' = some r→Kp (toSt ro m')) (h:boxX ro m e v dst k = some r):boxVC (toSt ro m) e (toV v) dst (Kp):=by
 unfold boxX at h
 split at h
 ·rename_i n hn
  obtain ⟨h1,h2⟩:=condS h
  obtain ⟨h3,h4⟩:=newBoxX_sound hK h2
  refine ⟨?_,by rw [cszS_V hn]; rfl,h3,?_⟩
  ·exact bltS h1
  ·have e1:toBox (.cells (cellsS v) e) = ⟨(toV v).cellsL,e⟩:=by simp [toBox,cellsS_V hn]
   rw [e1] at h4
   simp only [toV] at h4
   exact h4
 ·cases h
theorem arrCells_V {c:C}:∀ (n:Nat) (l:List (den c)) (k:Nat),toVL (arrCells c n l k) = (List.range' k n).map fun k=>enc c (l.getD k (dfl c))
 | 0,_,_=>rfl
 | n + 1,l,k=>by
  simp only [arrCells,toVL,List.range'_succ,List.map_cons,refl_enc]
  rw [arrCells_V n l (k + 1)]
theorem storeX_sound {t:TypeId} {x y:S} {dst:Option Nat} {k:Mm→Option β} (hK:∀ m',k m' = some r→Kp (toSt ro m')) (h:storeX X ro m t x y dst k = some r):storeVC P t (toSt ro m) (toV x) (toV y) dst (Kp):=by
 unfold storeX at h
 split at h
 ·rename_i i off
  split at h
  ·rename_i cs ty n n' hB hs hy
   obtain ⟨h1,h2⟩:=condS h
   simp only [Bool.and_eq_true] at h1
   obtain ⟨⟨⟨a1,a2⟩,a3⟩,a4⟩:=h1
   have a2':=Nat.eq_of_beq_eq_true a2
   subst a2'
   have hb:(toSt ro m).box i = some ⟨toVL cs,ty⟩:=by show (getB ro m i).map toBox = _; rw [hB]; rfl
   simp only [toV,storeVC,hb,hs]
   refine ⟨?_,cszS_V hy,by rw [toVL_length]; exact Nat.le_of_ble_eq_true a3,trivial,?_⟩
   ·exact bltS a1
   ·have:=hK _ h2
    rw [toSt_setBox a4 (getB_lt hB a4)] at this
    simp only [toBox,toVL_append,toVL_take,toVL_drop,cellsS_V hy] at this
    exact this
  ·cases h
 ·rename_i i a n ix
  split at h
  ·rename_i cs ty c z hB hc hz
   split at h
   ·rename_i l v hl hv
    obtain ⟨h1,h2⟩:=condS h
    simp only [Bool.and_eq_true] at h1
    obtain ⟨⟨⟨⟨⟨a1,a2⟩,a5⟩,a6⟩,a3⟩,a4⟩:=h1
    have hz1:=Nat.eq_of_beq_eq_true a2
    subst hz1
    have hc1:=Nat.eq_of_beq_eq_true a5
    have hle:=Nat.le_of_ble_eq_true a3
    obtain ⟨l',h3,h4⟩:=bind_some h2
    unfold putA at h3
    split at h3
    case isFalse=>cases h3
    rename_i hin
    cases h3
    have hb:(toSt ro m).box i = some ⟨toVL cs,ty⟩:=by show (getB ro m i).map toBox = _; rw [hB]; rfl
    have hseg:=unreflL_V hl
    have hlen:l.length = n:=by
     have:=congrArg List.length hseg
     rw [toVL_length,List.length_map,List.length_take,List.length_drop] at this
     omega
    have hvv:toV y = enc c v:=unrefl_enc hv
    have hcell:(toV y).cellsL = [toV y]:=by cases y <;> first | rfl | (simp only [toV]; exact iv_cellsL _) | (simp only [toV]; split <;> rfl) | exact absurd a6 (by simp [noAgg])
    simp only [toV,storeVC,hb,hz]
    refine ⟨bltS a1,by rw [hvv,enc_csize,hc1],by rw [toVL_length]; omega,trivial,?_⟩
    have:=hK _ h4
    rw [toSt_setBox a4 (getB_lt hB a4)] at this
    simp only [toBox,toVL_append,toVL_take,toVL_drop,arrCells_V,hcell] at this ⊢
    have e:(toVL cs).take a++((List.range' 0 n).map fun k=>enc c ((l.set ix.toNat v).getD k (dfl c)))++(toVL cs).drop (a + n) = (toVL cs).take (a + ix.toNat)++[toV y]++(toVL cs).drop (a + ix.toNat + 1):=by
     have hx:ix.toNat < n:=by omega
     have hN:(toVL cs).length = cs.length:=toVL_length cs
     refine List.ext_getElem? fun q=>?_
     rw [toVL_seg] at hseg
     have hsg:∀ q,q < n→(toVL cs)[a + q]? = some (enc c (l.getD q (dfl c))):=by
      intro q hq
      have:(((toVL cs).drop a).take n)[q]? = (l.map (enc c))[q]?:=by rw [hseg]
      rw [List.getElem?_take,if_pos hq,List.getElem?_drop,List.getElem?_map] at this
      rw [this,List.getElem?_eq_getElem (by omega),List.getD_eq_getElem?_getD,List.getElem?_eq_getElem (by omega)]
      rfl
     rw [List.append_assoc,List.append_assoc]
     by_cases q1:q < a
     ·rw [List.getElem?_append_left (by simp; omega),List.getElem?_append_left (by simp; omega),List.getElem?_take,List.getElem?_take,if_pos q1,if_pos (by omega)]
     ·rw [List.getElem?_append_right (by simp; omega),List.length_take,Nat.min_eq_left (by omega)]
      by_cases q2:q < a + n
      ·rw [List.getElem?_append_left (by simp; omega),List.getElem?_map,List.getElem?_range' (by omega)]
       simp only [Option.map_some,Nat.zero_add,Nat.one_mul]
       by_cases q3:q = a + ix.toNat
       ·subst q3
        rw [List.getElem?_append_right (by simp; omega),List.length_take,Nat.min_eq_left (by omega)]
        have:a + ix.toNat - a = ix.toNat:=by omega
        rw [this,List.getD_eq_getElem?_getD,List.getElem?_set_self (by omega),hvv]
        simp
       ·have hs':(l.set ix.toNat v).getD (q - a) (dfl c) = l.getD (q - a) (dfl c):=by
         rw [List.getD_eq_getElem?_getD,List.getD_eq_getElem?_getD,List.getElem?_set_ne (by omega)]
        rw [hs',← hsg (q - a) (by omega)]
        have:a + (q - a) = q:=by omega
        rw [this]
        by_cases q4:q < a + ix.toNat
        ·rw [List.getElem?_append_left (by simp; omega),List.getElem?_take,if_pos q4]
        ·rw [List.getElem?_append_right (by simp; omega),List.length_take,Nat.min_eq_left (by omega),List.getElem?_append_right (by simp; omega),List.getElem?_drop]
         congr 1
         simp; omega
      ·rw [List.getElem?_append_right (by simp; omega),List.getElem?_drop,List.getElem?_append_right (by simp; omega),List.length_take,Nat.min_eq_left (by omega),List.getElem?_append_right (by simp; omega),List.getElem?_drop]
       congr 1
       simp; omega
    rw [e] at this
    exact this
   ·cases h
  ·cases h
 ·cases h
theorem clrX_V (t:Nat) (x:S × Tk):(toV (clrX t x).1,(clrX t x).2) = clr t (toV x.1,x.2):=by
 obtain ⟨s,tk⟩:=x
 unfold clrX clr
 cases tk with
 | none=>rfl
 | some p =>
  obtain ⟨t',e⟩:=p
  simp only
  by_cases h:t' = t
  ·subst h; simp
  ·have h1:Nat.beq t' t = false:=beqF h
   by_cases h2:t' = t + 3000000
   ·subst h2; simp
   ·have h3:Nat.beq t' (t + 3000000) = false:=beqF h2
    rw [h1,h3]; simp [h,h2]
structure ROok (mu:Bool) (ro:RO):Prop where
 idem:∀ s,unTok mu (ro.sl s) = ro.sl s
 tok:∀ s t e,(ro.sl s).2 = some (t,e)→tcl t = 2
 flat:ro.fl = true→∀ s,ro.own s = false→(ro.sl s).2 ≠ none ∨ flatS (ro.sl s).1 = true
 boxes:ro.fl = true→∀ i B,ro.ownB i = false→ro.bx i = some B→flatB B = true
theorem clrX_old {t:Nat} (ht:tcl t < 2) {x:S × Tk} (h:∀ t' e,x.2 = some (t',e)→tcl t' = 2):clrX t x = x:=by
 obtain ⟨s,tk⟩:=x
 unfold clrX
 cases tk with
 | none=>rfl
 | some p =>
  obtain ⟨t',e⟩:=p
  have h2:=h t' e rfl
  simp only
  have h1:Nat.beq t' t = false:=beqF (fun e=>by subst e; omega)
  have h3:Nat.beq t' (t + 3000000) = false:=beqF (fun e=>by unfold tcl at *; omega)
  rw [h1,h3]; rfl
theorem getS_map {mu:Bool} (hro:ROok mu ro) {t:Nat} (ht:tcl t < 2) (s:Nat):getS ro ⟨m.sl.mapV (clrX t),m.bx⟩ s = clrX t (getS ro m s):=by
 unfold getS
 cases ro.own s
 ·exact (clrX_old ht (hro.tok s)).symm
 ·simp only [cond_true]
  rw [T.get_mapV]
  cases m.sl.get s <;> rfl
theorem toSt_clear {mu:Bool} (hro:ROok mu ro) {t:Nat} (ht:tcl t < 2):toSt ro ⟨m.sl.mapV (clrX t),m.bx⟩ = (toSt ro m).clear t:=by
 unfold toSt St.clear
 congr 1
 funext s
 rw [getS_map hro ht]
 exact clrX_V t _
theorem putV'_sound {mu:Bool} (hro:ROok mu ro) {dr:Bool} {o:Oper} {v:S} {tk:Tk} {k:Mm→Option β} (h:putV' ro m dr o v tk k = some r) :
  ∃ m',tokOK dr o tk∧putV o (toSt ro m) (toV v) tk = toSt ro m'∧k m' = some r:=by
 unfold putV' at h
 unfold putV tokOK
 cases hcp:isCopy o with
 | true =>
  rw [hcp] at h
  obtain ⟨m',q1,q2⟩:=putX_sound h
  exact ⟨m',(fun _ h=>by cases h),q1,q2⟩
 | false =>
  rw [hcp] at h
  simp only [cond_false] at h ⊢
  cases tk with
  | none =>
   obtain ⟨m',q1,q2⟩:=putX_sound h
   exact ⟨m',(fun _ _ _ _ h=>by cases h),q1,q2⟩
  | some te =>
   obtain ⟨t,e⟩:=te
   simp only at h
   obtain ⟨h1,h2⟩:=condS h
   simp only [Bool.and_eq_true,Bool.or_eq_true] at h1
   obtain ⟨m',q1,q2⟩:=putX_sound h2
   rw [toSt_clear hro (bltS h1.1)] at q1
   refine ⟨m',fun hdr _ t' e' ht=>?_,q1,q2⟩
   cases ht
   have h3:=h1.2
   rw [hdr] at h3
   simp only [Bool.not_true,Bool.false_eq_true,false_or] at h3
   refine ⟨h3.1,?_,bltS h1.1⟩
   have h3:=h3.2
   split at h3
   ·rename_i d hd
    rw [hd,Nat.eq_of_beq_eq_true h3]
   ·cases h3
theorem app_spec {α:Type} {b:Nat} {l q y:List α} (h:app b l q = some y):(l.length + q.length) * b ≤ 140737488355328∧y = l++q:=by
 obtain ⟨h1,h2⟩:=iteS h; cases h2; exact ⟨h1,rfl⟩
theorem appendX_sound {mu:Bool} (hro:ROok mu ro) {ss:Nat} {x:S} {t u:TypeId} {dst:Option Nat} {k:Mm→Option β} (hK:∀ m',k m' = some r→Kp (toSt ro m')) (h:appendX (P:=P) ro m ss x t u dst k = some r):appendVC P (toSt ro m) ss (toV x) t u dst (Kp):=by
 unfold appendX at h
 split at h
 ·rename_i c l tk e e' hg ht
  have henv:(toSt ro m).env ss = .list (l.map (enc c)):=by show toV (getS ro m ss).1 = _; rw [hg]; simp [toV]
  have htok:(toSt ro m).tok ss = some (tk,e):=by show (getS ro m ss).2 = _; rw [hg]
  unfold appendVC
  simp only [henv,htok,ht]
  split at h
  ·rename_i sz by' zv hs hb hz
   simp only [hs,hb,zeroX_V hz]
   split at h
   ·rename_i zn hzn
    obtain ⟨h1,h2⟩:=condS h
    simp only [Bool.and_eq_true,Bool.not_eq_true'] at h1
    obtain ⟨⟨⟨⟨⟨a1,a0⟩,a2⟩,a3⟩,a4⟩,a5⟩:=h1
    have a0':=bltS a0
    have a1':=Nat.eq_of_beq_eq_true a1
    have a3':=Nat.eq_of_beq_eq_true a3
    have a4':=Nat.eq_of_beq_eq_true a4
    subst a3'
    refine ⟨⟨a1',a0',a2,cszS_V hzn,fun e=>by subst e; cases a5⟩,by rw [← a4']; exact rowsOK_lst c l,?_⟩
    have fin:∀ (l2:List (den c)),((app by' l l2).bind fun r=>putX ro ⟨m.sl.mapV (clrX tk),m.bx⟩ dst (.lst c r) (some (tk,e)) k) = some r →
      ((l.map (enc c)).length + l2.length) * by' ≤ 140737488355328∧Kp (((toSt ro m).clear tk).put dst (.list (l.map (enc c)++l2.map (enc c))) (some (tk,e))):=by
     intro l2 h
     obtain ⟨y,q1,q2⟩:=bind_some h
     obtain ⟨q3,rfl⟩:=app_spec q1
     obtain ⟨m',e1,hk⟩:=putX_sound q2
     have:=hK m' hk
     rw [← e1,toSt_clear hro a0'] at this
     refine ⟨by simpa using q3,?_⟩
     simpa [toV] using this
    split at h2
    ·rename_i c' l2
     split at h2
     ·rename_i hc
      subst hc
      obtain ⟨q1,q2⟩:=fin l2 h2
      simp only [toV]
      exact ⟨by rw [← a4']; exact rowsOK_lst _ l2,by simpa using q1,q2⟩
     ·cases h2
    ·obtain ⟨q1,q2⟩:=fin [] h2
     simp only [toV,toVL]
     exact ⟨fun v hv=>by simp at hv,by simpa using q1,by simpa using q2⟩
    ·rename_i s
     split at h2
     ·rename_i hc
      subst hc
      obtain ⟨q1,q2⟩:=fin (bytesI s) h2
      simp only [toV]
      refine ⟨a4'.symm,by simpa [bytesI] using q1,?_⟩
      rwa [bytesI_V] at q2
     ·cases h2
    ·cases h2
   ·cases h
  ·cases h
 ·cases h
theorem unTok_idem (mu:Bool) (x:S × Tk):unTok mu (unTok mu x) = unTok mu x:=by
 obtain ⟨s,tok⟩:=x
 unfold unTok
 cases tok with
 | none =>
  simp only
  cases h:!mu || flatS s
  ·simp [flatS]
  ·simp [h]
 | some te =>
  obtain ⟨t,e⟩:=te
  simp only
  cases h2:Nat.beq (tcl t) 2
  ·simp only [cond_false]
   cases h:!mu || flatS s
   ·simp [flatS]
   ·simp [h]
  ·simp [h2]
theorem unTok_Wk (mu:Bool) (x:S × Tk):Wk (pv (unTok mu x)) (pv x):=by
 obtain ⟨s,tok⟩:=x
 unfold unTok
 cases tok with
 | none =>
  simp only
  cases h:!mu || flatS s
  ·exact .inr (.inr (by simp [pv,toV]))
  ·exact .inl rfl
 | some te =>
  obtain ⟨t,e⟩:=te
  simp only
  cases h2:Nat.beq (tcl t) 2
  ·simp only [cond_false]
   cases h:!mu || flatS s
   ·exact .inr (.inr (by simp [pv,toV]))
   ·exact .inr (.inl rfl)
  ·exact .inl rfl
theorem unTok_lt {mu:Bool} {n:Nat} {x:S × Tk} (h:ltV n (toV x.1) = true):ltV n (toV (unTok mu x).1) = true:=by
 rcases unTok_Wk mu x with q | q | q
 ·have:=congrArg Prod.fst q; simp only [pv] at this; rw [this]; exact h
 ·have:=congrArg Prod.fst q; simp only [pv] at this; rw [this]; exact h
 ·have:=congrArg Prod.fst q; simp only [pv] at this; rw [this]; rfl
theorem unTok_tok {mu:Bool} {x:S × Tk} {t:Nat} {e:TypeId} (h:(unTok mu x).2 = some (t,e)):tcl t = 2:=by
 obtain ⟨s,tok⟩:=x
 unfold unTok at h
 cases tok with
 | none =>
  simp only at h
  cases hq:!mu || flatS s <;> rw [hq] at h <;> cases h
 | some te =>
  obtain ⟨t',e'⟩:=te
  simp only at h
  cases h2:Nat.beq (tcl t') 2
  ·rw [h2] at h
   simp only [cond_false] at h
   cases hq:!mu || flatS s <;> rw [hq] at h <;> cases h
  ·rw [h2] at h
   cases h
   exact Nat.eq_of_beq_eq_true h2
theorem unTok_flat {x:S × Tk}:(unTok true x).2 ≠ none ∨ flatS (unTok true x).1 = true:=by
 obtain ⟨s,tok⟩:=x
 unfold unTok
 cases tok with
 | none =>
  simp only [Bool.not_true,Bool.false_or]
  cases h:flatS s
  ·exact .inr rfl
  ·exact .inr h
 | some te =>
  obtain ⟨t,e⟩:=te
  simp only [Bool.not_true,Bool.false_or]
  cases h2:Nat.beq (tcl t) 2
  ·simp only [cond_false]
   cases h:flatS s
   ·exact .inr rfl
   ·exact .inr h
  ·exact .inl (by simp)
theorem flatSV:∀ s:S,flatS s = true→(toV s).flat = true∧True:=by
 intro s
 suffices h:∀ s:S,flatS s = true→(toV s).flat = true from fun hs=>⟨h s hs,trivial⟩
 intro s
 induction s using S.rec (motive_2:=fun cs=>flatSL cs = true→V.flatL (toVL cs) = true) with
 | any=>intro; simp [toV,V.flat]
 | un=>intro; simp [toV,V.flat]
 | int=>intro; simp [toV,V.flat]
 | bool=>intro; simp [toV,V.flat]
 | str=>intro; simp [toV,V.flat]
 | agg cs ih=>intro h; simp only [flatS] at h; simp only [toV,V.flat]; exact ih h
 | tup cs ih=>intro h; simp only [flatS] at h; simp only [toV,V.flat]; exact ih h
 | loc=>intro; simp [toV,V.flat]
 | loco=>intro; simp [toV,V.flat]
 | elt cs off ih=>intro h; simp only [flatS,List.isEmpty_iff] at h; subst h; simp [toV,toVL,V.flat]
 | gel=>intro h; simp [flatS] at h
 | nilp=>intro; simp [toV,V.flat]
 | lst=>intro h; simp [flatS] at h
 | rows vs ih=>intro h; simp only [flatS,List.isEmpty_iff] at h; subst h; simp [toV,toVL,V.flat]
 | fn f a b iha ihb =>
  intro h; simp only [flatS,Bool.and_eq_true] at h
  simp only [toV,V.flat,Bool.and_eq_true]; exact ⟨iha h.1,ihb h.2⟩
 | nilfn=>intro; simp [toV,V.flat]
 | iface t v ih=>intro h; simp only [flatS] at h; simp only [toV,V.flat]; exact ih h
 | nilif=>intro; simp [toV,V.flat]
 | mref=>intro; simp [toV,V.flat]
 | nilm=>intro; simp [toV,V.flat]
 | ptr=>intro; simp [toV,V.flat]
 | ivd x=>intro; simp only [toV]; cases x <;> simp [enc_iv,V.flat,V.flatL]
 | nil=>simp [toVL,V.flatL]
 | cons c cs ih1 ih2 =>
  rename_i h; simp only [flatSL,Bool.and_eq_true] at h
  simp only [toVL,V.flatL,Bool.and_eq_true]; exact ⟨ih1 h.1,ih2 h.2⟩
theorem flatS_V {s:S} (h:flatS s = true):(toV s).flat = true:=(flatSV s h).1
theorem flatSL_V:∀ {cs:List S},flatSL cs = true→V.flatL (toVL cs) = true
 | [],_=>by simp [toVL,V.flatL]
 | c :: cs,h=>by
  simp only [flatSL,Bool.and_eq_true] at h
  simp only [toVL,V.flatL,Bool.and_eq_true]; exact ⟨flatS_V h.1,flatSL_V h.2⟩
theorem codeFlat_refl {c:C} (h:codeFlat c = true) (x:den c):flatS (refl c x) = true:=by
 cases c <;> first | rfl | (simp [codeFlat] at h)
theorem codeFlat_enc {c:C} (h:codeFlat c = true) (x:den c):(enc c x).flat = true:=by
 rw [← refl_enc]; exact flatS_V (codeFlat_refl h x)
theorem codeFlat_lst {c:C} (h:codeFlat c = true) (l:List (den c)):V.flatL (l.map (enc c)) = true :=
 flatL_of fun v hv=>by obtain ⟨x,_,rfl⟩:=List.mem_map.1 hv; exact codeFlat_enc h x
theorem flatB_V {B:SBox} (h:flatB B = true):V.flatL (toBox B).cells = true:=by
 cases B with
 | cells cs ty=>exact flatSL_V h
 | map mt kc vc l =>
  simp only [flatB,Bool.and_eq_true] at h
  refine flatL_of fun v hv=>?_
  obtain ⟨x,_,rfl⟩:=List.mem_map.1 hv
  simp [V.flat,V.flatL,codeFlat_enc h.1,codeFlat_enc h.2]
theorem opok_weak {P:Program} {n':Nat} {o:Oper} {st:St} {K K':St→Prop} (h:OpOK P n' o st K') (hw:∀ st',K' st'→∃ sl',(∀ s,Wk (sl' s) (st'.sl s))∧K ⟨st'.nb,sl',st'.box⟩):OpOK P n' o st K:=by
 intro F a w pr lam hF hs next Q hn
 refine h F a w pr lam hF hs next Q fun st' a' w' pr' lam' hk hs'=>?_
 obtain ⟨sl',h1,h2⟩:=hw st' hk
 exact hn _ a' w' pr' lam' h2 (SRel.weak hs' h1)
theorem iaddrTX_sound {o:Oper} {t:TypeId} {ss:Nat} {ix:Operand} {k:Mm→Option β} (ho:o.op = .indexAddr t (.tmp ss) ix) (hK:∀ m',k m' = some r→Kp (toSt ro m')) (h:iaddrTX (P:=P) ro m t ss (evalX ro m ix) o.dst k = some r) :
  semVC P o (toSt ro m) Kp:=by
 intro n' hd _
 unfold iaddrTX at h
 split at h
 ·rename_i c l tk e kk i hg hi
  split at h
  ·rename_i e' sz he
   obtain ⟨h1,h2⟩:=condS h
   simp only [Bool.and_eq_true] at h1
   have a1:=Nat.eq_of_beq_eq_true h1.1
   have a2:=Nat.eq_of_beq_eq_true h1.2
   subst a2
   obtain ⟨e1,e2,rfl⟩:=elemC_spec he
   rcases brS h2 with ⟨hb,h2⟩ | ⟨_,h2⟩
   ·obtain ⟨b1,b2⟩:=inB_spec hb
    obtain ⟨m',q1,q2⟩:=putX_sound h2
    have hs:(toSt ro m).env ss = .list (l.map (enc c)):=by show toV (getS ro m ss).1 = _; rw [hg]; simp [toV]
    have ht:(toSt ro m).tok ss = some (tk,e):=by show (getS ro m ss).2 = _; rw [hg]
    refine opok_iaddrT (k:=kk) (i:=i) ho hs ht a1 (by rw [← evalX_V,hi]; simp [toV]) (sliceT_spec e1) e2 (rowsOK_lst c l) b1 (by simpa using b2) hd ?_
    have:=hK m' q2
    rw [← q1] at this
    simpa [toV] using this
   ·cases h2
  ·cases h
 ·cases h
theorem faddrTX_sound {o:Oper} {s:TypeId} {d0 fi:Nat} {k:Mm→Option β} (ho:o.op = .fieldAddr s (.tmp d0) fi) (hK:∀ m',k m' = some r→Kp (toSt ro m')) (h:faddrTX (P:=P) ro m s d0 fi o.dst k = some r) :
  semVC P o (toSt ro m) Kp:=by
 intro n' hd _
 unfold faddrTX at h
 split at h
 ·rename_i i sz f u e fo t hg hf
  split at h
  ·rename_i n hn
   obtain ⟨h1,h2⟩:=condS h
   simp only [Bool.and_eq_true,Bool.not_eq_true'] at h1
   have a1:n ≠ 0:=fun e=>by subst e; cases h1.1.1
   have a2:=Nat.le_of_ble_eq_true h1.1.2
   have a3:=Nat.eq_of_beq_eq_true h1.2
   obtain ⟨m',q1,q2⟩:=putX_sound h2
   have hu:u - 3000000 + 3000000 = u:=by omega
   have hs:(toSt ro m).env d0 = .ptr (i.toNat * sz + f):=by show toV (getS ro m d0).1 = _; rw [hg]; simp [toV]
   have ht:(toSt ro m).tok d0 = some (u - 3000000 + 3000000,e):=by show (getS ro m d0).2 = _; rw [hg,hu]
   refine opok_faddrT ho hs ht a3 hf hn a1 hd ?_
   have:=hK m' q2
   rw [← q1] at this
   rw [hu,Nat.add_assoc]
   simpa only [toV] using this
  ·cases h
 ·cases h
theorem loadTX_sound {o:Oper} {t:TypeId} {d0:Nat} {k:Mm→Option β} (ho:o.op = .load t (.tmp d0)) (hK:∀ m',k m' = some r→Kp (toSt ro m')) (h:loadTX (P:=P) ro m t d0 o.dst k = some r) :
  semVC P o (toSt ro m) Kp:=by
 intro n' hd _
 unfold loadTX at h
 split at h
 ·rename_i i sz f u e0 hg
  split at h
  ·rename_i ss _
   split at h
   ·rename_i c l tk e n ag hs hn ha
    obtain ⟨h1,h2⟩:=condS h
    simp only [Bool.and_eq_true] at h1
    obtain ⟨⟨⟨a1,a2⟩,a3⟩,a4⟩:=h1
    have a1':=Nat.eq_of_beq_eq_true a1
    have a2':=Nat.eq_of_beq_eq_true a2
    have a3':=Nat.eq_of_beq_eq_true a3
    subst a1'; subst a3'
    have a4':sizeT P e = some (csz c):=by
     split at a4
     ·rename_i z hz; rw [hz,Nat.eq_of_beq_eq_true a4]
     ·cases a4
    obtain ⟨x,hx,h3⟩:=bind_some h2
    obtain ⟨q1,q2,q3⟩:=idx_spec hx
    have e1:(toSt ro m).env d0 = .ptr (i.toNat * csz c + f):=by show toV (getS ro m d0).1 = _; rw [hg]; simp [toV]
    have e2:(toSt ro m).tok d0 = some (tk + 3000000,e0):=by show (getS ro m d0).2 = _; rw [hg]
    have e3:(toSt ro m).env ss = .list (l.map (enc c)):=by show toV (getS ro m ss).1 = _; rw [hs]; simp [toV]
    have e4:(toSt ro m).tok ss = some (tk,e):=by show (getS ro m ss).2 = _; rw [hs]
    have e5:(l.map (enc c))[i.toNat]? = some (enc c x):=by rw [List.getElem?_map,q3]; rfl
    have hcl:(enc c x).cellsL = toVL (cellsS (refl c x)):=(refl_cells c x).symm
    split at h3
    ·obtain ⟨h4,h5⟩:=condS h3
     obtain ⟨m',p1,p2⟩:=putX_sound h5
     refine opok_loadT ho e1 e2 a2' e3 e4 a4' (rowsOK_lst c l) e5 hn (.inl ⟨ha,?_,rfl⟩) hd ?_
     ·rw [hcl,toVL_length]; exact Nat.le_of_ble_eq_true h4
     ·have:=hK m' p2
      rw [← p1] at this
      rw [hcl]
      simpa only [toV,toVL_seg] using this
    ·split at h3
     ·rename_i y hy
      obtain ⟨m',p1,p2⟩:=putX_sound h3
      refine opok_loadT ho e1 e2 a2' e3 e4 a4' (rowsOK_lst c l) e5 hn (.inr ⟨ha,by rw [hcl,toVL_get,hy]; rfl⟩) hd ?_
      have:=hK m' p2
      rw [← p1] at this
      exact this
     ·cases h3
   ·cases h
  ·cases h
 ·cases h
theorem keepX_V (tk:Nat) {c:C} (l':List (den c)) (x:S × Tk):Wk (pv (keepX tk (.lst c l') x)) (keepS tk (l'.map (enc c)) (pv x)):=by
 obtain ⟨s,tok⟩:=x
 cases tok with
 | none =>
  unfold keepX keepS pv
  simp only
  cases hf:flatS s with
  | true=>rw [if_pos (flatS_V hf)]; exact .inl rfl
  | false=>exact .inr (.inr (by simp [toV]))
 | some te =>
  obtain ⟨t,e⟩:=te
  unfold keepX keepS pv
  simp only
  by_cases h1:t = tk
  ·subst h1
   simp only [Nat.beq_refl,cond_true,if_true]
   exact .inl (by simp [toV])
  ·have:Nat.beq t tk = false:=beqF h1
   rw [this,if_neg h1]
   simp only [cond_false]
   by_cases h2:tcl t = 2
   ·rw [if_pos h2,h2]; exact .inl rfl
   ·have:Nat.beq (tcl t) 2 = false:=beqF h2
    rw [this,if_neg h2]
    simp only [cond_false]
    cases hf:flatS s with
    | true=>rw [if_pos (flatS_V hf)]; exact .inl rfl
    | false =>
     simp only [cond_false]
     by_cases h4:tcl t = 0
     ·rw [h4]
      simp only [Nat.beq_refl,cond_true]
      cases s with
      | lst c' l2 =>
       simp only
       cases hcf:codeFlat c' with
       | false=>exact .inr (.inr (by simp [toV]))
       | true =>
        have htv:toV (S.lst c' l2) = .list (l2.map (enc c')):=by simp [toV]
        rw [htv]
        simp only [cond_true]
        have hfl:=codeFlat_lst hcf l2
        by_cases hq:(V.list (l2.map (enc c'))).flat = true
        ·rw [if_pos hq]; exact .inl rfl
        ·rw [if_neg hq,if_pos trivial,if_pos hfl]; exact .inl rfl
      | _=>exact .inr (.inr (by simp [toV]))
     ·have:Nat.beq (tcl t) 0 = false:=beqF h4
      rw [this]
      exact .inr (.inr (by simp [toV]))
theorem rowPutX_V {c:C} {x x':den c} {f n:Nat} {y:S} (hy:cszS y = some n) (h:rowPutX c x f n y = some x') :
  enc c x' = rowPut (enc c x) f n (toV y)∧(Go.Eng.isAgg (enc c x) = true ∨ (Go.Eng.isAgg (enc c x) = false∧Go.Eng.isAgg (toV y) = false∧f = 0∧n = 1)):=by
 unfold rowPutX at h
 have he:=refl_enc c x
 split at h
 ·rename_i cs hc
  rw [hc] at he
  simp only [toV] at he
  rw [← he,← unrefl_enc h]
  refine ⟨?_,.inl rfl⟩
  simp only [toV,rowPut,toVL_append,toVL_take,toVL_drop,cellsS_V hy]
 ·rename_i hne
  obtain ⟨h1,h2⟩:=condS h
  simp only [Bool.and_eq_true] at h1
  have a1:=Nat.eq_of_beq_eq_true h1.1
  have a2:=Nat.eq_of_beq_eq_true h1.2
  split at h2
  ·cases h2
  ·rename_i hny
   have hag:Go.Eng.isAgg (enc c x) = false:=by
    rw [← he]
    cases hr:refl c x with
    | agg cs=>exact absurd hr (hne cs)
    | gel g o=>simp only [toV]; split <;> rfl
    | ivd x=>simp only [toV]; cases x <;> rfl
    | _=>rfl
   have hagy:Go.Eng.isAgg (toV y) = false:=by
    cases y with
    | agg cs=>exact absurd rfl (hny cs)
    | gel g o=>simp only [toV]; split <;> rfl
    | ivd x=>simp only [toV]; cases x <;> rfl
    | _=>rfl
   refine ⟨?_,.inr ⟨hag,hagy,a1,a2⟩⟩
   rw [← unrefl_enc h2]
   cases hq:enc c x <;> rw [hq] at hag <;> first | rfl | (simp [Go.Eng.isAgg] at hag)
theorem storeTX_sound {mu:Bool} (hro:ROok mu ro) {o:Oper} {t:TypeId} {d0:Nat} {y:Operand} {k:Mm→Option β} (ho:o.op = .store t (.tmp d0) y) (hK:∀ m',k m' = some r→Kp (toSt ro m')) (h:storeTX (P:=P) ro m t d0 (evalX ro m y) o.dst k = some r) :
  semVC P o (toSt ro m) Kp:=by
 intro n' hd _
 unfold storeTX at h
 split at h
 ·rename_i i sz f u e0 hg hdst
  split at h
  ·rename_i ss _
   split at h
   ·rename_i c l tk e n n2 hs hn hy
    obtain ⟨h1,h2⟩:=condS h
    simp only [Bool.and_eq_true] at h1
    obtain ⟨⟨⟨⟨⟨⟨⟨⟨⟨a1,a2⟩,a3⟩,a4⟩,a5⟩,a6⟩,a7⟩,a8⟩,a9⟩,a10⟩:=h1
    have a1':=Nat.eq_of_beq_eq_true a1
    have a2':=Nat.eq_of_beq_eq_true a2
    have a3':=Nat.eq_of_beq_eq_true a3
    have a5':=Nat.eq_of_beq_eq_true a5
    have a6':=Nat.le_of_ble_eq_true a6
    subst a1'; subst a3'; subst a5'
    have a4':sizeT P e = some (csz c):=by
     split at a4
     ·rename_i z hz; rw [hz,Nat.eq_of_beq_eq_true a4]
     ·cases a4
    obtain ⟨x,hx,h3⟩:=bind_some h2
    obtain ⟨q1,q2,q3⟩:=idx_spec hx
    split at h3
    case h_2=>cases h3
    rename_i x' hx'
    obtain ⟨p1,p2⟩:=rowPutX_V hy hx'
    have e1:(toSt ro m).env d0 = .ptr (i.toNat * csz c + f):=by show toV (getS ro m d0).1 = _; rw [hg]; simp [toV]
    have e2:(toSt ro m).tok d0 = some (tk + 3000000,e0):=by show (getS ro m d0).2 = _; rw [hg]
    have e3:(toSt ro m).env ss = .list (l.map (enc c)):=by show toV (getS ro m ss).1 = _; rw [hs]; simp [toV]
    have e4:(toSt ro m).tok ss = some (tk,e):=by show (getS ro m ss).2 = _; rw [hs]
    have e5:(l.map (enc c))[i.toNat]? = some (enc c x):=by rw [List.getElem?_map,q3]; rfl
    have hbf:∀ j B,(toSt ro m).box j = some B→V.flatL B.cells = true:=by
     intro j B hB
     change (getB ro m j).map toBox = some B at hB
     cases hq:getB ro m j with
     | none=>rw [hq] at hB; cases hB
     | some B' =>
      rw [hq] at hB
      cases hB
      refine flatB_V ?_
      unfold getB at hq
      cases hw:ro.ownB j with
      | false=>rw [hw] at hq; exact hro.boxes a9 j B' hw hq
      | true =>
       rw [hw] at hq
       simp only [cond_true] at hq
       cases hq2:m.bx[j]? with
       | none=>rw [hq2] at hq; cases hq
       | some ob =>
        rw [hq2] at hq
        simp only [Option.getD_some] at hq
        subst hq
        exact List.all_eq_true.1 a10 _ (List.mem_of_getElem? hq2)
    have main:=opok_storeT (P:=P) (n':=n') (K:=fun st'=>st' = (toSt ro m).changed tk ((l.map (enc c)).set i.toNat (rowPut (enc c x) f n2 (toV (evalX ro m y))))) ho e1 e2 a2' e3 e4 a4' (rowsOK_lst c l) (codeFlat_lst a8 l) e5 hn
     (evalX_V ro m y).symm (cszS_V hy) (flatS_V a7) a6' p2 hbf hdst rfl
    refine opok_weak main fun st' hst'=>?_
    subst hst'
    refine ⟨(toSt ro ⟨m.sl.mapV (keepX tk (.lst c (setI l i x'))),m.bx⟩).sl,fun s=>?_,?_⟩
    ·have hrows:(l.map (enc c)).set i.toNat (rowPut (enc c x) f n2 (toV (evalX ro m y))) = (setI l i x').map (enc c):=by
      unfold setI
      rw [List.map_set,p1]
     rw [hrows]
     show Wk (pv (getS ro ⟨m.sl.mapV (keepX tk (.lst c (setI l i x'))),m.bx⟩ s)) (keepS tk _ (pv (getS ro m s)))
     unfold getS
     cases hw:ro.own s with
     | true =>
      simp only [cond_true]
      rw [T.get_mapV]
      cases m.sl.get s with
      | none =>
       simp only [Option.map_none,Option.getD_none]
       exact .inl (by simp [pv,keepS,toV,V.flat])
      | some z =>
       simp only [Option.map_some,Option.getD_some]
       exact keepX_V tk _ z
     | false =>
      simp only [cond_false]
      rcases keepS_cases tk ((setI l i x').map (enc c)) (pv (ro.sl s)) with ⟨e7,q7,_⟩ | q7 | ⟨q7,_⟩
      ·exfalso
       have:=hro.tok s tk e7 q7
       omega
      ·have hfl:=hro.flat a9 s hw
       have htk:=hro.tok s
       revert q7 hfl htk
       generalize ro.sl s = z
       intro q7 hfl htk
       obtain ⟨zs,zt⟩:=z
       cases zt with
       | none =>
        rcases hfl with hfl | hfl
        ·exact absurd rfl hfl
        ·have hfz:=flatS_V hfl
         have:keepS tk ((setI l i x').map (enc c)) (pv (zs,none)) = pv (zs,none):=by simp [pv,keepS,hfz]
         rw [this]; exact .inl rfl
       | some te =>
        obtain ⟨t7,e7⟩:=te
        have h2:=htk t7 e7 rfl
        have hne:t7 ≠ tk:=fun e=>by subst e; omega
        have:keepS tk ((setI l i x').map (enc c)) (pv (zs,some (t7,e7))) = pv (zs,some (t7,e7)):=by simp [pv,keepS,hne,h2]
        rw [this]; exact .inl rfl
      ·rw [q7]; exact .inl rfl
    ·have:=hK _ h3
     exact this
   ·cases h
  ·cases h
 ·cases h
theorem makeTX_sound {mu:Bool} (hro:ROok mu ro) {o:Oper} {t:TypeId} {xl xc:Operand} {k:Mm→Option β} (ho:o.op = .makeSlice t xl xc) (hK:∀ m',k m' = some r→Kp (toSt ro m')) (h:makeTX X ro m t (evalX ro m xl) (evalX ro m xc) o.dst k = some r) :
  semVC P o (toSt ro m) Kp:=by
 intro n' hd _
 unfold makeTX at h
 split at h
 ·rename_i kl l kc n e hl hc he
  split at h
  ·rename_i c sz by' zv hcd hsz hby hz
   split at h
   ·rename_i z zn hz1 hz2
    obtain ⟨h1,h2⟩:=condS h
    simp only [Bool.and_eq_true] at h1
    have a1:=Nat.eq_of_beq_eq_true h1.1.1
    have a2:=Nat.eq_of_beq_eq_true h1.1.2
    have a3:=Nat.eq_of_beq_eq_true h1.2
    subst a1
    obtain ⟨q,hq,h3⟩:=bind_some h2
    obtain ⟨hq1,hq2⟩:=iteS hq
    cases hq2
    obtain ⟨m',p1,p2⟩:=putX_sound h3
    refine opok_makeSlice (tk:=o.dst.getD 0) (kl:=kl) (kc:=kc) ho (by rw [← evalX_V,hl]; simp only [toV]) (by rw [← evalX_V,hc]; simp only [toV]) (sliceT_spec he) hsz hby (zeroX_V hz) (cszS_V hz2) hq1.1 hq1.2.1 hq1.2.2.1 hq1.2.2.2 a3 hd ?_
    have:=hK m' p2
    rw [← p1,toSt_clear hro (by omega)] at this
    simpa [toV,unrefl_enc hz1] using this
   ·cases h
  ·cases h
 ·cases h
theorem both_spec {γ:Type} {A B:Option γ} {r:γ} (h:both A B = some r):A = some r∧B = some r:=by
 unfold both at h
 split at h
 ·rename_i he
  exact ⟨he.trans h,h⟩
 ·cases h
theorem nilq_spec {α γ:Type} {l:List α} {A B:Option γ} {r:γ} (h:nilq l A B = some r):B = some r∧(l = []→A = some r):=by
 unfold nilq at h
 split at h
 ·exact ⟨(both_spec h).2,fun _=>(both_spec h).1⟩
 ·exact ⟨h,fun he=>by cases he⟩
theorem eqnilX_sound {o:Oper} {op:BinOp} {t u:TypeId} {x:Operand} {k:Mm→Option β} (ho:o.op = .binOp op t x (.const (.slice none 0 0)) u) (hK:∀ m',k m' = some r→Kp (toSt ro m'))
  (h:eqnilX (P:=P) ro m op t (evalX ro m x) o.dst k = some (some r)):semVC P o (toSt ro m) Kp:=by
 intro n' hd _
 unfold eqnilX at h
 split at h
 ·rename_i c l e hx he
  simp only [Option.some.injEq] at h
  obtain ⟨h1,h2⟩:=nilq_spec h
  refine opok_eqnil (rows:=l.map (enc c)) ho (.inl ⟨rfl,rfl⟩) (sliceT_spec he) (by rw [← evalX_V,hx]; simp only [toV]) hd fun b hb=>?_
  cases b with
  | false =>
   obtain ⟨m',p1,p2⟩:=putX_sound h1
   rw [show V.bool false = toV (.bool false) from by simp only [toV],p1]
   exact hK m' p2
  | true =>
   have hl:l = []:=by
    apply Classical.byContradiction
    intro hne
    have:=hb (by simpa using hne)
    cases this
   obtain ⟨m',p1,p2⟩:=putX_sound (h2 hl)
   rw [show V.bool true = toV (.bool true) from by simp only [toV],p1]
   exact hK m' p2
 ·rename_i c l e hx he
  simp only [Option.some.injEq] at h
  obtain ⟨h1,h2⟩:=nilq_spec h
  refine opok_eqnil (rows:=l.map (enc c)) ho (.inr ⟨rfl,rfl⟩) (sliceT_spec he) (by rw [← evalX_V,hx]; simp only [toV]) hd fun b hb=>?_
  cases b with
  | true =>
   obtain ⟨m',p1,p2⟩:=putX_sound h1
   rw [show V.bool true = toV (.bool true) from by simp only [toV],p1]
   exact hK m' p2
  | false =>
   have hl:l = []:=by
    apply Classical.byContradiction
    intro hne
    have:=hb (by simpa using hne)
    cases this
   obtain ⟨m',p1,p2⟩:=putX_sound (h2 hl)
   rw [show V.bool false = toV (.bool false) from by simp only [toV],p1]
   exact hK m' p2
 ·cases h
theorem findOwn_spec:∀ {ss:List (XOwn P)} {f:FuncId} {Q:XOwn P},findOwn ss f = some Q→Q.f = f
 | [],_,_,h=>by cases h
 | s :: ss,f,Q,h=>by
  simp only [findOwn] at h
  cases hb:Nat.beq s.f f with
  | true=>rw [hb] at h; cases h; exact Nat.eq_of_beq_eq_true hb
  | false=>rw [hb] at h; exact findOwn_spec h
theorem ownX_sound {mu:Bool} (hro:ROok mu ro) {o:Oper} {Q:XOwn P} {fo:Operand} {args:Array Operand} {tys:Array TypeId} {first cap:List S} {k:Mm→Option β} (ho:o.op = .call { callee:=.value fo,args:=args,argTypes:=tys })
  (hfo:evalX ro m fo = .fn (.func Q.f) first cap) (hK:∀ m',k m' = some r→Kp (toSt ro m')) (h:ownX ro m Q (first++args.toList.map (evalX ro m)++cap) o.dst k = some r):semVC P o (toSt ro m) Kp:=by
 intro n' hd _
 unfold ownX at h
 obtain ⟨h1,h2⟩:=condS h
 simp only [Bool.and_eq_true,List.isEmpty_iff] at h1
 obtain ⟨a1,a2⟩:=h1
 have a2':=Nat.eq_of_beq_eq_true a2
 split at h2
 ·rename_i q hq
  obtain ⟨l,hl,h3⟩:=bind_some h2
  subst hl
  obtain ⟨hgo,hF⟩:=Q.sound _ l hq
  obtain ⟨m',p1,p2⟩:=putX_sound h3
  have ea:toVL first++args.toList.map (toSt ro m).eval++toVL cap = toVL (first++args.toList.map (evalX ro m)++cap):=by rw [toVL_append,toVL_append,evalX_VL]
  refine opok_quiet (fr:=some (0,Q.e)) (tk:=some (o.dst.getD 0,Q.e)) (qv_callO (first:=toVL first) (cap:=toVL cap) ho (by rw [← evalX_V,hfo]; simp only [toV]) hgo (by rw [ea]; exact noLocSL_V _ (noLocSL_of_locs _ a1)) (by rw [ea]; exact hF)) (fun t e he=>by cases he; rw [a2']) hd ?_
  have:=hK m' p2
  rw [← p1,toSt_clear hro (by omega)] at this
  simpa [toV,St.fresh] using this
 ·cases h2
theorem ro_keep {mu:Bool} (hro:ROok mu ro) (hf:ro.fl = true) {tk:Nat} (htk:tcl tk = 0) (rows:List V) {s:Nat} (hw:ro.own s = false):(∀ e,(ro.sl s).2 ≠ some (tk,e))∧Wk (pv (ro.sl s)) (keepS tk rows (pv (ro.sl s))):=by
 have hfl:=hro.flat hf s hw
 have ht:=hro.tok s
 revert hfl ht
 generalize ro.sl s = z
 intro hfl ht
 obtain ⟨zs,zt⟩:=z
 cases zt with
 | none =>
  refine ⟨fun e h=>(by cases h),?_⟩
  rcases hfl with hfl | hfl
  ·exact absurd rfl hfl
  ·have hfz:=flatS_V hfl
   have:keepS tk rows (pv (zs,none)) = pv (zs,none):=by simp [pv,keepS,hfz]
   rw [this]; exact .inl rfl
 | some te =>
  obtain ⟨t7,e7⟩:=te
  have h2:=ht t7 e7 rfl
  have hne:t7 ≠ tk:=fun e=>by subst e; omega
  refine ⟨fun e h=>by cases h; exact hne rfl,?_⟩
  have:keepS tk rows (pv (zs,some (t7,e7))) = pv (zs,some (t7,e7)):=by simp [pv,keepS,hne,h2]
  rw [this]; exact .inl rfl
theorem bxFlat {mu:Bool} (hro:ROok mu ro) (hf:ro.fl = true) (hb:m.bx.all (fun B=>match B with | some B=>flatB B | none=>true) = true):∀ j B,(toSt ro m).box j = some B→V.flatL B.cells = true:=by
 intro j B hB
 change (getB ro m j).map toBox = some B at hB
 cases hq:getB ro m j with
 | none=>rw [hq] at hB; cases hB
 | some B' =>
  rw [hq] at hB
  cases hB
  refine flatB_V ?_
  unfold getB at hq
  cases hw:ro.ownB j with
  | false=>rw [hw] at hq; exact hro.boxes hf j B' hw hq
  | true =>
   rw [hw] at hq
   simp only [cond_true] at hq
   cases hq2:m.bx[j]? with
   | none=>rw [hq2] at hq; cases hq
   | some ob =>
    rw [hq2] at hq
    simp only [Option.getD_some] at hq
    subst hq
    exact List.all_eq_true.1 hb _ (List.mem_of_getElem? hq2)
theorem sortX_sound {mu:Bool} (hro:ROok mu ro) {o:Oper} {Q:XSort P} {ss:Nat} {fo:Operand} {ys:List Operand} {args:Array Operand} {tys:Array TypeId} {k:Mm→Option β} (ho:o.op = .call { callee:=.value fo,args:=args,argTypes:=tys }) (ha:args.toList = .tmp ss :: ys)
  (hfo:evalX ro m fo = .fn (.func Q.f) [] []) (hy:match Q.g with | none=>ys = [] | some g=>∃ y,ys = [y]∧evalX ro m y = .fn (.func g) [] []) (hK:∀ m',k m' = some r→Kp (toSt ro m')) (h:sortX ro m Q ss o.dst k = some r):semVC P o (toSt ro m) Kp:=by
 intro n' hd _
 unfold sortX at h
 split at h
 ·rename_i c l tk e hs
  split at h
  ·rename_i hc
   subst hc
   obtain ⟨h1,h2⟩:=condS h
   simp only [Bool.and_eq_true] at h1
   obtain ⟨⟨⟨a1,a2⟩,a4⟩,a5⟩:=h1
   have a1':tcl tk = 0:=Nat.eq_of_beq_eq_true a1
   have a2':sizeT P e = some (csz Q.c):=by
    split at a2
    ·rename_i z hz; rw [hz,Nat.eq_of_beq_eq_true a2]
    ·cases a2
   obtain ⟨x,hx,h3⟩:=bind_some h2
   unfold srtG at hx
   split at hx
   case isFalse=>cases hx
   rename_i hlt
   simp only [Option.some.injEq] at hx
   subst hx
   have e1:(toSt ro m).env ss = .list (l.map (enc Q.c)):=by show toV (getS ro m ss).1 = _; rw [hs]; simp [toV]
   have e2:(toSt ro m).tok ss = some (tk,e):=by show (getS ro m ss).2 = _; rw [hs]
   have ea:args = (Operand.tmp ss :: ys).toArray:=by obtain ⟨l⟩:=args; simpa using ha
   have ef:(toSt ro m).eval fo = .fn (.func Q.f) [] []:=by rw [← evalX_V,hfo]; simp [toV,toVL]
   have eg:match Q.g with | none=>ys = [] | some g=>∃ y,ys = [y]∧(toSt ro m).eval y = .fn (.func g) [] []:=by
    split at hy
    ·exact hy
    ·obtain ⟨y,h1,h2⟩:=hy
     exact ⟨y,h1,by rw [← evalX_V,h2]; simp [toV,toVL]⟩
   have main:=opok_sort (P:=P) (n':=n') (K:=fun st'=>st' = ((toSt ro m).changed tk ((Q.srt l).map (enc Q.c))).put o.dst (.tup []) none) ho ea ef eg Q.go e1 e2 a1' a2' (rowsOK_lst Q.c l) (bxFlat hro a4 a5) Q.sound hlt hd rfl
   refine opok_weak main fun st' hst'=>?_
   subst hst'
   obtain ⟨m',q1,q2⟩:=putX_sound h3
   have hp:=hK m' q2
   rw [← q1] at hp
   have htup:toV (S.tup []) = .tup []:=by simp [toV,toVL]
   rw [htup] at hp
   have hwk:∀ s,Wk ((toSt ro ⟨m.sl.mapV (keepX tk (.lst Q.c (Q.srt l))),m.bx⟩).sl s) (((toSt ro m).changed tk ((Q.srt l).map (enc Q.c))).sl s):=by
    intro s
    show Wk (pv (getS ro _ s)) (keepS tk _ (pv (getS ro m s)))
    unfold getS
    cases hw:ro.own s with
    | true =>
     simp only [cond_true]
     rw [T.get_mapV]
     cases m.sl.get s with
     | none =>
      simp only [Option.map_none,Option.getD_none]
      exact .inl (by simp [pv,keepS,toV,V.flat])
     | some z =>
      simp only [Option.map_some,Option.getD_some]
      exact keepX_V tk _ z
    | false =>
     simp only [cond_false]
     exact (ro_keep hro a4 a1' ((Q.srt l).map (enc Q.c)) hw).2
   generalize hm2:(⟨m.sl.mapV (keepX tk (.lst Q.c (Q.srt l))),m.bx⟩:Mm) = m2 at hp hwk
   have hnb:m2.bx = m.bx:=by rw [← hm2]
   refine ⟨((toSt ro m2).put o.dst (.tup []) none).sl,fun s=>?_,?_⟩
   ·cases hdst:o.dst with
    | none=>exact hwk s
    | some d =>
     show Wk (if s = d then _ else _) (if s = d then _ else _)
     by_cases hsd:s = d
     ·rw [if_pos hsd,if_pos hsd]; exact .inl rfl
     ·rw [if_neg hsd,if_neg hsd]; exact hwk s
   ·refine (congrArg Kp ?_).mp hp
    have hb:(toSt ro m2).box = (toSt ro m).box:=by
     funext i
     show (getB ro m2 i).map toBox = (getB ro m i).map toBox
     unfold getB
     rw [hnb]
    have hn:(toSt ro m2).nb = (toSt ro m).nb:=by show m2.bx.length = m.bx.length; rw [hnb]
    cases hdst:o.dst with
    | none =>
     show toSt ro m2 = ⟨(toSt ro m).nb,(toSt ro m2).sl,(toSt ro m).box⟩
     rw [← hb,← hn]
    | some d =>
     show (toSt ro m2).put (some d) (.tup []) none = ⟨(toSt ro m).nb,((toSt ro m2).put (some d) (.tup []) none).sl,(toSt ro m).box⟩
     rw [← hb,← hn]
     rfl
  ·cases h
 ·cases h
theorem findMut_spec:∀ {ss:List (XMut P)} {f:FuncId} {Q:XMut P},findMut ss f = some Q→Q.f = f
 | [],_,_,h=>by cases h
 | s :: ss,f,Q,h=>by
  simp only [findMut] at h
  cases hb:Nat.beq s.f f with
  | true=>rw [hb] at h; cases h; exact Nat.eq_of_beq_eq_true hb
  | false=>rw [hb] at h; exact findMut_spec h
theorem dropX_V (tk:Nat) (x:S × Tk):Wk (pv (dropX tk x)) (dropS tk (pv x)):=by
 obtain ⟨s,t⟩:=x
 have hk:=keepX_V tk ([]:List (den .i64)) (s,t)
 unfold dropX dropS
 cases t with
 | none=>exact hk
 | some te =>
  obtain ⟨t,e⟩:=te
  simp only [pv] at hk ⊢
  by_cases h:t = tk
  ·subst h
   simp only [Nat.beq_refl,cond_true,if_true]
   exact .inl (by simp [toV])
  ·have:Nat.beq t tk = false:=by
    cases hq:Nat.beq t tk with
    | true=>exact absurd (Nat.eq_of_beq_eq_true hq) h
    | false=>rfl
   rw [this]
   simp only [cond_false,if_neg h]
   exact hk
theorem toVL_set:∀ (l:List S) (i:Nat) (x:S),toVL (l.set i x) = (toVL l).set i (toV x)
 | [],i,x=>by simp [toVL]
 | y :: l,0,x=>by simp [toVL]
 | y :: l,i + 1,x=>by simp [toVL,toVL_set l i x]
theorem dropped_weak {mu:Bool} (hro:ROok mu ro) (a4:ro.fl = true) {tk:Nat} (a1':tcl tk = 0):∀ s,Wk ((toSt ro ⟨m.sl.mapV (dropX tk),m.bx⟩).sl s) (((toSt ro m).dropped tk).sl s):=by
 intro s
 show Wk (pv (getS ro _ s)) (dropS tk (pv (getS ro m s)))
 unfold getS
 cases hw:ro.own s with
 | true =>
  simp only [cond_true]
  rw [T.get_mapV]
  cases m.sl.get s with
  | none =>
   simp only [Option.map_none,Option.getD_none]
   exact .inl (by simp [pv,dropS,keepS,toV,V.flat])
  | some z =>
   simp only [Option.map_some,Option.getD_some]
   exact dropX_V tk z
 | false =>
  simp only [cond_false]
  obtain ⟨k1,k2⟩:=ro_keep hro a4 a1' [] hw
  have:dropS tk (pv (ro.sl s)) = keepS tk [] (pv (ro.sl s)):=by
   unfold dropS
   split
   ·rename_i t e' he
    rw [if_neg]
    rintro rfl
    exact k1 e' he
   ·rfl
  rw [this]
  exact k2
theorem mutX_sound {mu:Bool} (hro:ROok mu ro) {o:Oper} {Q:XMut P} {fo:Operand} {args:Array Operand} {tys:Array TypeId} {cap:List S} {k:Mm→Option β} (ho:o.op = .call { callee:=.value fo,args:=args,argTypes:=tys })
  (hfo:evalX ro m fo = .fn (.func Q.f) [] cap) (hK:∀ m',k m' = some r→Kp (toSt ro m')) (h:mutX ro m Q args.toList cap o.dst k = some r):semVC P o (toSt ro m) Kp:=by
 intro n' hd _
 unfold mutX at h
 split at h
 case h_2=>cases h
 rename_i ss hp
 split at h
 case h_2=>cases h
 rename_i c l tk e hs
 obtain ⟨h1,h2⟩:=condS h
 simp only [Bool.and_eq_true] at h1
 obtain ⟨⟨⟨⟨⟨⟨a1,a2⟩,a3⟩,a4⟩,a5⟩,a6⟩,a7⟩:=h1
 have a1':tcl tk = 0:=Nat.eq_of_beq_eq_true a1
 have a2':e = Q.e:=Nat.eq_of_beq_eq_true a2
 have a3':tcl (o.dst.getD 0) = 0:=Nat.eq_of_beq_eq_true a3
 subst a2'
 split at h2
 case h_2=>cases h2
 rename_i ins hins
 split at h2
 case h_2=>cases h2
 rename_i q hq
 subst h2
 obtain ⟨lr,outs,hk,hgo,hF,hno,hlen⟩:=Q.sound _ _ _ _ hq
 obtain ⟨b1,b2⟩:=boxesX_sound hins
 generalize hA:mutArgs ro m tk args.toList Q.p (.lst c l) cap = A at hins hq hk hF b1 b2
 obtain ⟨d1,_,d3,_⟩:=dedup_spec (locsSL A) [] (by simp)
 obtain ⟨l1,l2⟩:=boxesOK_spec b1
 have hlen':(dedup (locsSL A) []).length = outs.length:=by rw [l1,hlen]; simp
 obtain ⟨m',p1,p2⟩:=putX_sound hk
 have hKm:=hK m' p2
 have hwk:∀ s,Wk ((toSt ro ⟨m.sl.mapV (dropX tk),m.bx⟩).sl s) (((toSt ro m).dropped tk).sl s):=by
  intro s
  show Wk (pv (getS ro _ s)) (dropS tk (pv (getS ro m s)))
  unfold getS
  cases hw:ro.own s with
  | true =>
   simp only [cond_true]
   rw [T.get_mapV]
   cases m.sl.get s with
   | none =>
    simp only [Option.map_none,Option.getD_none]
    exact .inl (by simp [pv,dropS,keepS,toV,V.flat])
   | some z =>
    simp only [Option.map_some,Option.getD_some]
    exact dropX_V tk z
  | false =>
   simp only [cond_false]
   obtain ⟨k1,k2⟩:=ro_keep hro a4 a1' [] hw
   have:dropS tk (pv (ro.sl s)) = keepS tk [] (pv (ro.sl s)):=by
    unfold dropS
    split
    ·rename_i t e' he
     rw [if_neg]
     rintro rfl
     exact k1 e' he
    ·rfl
   rw [this]
   exact k2
 have hst1:toSt ro ⟨m.sl.mapV (dropX tk),m.bx⟩ = ⟨(toSt ro m).nb,(toSt ro ⟨m.sl.mapV (dropX tk),m.bx⟩).sl,(toSt ro m).box⟩:=rfl
 refine opok_callM (st:=toSt ro m) (tk:=tk) (ss:=ss) (rows:=l.map (enc c)) (cap:=toVL cap) (st1:=toSt ro ⟨m.sl.mapV (dropX tk),m.bx⟩) (π:=dedup (locsSL A) []) (args':=toVL (renSL (indexN (dedup (locsSL A) [])) A)) (ins:=ins.map toBox) (outs:=outs.map toBox) (tn:=o.dst.getD 0)
  ho (by rw [← evalX_V,hfo]; simp [toV,toVL]) hd hgo hp (by show toV (getS ro m ss).1 = _; rw [hs]; simp only [toV]) (by show (getS ro m ss).2 = _; rw [hs]) a1' (bxFlat hro a4 a5) a3' (fun h=>by rw [hst1]; exact SRel.weak h hwk) ?_ (fun _=>rfl) d1 (toSt_box_len a7) ?_ b1 (by simp [hlen]) ?_ ?_ (flatSL_V a6) hF ?_
 ·intro s t e' hq
  rcases hwk s with w1 | w1 | w1
  ·show (((toSt ro m).dropped tk).sl s).2 = _
   rw [← w1]; exact hq
  ·have:((toSt ro ⟨m.sl.mapV (dropX tk),m.bx⟩).sl s).2 = some (t,e'):=hq
   rw [w1] at this; cases this
  ·have:((toSt ro ⟨m.sl.mapV (dropX tk),m.bx⟩).sl s).2 = some (t,e'):=hq
   rw [w1] at this; cases this
 ·rw [ren_toVL]
  ·rw [← hA]
   unfold mutArgs
   rw [toVL_append]
   congr 1
   rw [toVL_set,evalX_VL]
   simp only [toV]
  ·intro i hi
   have:=indexN_get _ i (d3 i hi)
   simp [List.getD,this]
 ·intro B hB
  obtain ⟨B',hB',rfl⟩:=List.mem_map.1 hB
  exact noLocB_V (hno B' hB')
 ·simp only [V.noLoc]; exact noLocL_map' (enc_noLoc Q.c) lr
 ·rw [← p1] at hKm
  have e1:=toSt_clear (ro:=ro) (m:=⟨m.sl.mapV (dropX tk),setBs m.bx (dedup (locsSL A) []) outs⟩) hro (t:=o.dst.getD 0) (by omega)
  rw [e1,setBs_sound hlen' b2] at hKm
  simpa [toV] using hKm
theorem cutX_sound {mu:Bool} (hro:ROok mu ro) {o:Oper} {t:TypeId} {ss:Nat} {y:Operand} {k:Mm→Option β} (ho:o.op = .slice t (.tmp ss) none (some y) none) (hK:∀ m',k m' = some r→Kp (toSt ro m')) (h:cutX (P:=P) ro m t ss (evalX ro m y) o.dst k = some r) :
  semVC P o (toSt ro m) Kp:=by
 intro n' hd _
 unfold cutX at h
 split at h
 case h_2=>cases h
 rename_i c l tk e ky i hs hy
 split at h
 case h_2=>cases h
 rename_i e' sz he
 obtain ⟨h1,h2⟩:=condS h
 simp only [Bool.and_eq_true] at h1
 obtain ⟨⟨⟨⟨⟨a1,a2⟩,a3⟩,a4⟩,a5⟩,a6⟩:=h1
 have a1':=Nat.eq_of_beq_eq_true a1
 have a2':tcl tk = 0:=Nat.eq_of_beq_eq_true a2
 have a4':tcl (o.dst.getD 0) = 0:=Nat.eq_of_beq_eq_true a4
 subst a1'
 obtain ⟨e1,e2,rfl⟩:=elemC_spec he
 obtain ⟨q,hq,h3⟩:=bind_some h2
 obtain ⟨⟨_,q1,q2⟩,rfl⟩:=slc_spec hq
 obtain ⟨m',p1,p2⟩:=putX_sound h3
 have hKm:=hK m' p2
 have hwk:=dropped_weak (m:=m) hro a5 a2'
 have hst1:toSt ro ⟨m.sl.mapV (dropX tk),m.bx⟩ = ⟨(toSt ro m).nb,(toSt ro ⟨m.sl.mapV (dropX tk),m.bx⟩).sl,(toSt ro m).box⟩:=rfl
 refine opok_cut (st:=toSt ro m) (tk:=tk) (ss:=ss) (rows:=l.map (enc c)) (st1:=toSt ro ⟨m.sl.mapV (dropX tk),m.bx⟩) (tn:=o.dst.getD 0) (k:=ky) (i:=i) ho (by show toV (getS ro m ss).1 = _; rw [hs]; simp only [toV]) (by show (getS ro m ss).2 = _; rw [hs]) a2'
  (by rw [← evalX_V,hy]; simp only [toV]) (sliceT_spec e1) e2 (rowsOK_lst c l) (codeFlat_lst a3 l) q1 (by rw [List.length_map]; exact q2) (bxFlat hro a5 a6) a4' (fun h=>by rw [hst1]; exact SRel.weak h hwk) ?_ (fun _=>rfl) hd ?_
 ·intro s t' e' hq'
  rcases hwk s with w1 | w1 | w1
  ·show (((toSt ro m).dropped tk).sl s).2 = _
   rw [← w1]; exact hq'
  ·have:((toSt ro ⟨m.sl.mapV (dropX tk),m.bx⟩).sl s).2 = some (t',e'):=hq'
   rw [w1] at this; cases this
  ·have:((toSt ro ⟨m.sl.mapV (dropX tk),m.bx⟩).sl s).2 = some (t',e'):=hq'
   rw [w1] at this; cases this
 ·rw [← p1] at hKm
  have e3:=toSt_clear (ro:=ro) (m:=⟨m.sl.mapV (dropX tk),m.bx⟩) hro (t:=o.dst.getD 0) (by omega)
  rw [e3] at hKm
  have h0:(0:Int).toNat = 0:=rfl
  simpa [toV,List.map_take,h0] using hKm
theorem markX_sound {mu:Bool} (hro:ROok mu ro) {o:Oper} {s t:TypeId} {ss:Nat} {k:Mm→Option β} (ho:o.op = .convert s t (.tmp ss)) (hK:∀ m',k m' = some r→Kp (toSt ro m')) (h:markX (P:=P) ro m s t ss o.dst k = some (some r)) :
  semVC P o (toSt ro m) Kp:=by
 intro n' hd _
 unfold markX at h
 split at h
 case h_2=>cases h
 rename_i l0 tk e hs
 have a02:=(condS h).1
 have hh:=(condS h).2
 clear h
 simp only [Bool.and_eq_true] at a02
 obtain ⟨a2,a0⟩:=a02
 split at hh
 case h_2=>cases hh
 rename_i x l
 simp only [Option.some.injEq] at hh
 split at hh
 case h_2=>cases hh
 rename_i e' sz he hbt
 obtain ⟨h1,h2⟩:=condS hh
 simp only [Bool.and_eq_true] at h1
 obtain ⟨⟨a1,a5⟩,a6⟩:=h1
 have a0':=Nat.eq_of_beq_eq_true a0
 have a1':=Nat.eq_of_beq_eq_true a1
 have a2':tcl tk = 0:=Nat.eq_of_beq_eq_true a2
 subst a0'
 subst a1'
 obtain ⟨e1,e2,rfl⟩:=elemC_spec he
 obtain ⟨m',p1,p2⟩:=putX_sound h2
 have hKm:=hK m' p2
 have hwk:=dropped_weak (m:=m) hro a5 a2'
 have hst1:toSt ro ⟨m.sl.mapV (dropX tk),m.bx⟩ = ⟨(toSt ro m).nb,(toSt ro ⟨m.sl.mapV (dropX tk),m.bx⟩).sl,(toSt ro m).box⟩:=rfl
 refine opok_mark (st:=toSt ro m) (tk:=tk) (ss:=ss) (rows:=(x :: l).map (enc .u8)) (st1:=toSt ro ⟨m.sl.mapV (dropX tk),m.bx⟩) ho (by show toV (getS ro m ss).1 = _; rw [hs]; simp only [toV]) (by show (getS ro m ss).2 = _; rw [hs]) a2'
  (sliceT_spec e1) (basicT_int hbt) e2 (rowsOK_lst .u8 (x :: l)) (codeFlat_lst (by rfl) (x :: l)) (by simp) (bxFlat hro a5 a6) (fun h=>by rw [hst1]; exact SRel.weak h hwk) ?_ (fun _=>rfl) hd ?_
 ·intro s t' e' hq'
  rcases hwk s with w1 | w1 | w1
  ·show (((toSt ro m).dropped tk).sl s).2 = _
   rw [← w1]; exact hq'
  ·have:((toSt ro ⟨m.sl.mapV (dropX tk),m.bx⟩).sl s).2 = some (t',e'):=hq'
   rw [w1] at this; cases this
  ·have:((toSt ro ⟨m.sl.mapV (dropX tk),m.bx⟩).sl s).2 = some (t',e'):=hq'
   rw [w1] at this; cases this
 ·rw [← p1] at hKm
  simpa only [toV] using hKm
theorem appOneX_sound {mu:Bool} (hro:ROok mu ro) {o:Oper} {ss:Nat} {x:Operand} {t u:TypeId} {k:Mm→Option β} (ho:o.op = .call { callee:=.builtin .append,args:=#[.tmp ss,x],argTypes:=#[t,u] }) (hK:∀ m',k m' = some r→Kp (toSt ro m'))
  (h:appOneX (P:=P) ro m ss (evalX ro m x) t u o.dst k = some r):semVC P o (toSt ro m) Kp:=by
 intro n' hd _
 unfold appOneX at h
 split at h
 case h_2=>cases h
 rename_i c l tk e e' c' y l2 hg ht hx
 split at h
 case h_2=>cases h
 rename_i sz by' zv hs hb hz
 split at h
 case h_2=>cases h
 rename_i zn hzn
 obtain ⟨h1,h2⟩:=condS h
 simp only [Bool.and_eq_true,Bool.not_eq_true'] at h1
 obtain ⟨⟨⟨⟨⟨⟨a1,a0⟩,a2⟩,a3⟩,a4⟩,a5⟩,a6⟩:=h1
 have a0':=bltS a0
 have a1':=Nat.eq_of_beq_eq_true a1
 have a3':=Nat.eq_of_beq_eq_true a3
 have a4':=Nat.eq_of_beq_eq_true a4
 have a6':tcl (o.dst.getD 0) = 0:=Nat.eq_of_beq_eq_true a6
 subst a1'
 subst a3'
 split at h2
 case isFalse=>cases h2
 rename_i hc
 subst hc
 obtain ⟨q,q1,q2⟩:=bind_some h2
 obtain ⟨q3,rfl⟩:=app_spec q1
 obtain ⟨m',e1,hk⟩:=putX_sound q2
 have hKm:=hK m' hk
 have hb0:by' ≠ 0:=fun e=>by subst e; cases a5
 have henv:(toSt ro m).env ss = .list (l.map (enc c')):=by show toV (getS ro m ss).1 = _; rw [hg]; simp [toV]
 have htok:(toSt ro m).tok ss = some (tk,e):=by show (getS ro m ss).2 = _; rw [hg]
 have hlen:((l.map (enc c')).length + ((y :: l2).map (enc c')).length) * by' ≤ 140737488355328:=by simpa using q3
 have hmax:(l.map (enc c')).length + ((y :: l2).map (enc c')).length ≤ maxLen:=by
  have:((l.map (enc c')).length + ((y :: l2).map (enc c')).length) * 1 ≤ ((l.map (enc c')).length + ((y :: l2).map (enc c')).length) * by':=Nat.mul_le_mul_left _ (Nat.one_le_iff_ne_zero.2 hb0)
  simp only [maxLen]; omega
 refine opok_append_one (st:=toSt ro m) (tk:=tk) (ss:=ss) (rows:=l.map (enc c')) (rows2:=(y :: l2).map (enc c')) (tn:=o.dst.getD 0) ho henv htok a0' (sliceT_spec ht) a2 hs hb (zeroX_V hz) (cszS_V hzn) (by rw [← a4']; exact rowsOK_lst c' l)
  (fun w pr lam xv hxv=>Src.list (by rw [← evalX_V,hx] at hxv; simpa [toV] using hxv) (by rw [← a4']; exact rowsOK_lst c' (y :: l2))) hlen hmax a6' (by simp) hd ?_
 rw [← e1] at hKm
 have e3:=toSt_clear (ro:=ro) (m:=⟨m.sl.mapV (clrX tk),m.bx⟩) hro (t:=o.dst.getD 0) (by omega)
 have e4:=toSt_clear (ro:=ro) (m:=m) hro (t:=tk) a0'
 rw [e3,e4] at hKm
 simpa [toV] using hKm
theorem clr2X_sound {mu:Bool} (hro:ROok mu ro) {o2 o3:Oper} {k:Mm→Option β} (hK:∀ m',k m' = some r→Kp (toSt ro m')) (h:clr2X (P:=P) ro o2 o3 m k = some r):clr2VC P o2 o3 (toSt ro m) Kp:=by
 unfold clr2X at h
 split at h
 case h_2=>cases h
 rename_i c t ss y g2 g3 hd3 hd2 ho2
 obtain ⟨hcl,h⟩:=condS h
 split at h
 case h_2=>cases h
 rename_i cc l tk e ky i hs hy
 split at h
 case h_2=>cases h
 rename_i e' sz zv he hz
 split at h
 case h_2=>cases h
 rename_i z zn hzu hzc
 obtain ⟨h1,h2⟩:=condS h
 simp only [Bool.and_eq_true] at h1
 obtain ⟨⟨⟨⟨⟨a1,a2⟩,a3⟩,a4⟩,a5⟩,a6⟩:=h1
 have a1':=Nat.eq_of_beq_eq_true a1
 have a2':tcl tk = 0:=Nat.eq_of_beq_eq_true a2
 have a3':=Nat.eq_of_beq_eq_true a3
 subst a1' a3'
 obtain ⟨e1,e2,e3⟩:=elemC_spec he
 obtain ⟨q,hq,h3⟩:=bind_some h2
 unfold clrI at hq
 split at hq
 case isFalse=>cases hq
 rename_i hi
 cases hq
 obtain ⟨m',p1,p2⟩:=putX_sound h3
 have hKm:=hK m' p2
 rw [← p1] at hKm
 have hzV:=unrefl_enc hzu
 refine ⟨⟨g2,g3⟩,?_⟩
 have s1:(toSt ro m).env ss = .list (l.map (enc cc)):=by show toV (getS ro m ss).1 = _; rw [hs]; simp only [toV]
 have s2:(toSt ro m).tok ss = some (tk,e):=by show (getS ro m ss).2 = _; rw [hs]
 have s3:(toSt ro m).eval y = .int ky i:=by rw [← evalX_V,hy]; simp only [toV]
 simp only [ho2,hd2,hd3,s1,s2,s3,e2,zeroX_V hz]
 refine ⟨hcl,a2',e1,⟨cszS_V hzc,by rw [hzV]; exact codeFlat_enc a4 z,by rw [e3]; exact rowsOK_lst cc l,codeFlat_lst a4 l,hi.1,by rw [List.length_map]; exact hi.2⟩,bxFlat hro a5 a6,_,fun F a w pr lam hS=>?_,hKm⟩
 have hr:(l.map (enc cc)).take i.toNat++List.replicate ((l.map (enc cc)).length - i.toNat) (toV zv) = (l.take i.toNat++List.replicate (l.length - i.toNat) z).map (enc cc):=by
  rw [hzV]; simp [List.map_take]
 rw [hr] at hS
 have hst1:toSt ro ⟨m.sl.mapV (keepX tk (.lst cc (l.take i.toNat++List.replicate (l.length - i.toNat) z))),m.bx⟩ = ⟨(toSt ro m).nb,(toSt ro ⟨m.sl.mapV (keepX tk (.lst cc (l.take i.toNat++List.replicate (l.length - i.toNat) z))),m.bx⟩).sl,(toSt ro m).box⟩:=rfl
 rw [hst1]
 refine SRel.weak hS fun s=>?_
 show Wk (pv (getS ro _ s)) (keepS tk _ (pv (getS ro m s)))
 unfold getS
 cases hw:ro.own s with
 | true =>
  simp only [cond_true]
  rw [T.get_mapV]
  cases m.sl.get s with
  | none =>
   simp only [Option.map_none,Option.getD_none]
   exact .inl (by simp [pv,keepS,toV,V.flat])
  | some z' =>
   simp only [Option.map_some,Option.getD_some]
   exact keepX_V tk _ z'
 | false =>
  simp only [cond_false]
  exact (ro_keep hro a5 a2' _ hw).2
theorem optB_spec {a b:Option Nat} (h:optB a b = true):a = b:=by
 cases a <;> cases b <;> simp_all [optB]
theorem findSort_spec {f:FuncId} {g:Option FuncId}:∀ {l:List (XSort P)} {Q:XSort P},findSort l f g = some Q→Q.f = f∧Q.g = g
 | [],Q,h=>by cases h
 | s :: l,Q,h=>by
  simp only [findSort] at h
  cases hb:(Nat.beq s.f f && optB s.g g) with
  | true =>
   rw [hb] at h
   simp only [cond_true,Option.some.injEq] at h
   subst h
   simp only [Bool.and_eq_true] at hb
   exact ⟨Nat.eq_of_beq_eq_true hb.1,optB_spec hb.2⟩
  | false=>rw [hb] at h; exact findSort_spec h
theorem isPtr_spec {x:Operand} {d0:Nat} (h:isPtr ro m x = some d0):x = .tmp d0:=by
 unfold isPtr at h
 split at h
 ·split at h
  ·cases h; rfl
  ·cases h
 ·cases h
theorem mdel_spec {α β:Type} [d:DecidableEq α] {kin:α→Bool} {l l':List (α × β)} {k:α} (h:mdel kin l k = some l'):kin k = true∧(∀ e ∈ l,kin e.1 = true)∧l' = adel l k:=by
 unfold mdel at h
 obtain ⟨h1,h2⟩:=condS h
 cases h2
 simp only [Bool.and_eq_true,List.all_eq_true] at h1
 exact ⟨h1.1,h1.2,rfl⟩
theorem mapDelX_sound {o:Oper} {t t2:TypeId} {mx x:Operand} {args:Array Operand} {tys:Array TypeId} {k:Mm→Option β} (ho:o.op = .call { callee:=.builtin .delete,args:=args,argTypes:=tys }) (ha:args.toList = [mx,x]) (ht:tys.toList = [t,t2])
  (hK:∀ m',k m' = some r→Kp (toSt ro m')) (h:mapDelX X ro m t (evalX ro m mx) (evalX ro m x) o.dst k = some r):semVC P o (toSt ro m) Kp:=by
 have ea:args = #[mx,x]:=by obtain ⟨l⟩:=args; simpa using ha
 have et':tys = #[t,t2]:=by obtain ⟨l⟩:=tys; simpa using ht
 subst ea; subst et'
 unfold mapDelX at h
 split at h
 ·rename_i i kt et hm hT hd0
  split at h
  ·rename_i mt kc vc l hB
   split at h
   ·rename_i ag ks d ag' ks' hck hd hkt
    split at h
    ·rename_i kk hk
     obtain ⟨h1,h2⟩:=condS h
     simp only [Bool.and_eq_true] at h1
     obtain ⟨⟨⟨h1,h3⟩,h4⟩,hown⟩:=h1
     have h3:=eq_of_beq h3
     have h4:=ksEq_eq h4
     subst h3; subst h4
     obtain ⟨o',ho',h2⟩:=bind_some h2
     obtain ⟨g1,g2,rfl⟩:=mdel_spec ho'
     have hb:(toSt ro m).box i = some ⟨encM (enc kc) (enc vc) l,1000000000 + mt⟩:=by show (getB ro m i).map toBox = _; rw [hB]; rfl
     have ek:=unrefl_enc hk
     have hdel:=mapDel_enc (ev:=enc vc) (keyEq_dq hd) l kk
     have em:(toSt ro m).eval mx = .mref i:=by rw [← evalX_V,hm]; simp [toV]
     have ex:(toSt ro m).eval x = enc kc kk:=by rw [← evalX_V,ek]
     intro n' _ _
     refine opok_delete (B:=⟨encM (enc kc) (enc vc) l,1000000000 + mt⟩) ho em hb (Nat.le_add_right 1000000000 mt) hT hkt (X.keyed kt h1) (by rw [ex]; exact kinC_ok hck g1) (keysOK_enc _ fun e he=>kinC_ok hck (g2 e he)) hd0 ?_
     have:=hK _ h2
     rw [toSt_setBox hown (getB_lt hB hown)] at this
     dsimp only
     rw [ex,hdel]
     exact this
    ·cases h
   ·cases h
  ·cases h
 ·cases h
theorem mapLenX_sound {o:Oper} {t:TypeId} {mx:Operand} {i:Nat} {args:Array Operand} {tys:Array TypeId} {k:Mm→Option β} (ho:o.op = .call { callee:=.builtin .len,args:=args,argTypes:=tys }) (ha:args.toList = [mx]) (ht:tys.toList = [t]) (hm:evalX ro m mx = .mref i)
  (hK:∀ m',k m' = some r→Kp (toSt ro m')) (h:mapLenX (P:=P) ro m t i o.dst k = some r):semVC P o (toSt ro m) Kp:=by
 have ea:args = #[mx]:=by obtain ⟨l⟩:=args; simpa using ha
 have et':tys = #[t]:=by obtain ⟨l⟩:=tys; simpa using ht
 subst ea; subst et'
 unfold mapLenX at h
 split at h
 ·rename_i p mt kc vc l hT hB
  obtain ⟨kt,et⟩:=p
  have hb:(toSt ro m).box i = some ⟨encM (enc kc) (enc vc) l,1000000000 + mt⟩:=by show (getB ro m i).map toBox = _; rw [hB]; rfl
  have em:(toSt ro m).eval mx = .mref i:=by rw [← evalX_V,hm]; simp [toV]
  obtain ⟨m'',e',h'⟩:=putX_sound h
  intro n' hd _
  have hq:=qv_len_map (P:=P) (o:=o) ho em hb (Nat.le_add_right 1000000000 mt) hT
  refine opok_quiet hq (tk:=none) (fun _ _ h=>by cases h) hd ?_
  have:=hK _ h'
  rw [← e'] at this
  simpa [toV,encM,St.fresh] using this
 ·cases h
theorem semX_sound {mu:Bool} (hro:ROok mu ro) {o:Oper} {k:Mm→Option β} (hK:∀ m',k m' = some r→Kp (toSt ro m')) (h:semX X ro o m k = some (some r)):semVC P o (toSt ro m) Kp:=by
 unfold semX at h
 split at h
 ·rename_i t ss ix ho
  obtain ⟨_,h⟩:=condS h
  simp only [Option.some.injEq] at h
  exact iaddrTX_sound ho hK h
 ·rename_i s x fi ho
  split at h
  ·rename_i d0 hp
   have:=isPtr_spec hp
   subst this
   simp only [Option.some.injEq] at h
   exact faddrTX_sound ho hK h
  ·cases h
 ·rename_i t x ho
  split at h
  ·rename_i d0 hp
   have:=isPtr_spec hp
   subst this
   simp only [Option.some.injEq] at h
   exact loadTX_sound ho hK h
  ·cases h
 ·rename_i t x y ho
  split at h
  ·rename_i d0 hp
   have:=isPtr_spec hp
   subst this
   simp only [Option.some.injEq] at h
   exact storeTX_sound hro ho hK h
  ·cases h
 ·rename_i fo args tys ho
  split at h
  ·rename_i f first cap hfo
   split at h
   ·rename_i Q hQ
    simp only [Option.some.injEq] at h
    obtain rfl:=findOwn_spec hQ
    exact ownX_sound hro ho hfo hK h
   ·split at h
    ·rename_i Q hQ
     simp only [Option.some.injEq] at h
     obtain rfl:=findMut_spec hQ
     exact mutX_sound hro ho hfo hK h
    split at h
    ·rename_i ss ha _
     split at h
     ·rename_i Q hQ
      simp only [Option.some.injEq] at h
      obtain ⟨rfl,hg⟩:=findSort_spec hQ
      exact sortX_sound hro ho ha hfo (by rw [hg]) hK h
     ·cases h
    ·rename_i ss y ha _
     split at h
     ·rename_i g hy
      split at h
      ·rename_i Q hQ
       simp only [Option.some.injEq] at h
       obtain ⟨rfl,hg⟩:=findSort_spec hQ
       exact sortX_sound hro ho ha hfo (by rw [hg]; exact ⟨y,rfl,hy⟩) hK h
      ·cases h
     ·cases h
    ·cases h
  ·cases h
 ·rename_i t ss y ho
  obtain ⟨_,h⟩:=condS h
  simp only [Option.some.injEq] at h
  exact cutX_sound hro ho hK h
 ·rename_i args tys ho
  have hh:=(condS h).2
  clear h
  split at hh
  ·rename_i ss x t u ha ht
   have ea:args = #[.tmp ss,x]:=by obtain ⟨l⟩:=args; simpa using ha
   have et:tys = #[t,u]:=by obtain ⟨l⟩:=tys; simpa using ht
   subst ea; subst et
   simp only [Option.some.injEq] at hh
   exact appOneX_sound hro ho hK hh
  ·cases hh
 ·rename_i s t ss ho
  exact markX_sound hro ho hK h
 ·rename_i t l c ho
  simp only [Option.some.injEq] at h
  exact makeTX_sound hro ho hK h
 ·rename_i op t x u ho
  exact eqnilX_sound ho hK h
 ·rename_i args tys ho
  split at h
  ·rename_i mx x t t2 ha ht
   simp only [Option.some.injEq] at h
   exact mapDelX_sound (X:=X) ho ha ht hK h
  ·cases h
 ·rename_i args tys ho
  split at h
  ·rename_i mx t ha ht
   split at h
   ·rename_i i hm
    simp only [Option.some.injEq] at h
    exact mapLenX_sound ho ha ht hm hK h
   ·cases h
  ·cases h
 ·cases h
theorem mkMapX_sound {t:TypeId} {dst:Option Nat} {k:Mm→Option β} (hK:∀ m',k m' = some r→Kp (toSt ro m')) (h:mkMapX X ro m t dst k = some r):mkMapVC (toSt ro m) t dst Kp:=by
 unfold mkMapX at h
 split at h
 ·split at h
  ·obtain ⟨h3,h4⟩:=newBoxX_sound hK h
   refine ⟨h3,?_⟩
   simp only [toV] at h4
   exact h4
  ·cases h
 ·cases h
theorem cond_spec {α β:Type} [d:DecidableEq α] {kin:α→Bool} {l:List (α × β)} {k:α} {o:Option β} (h:mget kin l k = some o):kin k = true∧(∀ e ∈ l,kin e.1 = true)∧o = aget l k:=by
 unfold mget at h
 obtain ⟨h1,h2⟩:=condS h
 cases h2
 simp only [Bool.and_eq_true,List.all_eq_true] at h1
 exact ⟨h1.1,h1.2,rfl⟩
theorem mput_spec {α β:Type} [d:DecidableEq α] {kin:α→Bool} {l l':List (α × β)} {k:α} {v:β} (h:mput kin l k v = some l'):kin k = true∧(∀ e ∈ l,kin e.1 = true)∧l' = aput l k v:=by
 unfold mput at h
 obtain ⟨h1,h2⟩:=condS h
 cases h2
 simp only [Bool.and_eq_true,List.all_eq_true] at h1
 exact ⟨h1.1,h1.2,rfl⟩
theorem lookupX_sound {t:TypeId} {mx x:S} {ok:Bool} {K:S→Option β} {K2:V→Prop} (hK:∀ s,K s = some r→K2 (toV s)) (h:lookupX X ro m t mx x ok K = some r):lookupVC P t (toSt ro m).box (toV mx) (toV x) ok K2:=by
 unfold lookupX at h
 split at h
 ·rename_i i kt et hT
  split at h
  ·rename_i mt kc vc l hB
   split at h
   ·rename_i ag ks d ag' ks' zv hck hd hkt hz
    split at h
    ·rename_i kk z hk hzv
     obtain ⟨h1,h2⟩:=condS h
     simp only [Bool.and_eq_true] at h1
     obtain ⟨⟨h1,h3⟩,h4⟩:=h1
     have h3:=eq_of_beq h3
     have h4:=ksEq_eq h4
     subst h3; subst h4
     obtain ⟨o,ho,h2⟩:=bind_some h2
     obtain ⟨g1,g2,rfl⟩:=cond_spec ho
     have hb:(toSt ro m).box i = some ⟨encM (enc kc) (enc vc) l,1000000000 + mt⟩:=by show (getB ro m i).map toBox = _; rw [hB]; rfl
     have ek:=unrefl_enc hk
     have ez:=unrefl_enc hzv
     have hget:=mapGet_enc (ev:=enc vc) (keyEq_dq hd) l kk
     simp only [toV,lookupVC,hT,hb,hkt,zeroX_V hz]
     refine ⟨Nat.le_add_right 1000000000 mt,X.keyed kt h1,by rw [ek]; exact kinC_ok hck g1,keysOK_enc _ fun e he=>kinC_ok hck (g2 e he),?_⟩
     have:=hK _ h2
     rw [ek,ez,hget]
     cases hq:aget l kk with
     | none =>
      rw [hq] at this
      cases ok with
      | true=>simpa [toV,toVL,refl_enc] using this
      | false=>simpa [toV,toVL,refl_enc] using this
     | some y =>
      rw [hq] at this
      cases ok with
      | true=>simpa [toV,toVL,refl_enc] using this
      | false=>simpa [toV,toVL,refl_enc] using this
    ·cases h
   ·cases h
  ·cases h
 ·cases h
theorem mapPutX_sound {t:TypeId} {mx x y:S} {dst:Option Nat} {k:Mm→Option β} (hK:∀ m',k m' = some r→Kp (toSt ro m')) (h:mapPutX X ro m t mx x y dst k = some r):mapPutVC P t (toSt ro m) (toV mx) (toV x) (toV y) dst Kp:=by
 unfold mapPutX at h
 split at h
 ·rename_i i kt et hT
  split at h
  ·rename_i mt kc vc l hB
   split at h
   ·rename_i ag ks d ag' ks' hck hd hkt
    split at h
    ·rename_i kk v hk hv
     obtain ⟨h1,h2⟩:=condS h
     simp only [Bool.and_eq_true] at h1
     obtain ⟨⟨⟨h1,h3⟩,h4⟩,hown⟩:=h1
     have h3:=eq_of_beq h3
     have h4:=ksEq_eq h4
     subst h3; subst h4
     obtain ⟨o,ho,h2⟩:=bind_some h2
     obtain ⟨g1,g2,rfl⟩:=mput_spec ho
     have hb:(toSt ro m).box i = some ⟨encM (enc kc) (enc vc) l,1000000000 + mt⟩:=by show (getB ro m i).map toBox = _; rw [hB]; rfl
     have ek:=unrefl_enc hk
     have ev:=unrefl_enc hv
     have hput:=mapPut_enc (ev:=enc vc) (keyEq_dq hd) l kk v
     simp only [toV,mapPutVC,hT,hb,hkt]
     refine ⟨Nat.le_add_right 1000000000 mt,X.keyed kt h1,by rw [ek]; exact kinC_ok hck g1,keysOK_enc _ fun e he=>kinC_ok hck (g2 e he),trivial,?_⟩
     have:=hK _ h2
     rw [toSt_setBox hown (getB_lt hB hown)] at this
     rw [ek,ev,hput]
     exact this
    ·cases h
   ·cases h
  ·cases h
 ·cases h
theorem opX_sound {mu:Bool} (hro:ROok mu ro) {dr:Bool} {o:Oper} {k:Mm→Option β} (hK:∀ m',k m' = some r→Kp (toSt ro m')) (h:opX X ro dr o m k = some r):opVC P dr o (toSt ro m) Kp:=by
 unfold opX at h
 split at h
 ·rename_i q hq
  subst h
  cases dr with
  | true=>cases hq
  | false=>exact .inr ⟨rfl,semX_sound (X:=X) hro hK hq⟩
 left
 split at h
 ·rename_i ho; simp only [opVC0,ho]; rw [← evalX_V]; exact boxX_sound hK h
 ·rename_i e ho
  simp only [opVC0,ho]
  split at h
  ·rename_i v hv; simp only [zeroX_V hv]; exact boxX_sound hK h
  ·cases h
 ·rename_i ho; simp only [opVC0,ho]; rw [← evalX_V,← evalX_V]; exact storeX_sound hK h
 ·rename_i args tys ho
  simp only [opVC0,ho]
  split at h
  ·rename_i ss x t u ha ht; simp only [ha,ht]; rw [← evalX_V]; exact appendX_sound hro hK h
  ·cases h
 ·rename_i f args tys ho
  simp only [opVC0,ho]
  rw [← evalX_V]
  split at h
  ·rename_i g first cap hf
   simp only [hf,toV,callAVC]
   have:=callX_sound (X:=X) (first:=first) (cap:=cap) hK h
   rw [toVL_append,toVL_append,evalX_VL] at this
   exact this
  ·cases h
 ·rename_i ho; simp only [opVC0,ho]; exact mkMapX_sound (X:=X) hK h
 ·rename_i ho; simp only [opVC0,ho]; rw [← evalX_V,← evalX_V,← evalX_V]; exact mapPutX_sound (X:=X) hK h
 ·rename_i t mx x ok ho
  simp only [opVC0,ho,valVC]
  rw [← evalX_V,← evalX_V]
  refine lookupX_sound (X:=X) (K2:=fun v=>tokOK dr o none∧Kp (putV o (toSt ro m) v none)) (fun s hs=>?_) h
  obtain ⟨m',ht,e,hk⟩:=putV'_sound hro hs
  exact ⟨ht,e ▸ hK m' hk⟩
 ·rename_i n1 n2 n3 n4 n5 n6 n7 n8
  have hv:valVC P o (toSt ro m) (fun v tk=>tokOK dr o tk∧Kp (putV o (toSt ro m) v tk)):=valX_sound (K2p:=fun v tk=>tokOK dr o tk∧Kp (putV o (toSt ro m) v tk)) (fun s tk hs=>by
   obtain ⟨m',ht,e,hk⟩:=putV'_sound hro hs
   exact ⟨ht,e ▸ hK m' hk⟩) h
  unfold opVC0
  split
  ·rename_i ho; exact absurd ho (n1 _ _)
  ·rename_i ho; exact absurd ho (n2 _)
  ·rename_i ho; exact absurd ho (n3 _ _ _)
  ·rename_i ho; exact absurd ho (n4 _ _)
  ·rename_i t ho; simp [valX,ho] at h
  ·rename_i t m' x y ho; simp [valX,ho] at h
  ·rename_i ho; exact absurd ho (n5 _ _ _)
  ·exact hv
end
end Go.X
namespace Go.X
open Go.Eng
open Go.RowKit
variable {β:Type}
section
variable {P:Program} {X:XCtx P} {ro:RO} {r:β} {Kp:St→Prop}
theorem refine_eq {m:Mm} {t:Nat} {b:Bool} (h:(getS ro m t).1 = .bool b):toSt ro (refineX ro m (.tmp t) b) = toSt ro m:=by
 unfold refineX
 simp only
 cases ho:ro.own t with
 | false=>rfl
 | true =>
  simp only [cond_true]
  rw [toSt_put ho]
  show (⟨_,upd _ t _,_⟩:St) = toSt ro m
  have:upd (toSt ro m).sl t (toV (S.bool b),(getS ro m t).2) = (toSt ro m).sl:=by
   funext s
   unfold upd
   split
   ·rename_i e; subst e; rw [← h]; rfl
   ·rfl
  rw [this]
theorem refine_eqX {m:Mm} {x:Operand} {b:Bool} (h:evalX ro m x = .bool b):toSt ro (refineX ro m x b) = toSt ro m:=by
 cases x with
 | tmp t=>exact refine_eq h
 | const v=>rfl
 | global g=>rfl
 | func f=>rfl
theorem entX_sound {m:Mm} {dr:Bool} {o:Oper} {os:List Oper} {q:EntQ} {k:Mm→Option β} (hK:∀ m',k m' = some r→Kp (toSt ro m')) (hq:entPat dr o os = some q) (h:entX X ro m q k = some r) :
  dr = true∧∃ o3 o4 o5 o6,os = [o3,o4,o5,o6]∧entVC P o o3 o4 o5 o6 (toSt ro m) Kp:=by
 unfold entPat at hq
 split at hq
 case h_2=>cases hq
 rename_i t s r' h2
 split at hq
 case h_2=>cases hq
 rename_i o3 o4 o5 o6
 split at hq
 case h_2=>cases hq
 rename_i t1 s1 r1 h4
 split at hq
 case h_2=>cases hq
 rename_i op xT a2 c yT h3
 split at hq
 case h_2=>cases hq
 rename_i a4 ix h5
 split at hq
 case h_2=>cases hq
 rename_i t2 s2 a5 a3 h6
 split at hq
 case h_2=>cases hq
 rename_i d2 d3 d4 d5 e2 e3 e4 e5 e6
 obtain ⟨hc,hq⟩:=condS hq
 cases hq
 simp only [Bool.and_eq_true,Bool.not_eq_true',noGuard] at hc
 obtain ⟨⟨⟨⟨⟨c0,⟨⟨⟨⟨u2,u3⟩,u4⟩,u5⟩,u6⟩⟩,⟨⟨⟨⟨⟨⟨⟨⟨⟨b1,b2⟩,b3⟩,b4⟩,b5⟩,b6⟩,b7⟩,b8⟩,b9⟩,b10⟩⟩,⟨⟨⟨⟨⟨k1,k2⟩,k3⟩,k4⟩,k5⟩,k6⟩⟩,⟨⟨⟨l1,l2⟩,l3⟩,l4⟩⟩,⟨⟨⟨n1,n2⟩,n3⟩,n4⟩⟩:=hc
 have gd:∀ {o:Oper},(match o.guard with | none=>true | some _=>false) = true→o.guard = none:=fun {o} h=>by
  cases hg:o.guard with
  | none=>rfl
  | some g=>rw [hg] at h; cases h
 have b1:=Nat.eq_of_beq_eq_true b1
 have b2:=Nat.eq_of_beq_eq_true b2
 have b3:=Nat.eq_of_beq_eq_true b3
 have b4:=Nat.eq_of_beq_eq_true b4
 have b5:=Nat.eq_of_beq_eq_true b5
 have b6:=Nat.eq_of_beq_eq_true b6
 have b7:=Nat.eq_of_beq_eq_true b7
 have b8:=Nat.eq_of_beq_eq_true b8
 have b9:=Nat.eq_of_beq_eq_true b9
 have b10:=Nat.eq_of_beq_eq_true b10
 subst b1; subst b2; subst b3; subst b4; subst b5; subst b6; subst b7; subst b8; subst b9; subst b10
 have nb:∀ {a d:Nat},Nat.beq a d = false→Operand.tmp a ≠ .tmp d:=fun {a d} h e=>by cases e; simp at h
 have nd:∀ {a d:Nat},Nat.beq a d = false→a ≠ d:=fun {a d} h e=>by cases e; simp at h
 refine ⟨c0,o3,o4,o5,o6,rfl,?_⟩
 unfold entX at h
 split at h
 case h_2=>cases h
 rename_i i kt et hm hT
 split at h
 case h_2=>cases h
 rename_i mt kc l hB
 split at h
 case h_2=>cases h
 rename_i ag ks d ag' ks' zv hck hd hkt hz
 split at h
 case h_2=>cases h
 rename_i kk z hk hzv
 obtain ⟨h1,hh⟩:=condS h
 clear h
 simp only [Bool.and_eq_true] at h1
 obtain ⟨⟨⟨h1,q3⟩,q4⟩,hown⟩:=h1
 have q3:=eq_of_beq q3
 have q4:=ksEq_eq q4
 subst q3; subst q4
 obtain ⟨oo,ho,h⟩:=bind_some hh
 clear hh
 obtain ⟨g1,g2,rfl⟩:=cond_spec ho
 obtain ⟨y,hy,h⟩:=bind_some h
 obtain ⟨l',hl',h⟩:=bind_some h
 obtain ⟨_,_,rfl⟩:=mput_spec hl'
 obtain ⟨m1,f1,h⟩:=putX_sound h
 obtain ⟨m2,f2,h⟩:=putX_sound h
 obtain ⟨m3,f3,h⟩:=putX_sound h
 obtain ⟨m4,f4,h⟩:=putX_sound h
 have hfin:=hK _ h
 have hb:(toSt ro m).box i = some ⟨encM (enc kc) (enc .i64) l,1000000000 + mt⟩:=by show (getB ro m i).map toBox = _; rw [hB]; rfl
 have ek:(toSt ro m).eval (.tmp r1) = enc kc kk:=by rw [← evalX_V]; exact unrefl_enc hk
 have em:(toSt ro m).eval (.tmp s2) = .mref i:=by rw [← evalX_V,hm]; simp [toV]
 have ez:toV zv = enc .i64 z:=unrefl_enc hzv
 have hget:=mapGet_enc (ev:=enc .i64) (keyEq_dq hd) l kk
 have hput:mapPut (encM (enc kc) (enc .i64) l) (enc kc kk) (V.int .i64 y) = encM (enc kc) (enc .i64) (aput l kk y):=mapPut_enc (ev:=enc .i64) (keyEq_dq hd) l kk y
 refine ⟨t2,kt,et,xT,yT,op,.tmp s2,.tmp r1,_,_,_,_,ag,ks,i,⟨encM (enc kc) (enc .i64) l,1000000000 + mt⟩,.i64,(aget l kk).getD z,c,y,toV zv,⟨⟨h2,e2,gd u2⟩,⟨h3,e3,gd u3⟩,⟨h4,e4,gd u4⟩,⟨h5,e5,gd u5⟩,⟨h6,e6,gd u6⟩⟩,⟨nd k1,nd k2,nd k3,nd k4,nd k5,nd k6⟩,⟨nb l1,nb l2,nb l3,nb l4⟩,⟨nb n1,nb n2,nb n3,nb n4⟩,
  ⟨?_,em,hb,Nat.le_add_right 1000000000 mt,hT,zeroX_V hz,?_,hkt,X.keyed kt h1,by rw [ek]; exact kinC_ok hck g1,keysOK_enc _ fun e he=>kinC_ok hck (g2 e he)⟩,?_⟩
 ·cases op
  case add =>
   change addI .i64 ((aget l kk).getD z) c = some y at hy
   unfold addI at hy
   split at hy
   ·rename_i hin; cases hy; exact congrArg (fun z=>some (V.int .i64 z)) hin
   ·cases hy
  case sub =>
   change subI .i64 ((aget l kk).getD z) c = some y at hy
   unfold subI at hy
   split at hy
   ·rename_i hin; cases hy; exact congrArg (fun z=>some (V.int .i64 z)) hin
   ·cases hy
  all_goals (change (none:Option Int) = some y at hy; cases hy)
 ·dsimp only
  rw [ek,hget,ez]
  cases aget l kk <;> rfl
 ·dsimp only
  rw [ek,hput]
  rw [← f4,← f3,← f2,← f1,toSt_setBox hown (getB_lt hB hown)] at hfin
  simpa [toV,toBox] using hfin
theorem opsX_sound {mu:Bool} (hro:ROok mu ro) {dr:Bool} {ds:List (Option Nat)} {k:Mm→Option β} (hK:∀ m',k m' = some r→Kp (toSt ro m')):∀ (os:List Oper) (m:Mm),opsX X ro dr ds os m k = some r→opsVC P dr ds os (toSt ro m) Kp
 | [],m,h=>hK m h
 | o :: os,m,h=>by
  simp only [opsX] at h
  simp only [opsVC]
  split at h
  ·rename_i q hq
   exact .inr (entX_sound hK hq h)
  left
  have hA:∀ m',toSt ro m' = toSt ro m→opX X ro dr o m' (fun m'=>opsX X ro dr ds os m' k) = some r→opVC P dr o (toSt ro m) fun st'=>opsVC P dr ds os st' Kp:=by
   intro m' e h
   rw [← e]
   exact opX_sound hro (fun m'' h'=>opsX_sound hro hK os m'' h') h
  have hB:∀ m',toSt ro m' = toSt ro m→putX ro m' o.dst .un none (fun m'=>opsX X ro dr ds os m' k) = some r→opsVC P dr ds os ((toSt ro m).put o.dst .un none) Kp:=by
   intro m' e h
   obtain ⟨m'',e',h'⟩:=putX_sound h
   rw [← e]
   have:toV S.un = .un:=by simp [toV]
   rw [this] at e'
   rw [e']
   exact opsX_sound hro hK os m'' h'
  unfold gdX at h
  unfold gdVC
  split at h
  ·rename_i hg
   simp only [hg]
   exact hA m rfl h
  ·rename_i j want hg
   simp only [hg]
   split at h
   ·rename_i d hd
    simp only [hd]
    have he:(toSt ro m).env d = toV (getS ro m d).1:=rfl
    rw [he]
    split at h
    ·rename_i b hb
     rw [hb]
     simp only [toV]
     refine ⟨fun hw=>?_,fun hw=>?_⟩
     ·rcases brS h with ⟨q,h⟩ | ⟨q,h⟩
      ·subst q
       have:want = true:=by simpa using hw
       subst this
       exact hA _ (refine_eq hb) h
      ·subst q
       have:want = false:=by simpa using hw
       subst this
       exact hA _ (refine_eq hb) h
     ·rcases brS h with ⟨q,h⟩ | ⟨q,h⟩
      ·subst q
       have:want = false:=by simpa using hw
       subst this
       exact hB _ (refine_eq hb) h
      ·subst q
       have:want = true:=by simpa using hw
       subst this
       exact hB _ (refine_eq hb) h
    ·rename_i hb
     rw [hb]
     simp only [toV]
     exact hB m rfl h
    ·cases h
   ·rename_i hne
    split
    ·rename_i d hd; exact absurd hd (hne d)
    ·exact hB m rfl h
theorem tailX_sound {mu:Bool} (hro:ROok mu ro) {k:Mm→Option β} (hK:∀ m',k m' = some r→Kp (toSt ro m')):∀ (l:List Oper) (m:Mm),tailX X ro l m k = some r→tailVC P l (toSt ro m) Kp
 | [],m,h=>by cases h
 | [o],m,h=>by cases h
 | [o2,o3],m,h=>clr2X_sound hro hK h
 | o :: o1 :: o2 :: os,m,h=>by
  unfold tailX at h
  simp only at h
  unfold tailVC
  simp only
  split at h
  ·rename_i hg
   exact ⟨hg,opX_sound hro (fun m' h'=>tailX_sound hro hK (o1 :: o2 :: os) m' h') h⟩
  ·cases h
theorem takeX_sound {o:Oper} {m:Mm} {k:Mm→Option β} (hK:∀ m',k m' = some r→Kp (toSt ro m')) (h:takeX (P:=P) ro o m k = some r):takeVC P o (toSt ro m) Kp:=by
 unfold takeX at h
 unfold takeVC
 split at h
 ·rename_i x ho
  simp only [ho]
  obtain ⟨m1,f1,h⟩:=putX_sound h
  have:=hK _ h
  rw [← f1,evalX_V,tokX_V] at this
  exact this
 ·rename_i xT x y yT ho
  simp only [ho]
  rw [← evalX_V,← evalX_V]
  split at h
  ·rename_i k1 a k2 b h1 h2
   rw [h1,h2]
   simp only [toV]
   split at h
   ·rename_i hk
    obtain ⟨n,hn,h⟩:=bind_some h
    unfold addI at hn
    split at hn
    ·rename_i hin
     cases hn
     obtain ⟨m1,f1,h⟩:=putX_sound h
     have:=hK _ h
     rw [← f1] at this
     exact ⟨hk,hin,by simpa [toV] using this⟩
    ·cases hn
   ·cases h
  ·cases h
 ·rename_i xT x y yT ho
  simp only [ho]
  rw [← evalX_V,← evalX_V]
  split at h
  ·rename_i k1 a k2 b h1 h2
   rw [h1,h2]
   simp only [toV]
   split at h
   ·rename_i hk
    obtain ⟨n,hn,h⟩:=bind_some h
    unfold subI at hn
    split at hn
    ·rename_i hin
     cases hn
     obtain ⟨m1,f1,h⟩:=putX_sound h
     have:=hK _ h
     rw [← f1] at this
     exact ⟨hk,hin,by simpa [toV] using this⟩
    ·cases hn
   ·cases h
  ·cases h
 ·rename_i t x ix ho
  simp only [ho]
  rw [← evalX_V,← evalX_V]
  split at h
  ·rename_i c l k1 i h1 h2
   rw [h1,h2]
   simp only [toV]
   split at h
   ·rename_i en he
    obtain ⟨e,n⟩:=en
    obtain ⟨e1,e2,rfl⟩:=elemC_spec he
    obtain ⟨y,g1,h⟩:=bind_some h
    obtain ⟨q1,q2,q3⟩:=idx_spec g1
    obtain ⟨m1,f1,h⟩:=putX_sound h
    have:=hK _ h
    rw [← f1] at this
    simp only [e1,e2]
    refine ⟨rowsOK_lst c l,⟨q1,by simpa using q2⟩,?_⟩
    have hg:(l.map (enc c)).getD i.toNat .any = enc c y:=by simp [List.getD,q3]
    rw [hg]
    simpa only [toV,refl_cells] using this
   ·cases h
  ·cases h
 ·rename_i t x lo hi ho
  simp only [ho]
  rw [← evalX_V]
  split at h
  ·rename_i c l h1
   have hs:=sliceX_sound (r:=r) (K2p:=fun v tk=>Kp ((toSt ro m).put o.dst v tk)) (fun s tk hk=>by
    obtain ⟨m1,f1,hk⟩:=putX_sound hk
    have:=hK _ hk
    rwa [← f1] at this) h
   rw [h1]
   simp only [toV] at hs ⊢
   exact hs
  ·cases h
 ·cases h
theorem pairX_sound {o o':Oper} {m:Mm} {k:Mm→Option β} (hK:∀ m',k m' = some r→Kp (toSt ro m')) (h:pairX X ro o o' m k = some r):pairVC P o o' (toSt ro m) Kp:=by
 unfold pairX at h
 unfold pairVC
 split at h
 ·rename_i t x t' x' h1 h2
  simp only [h1,h2]
  rw [← evalX_V,← evalX_V]
  refine loadX_sound (r:=r) (Kp:=fun v=>loadVC P t' (toSt ro m).box (toV (evalX ro m x')) fun u=>Kp (((toSt ro m).put o.dst v none).put o'.dst u none)) (fun s hs=>?_) h
  refine loadX_sound (r:=r) (Kp:=fun u=>Kp (((toSt ro m).put o.dst (toV s) none).put o'.dst u none)) (fun s' hs'=>?_) hs
  obtain ⟨m1,f1,h⟩:=putX_sound hs'
  obtain ⟨m2,f2,h⟩:=putX_sound h
  have:=hK _ h
  rwa [← f2,← f1] at this
 ·cases h
theorem schX_sound {mu:Bool} (hro:ROok mu ro) {ops:Array Oper} {k:Mm→Option β} (hK:∀ m',k m' = some r→Kp (toSt ro m')):∀ (l:List (Nat × Nat)) (m:Mm),schX X ro ops (ops.toList.map (·.dst)) l m k = some r→schVC P ops l (toSt ro m) Kp
 | [],m,h=>hK m h
 | (i,t) :: l,m,h=>by
  simp only [schX] at h
  simp only [schVC]
  split at h
  ·cases h
  rename_i o ho
  simp only [ho]
  match t,h with
  | 1,h=>exact takeX_sound (fun m' h'=>schX_sound hro hK l m' h') h
  | j + 2,h =>
   simp only at h ⊢
   split at h
   ·rename_i o' ho'
    simp only [ho']
    exact pairX_sound (fun m' h'=>schX_sound hro hK l m' h') h
   ·cases h
  | 0,h =>
   simp only at h ⊢
   have hA:∀ m',toSt ro m' = toSt ro m→opX X ro false o m' (fun m'=>schX X ro ops (ops.toList.map (·.dst)) l m' k) = some r→opVC P false o (toSt ro m) fun st'=>schVC P ops l st' Kp:=by
    intro m' e h
    rw [← e]
    exact opX_sound hro (fun m'' h'=>schX_sound hro hK l m'' h') h
   have hB:∀ m',toSt ro m' = toSt ro m→putX ro m' o.dst .un none (fun m'=>schX X ro ops (ops.toList.map (·.dst)) l m' k) = some r→schVC P ops l ((toSt ro m).put o.dst .un none) Kp:=by
    intro m' e h
    obtain ⟨m'',e',h'⟩:=putX_sound h
    rw [← e]
    have:toV S.un = .un:=by simp [toV]
    rw [this] at e'
    rw [e']
    exact schX_sound hro hK l m'' h'
   unfold gdX at h
   unfold gdVC
   split at h
   ·rename_i hg
    simp only [hg]
    exact hA m rfl h
   ·rename_i j want hg
    simp only [hg]
    split at h
    ·rename_i d hd
     simp only [hd]
     have he:(toSt ro m).env d = toV (getS ro m d).1:=rfl
     rw [he]
     split at h
     ·rename_i b hb
      rw [hb]
      simp only [toV]
      refine ⟨fun hw=>?_,fun hw=>?_⟩
      ·rcases brS h with ⟨q,h⟩ | ⟨q,h⟩
       ·subst q
        have:want = true:=by simpa using hw
        subst this
        exact hA _ (refine_eq hb) h
       ·subst q
        have:want = false:=by simpa using hw
        subst this
        exact hA _ (refine_eq hb) h
      ·rcases brS h with ⟨q,h⟩ | ⟨q,h⟩
       ·subst q
        have:want = false:=by simpa using hw
        subst this
        exact hB _ (refine_eq hb) h
       ·subst q
        have:want = true:=by simpa using hw
        subst this
        exact hB _ (refine_eq hb) h
     ·rename_i hb
      rw [hb]
      simp only [toV]
      exact hB m rfl h
     ·cases h
    ·rename_i hne
     split
     ·rename_i d hd; exact absurd hd (hne d)
     ·exact hB m rfl h
theorem allB_spec {γ:Type} {f:Nat→Option γ} {r:γ}:∀ {l:List Nat},allB f l = some r→∀ j ∈ l,f j = some r
 | [],h,j,hj=>by simp at hj
 | [i],h,j,hj=>by
  simp only [List.mem_singleton] at hj
  subst hj
  exact h
 | i :: i' :: l,h,j,hj=>by
  unfold allB at h
  obtain ⟨h1,h2⟩:=both_spec h
  rcases List.mem_cons.1 hj with rfl | hj
  ·exact h1
  ·exact allB_spec h2 j hj
theorem fullX_sound {mu:Bool} (hro:ROok mu ro) {ops:Array Oper} {k:Mm→Option β} (hK:∀ m',k m' = some r→Kp (toSt ro m')):∀ (fuel:Nat) (listed:Array Bool) (m:Mm),fullX X ro ops (ops.toList.map (·.dst)) fuel listed m k = some r→fullVC P ops fuel listed (toSt ro m) Kp
 | 0,listed,m,h=>by
  unfold fullX at h
  unfold fullVC
  split at h
  ·rename_i hr; exact ⟨hr,hK _ h⟩
  ·cases h
 | fuel + 1,listed,m,h=>by
  unfold fullX at h
  unfold fullVC
  split at h
  ·rename_i hr; rw [hr]; exact hK _ h
  ·rename_i i is hr
   rw [hr]
   dsimp only at h ⊢
   split at h
   ·rename_i j hj
    rw [hj]
    dsimp only
    split at h
    ·rename_i o ho
     rw [ho]
     exact takeX_sound (fun m' h'=>fullX_sound hro hK fuel _ m' h') h
    ·cases h
   ·rename_i hj
    rw [hj]
    dsimp only
    intro j hjm
    have h:=allB_spec h j hjm
    split at h
    case h_2=>cases h
    rename_i o ho
    rw [ho]
    dsimp only
    have hA:∀ m',toSt ro m' = toSt ro m→opX X ro false o m' (fun m'=>fullX X ro ops (ops.toList.map (·.dst)) fuel (listed.setIfInBounds j true) m' k) = some r→opVC P false o (toSt ro m) fun st'=>fullVC P ops fuel (listed.setIfInBounds j true) st' Kp:=by
     intro m' e h
     rw [← e]
     exact opX_sound hro (fun m'' h'=>fullX_sound hro hK fuel _ m'' h') h
    have hB:∀ m',toSt ro m' = toSt ro m→putX ro m' o.dst .un none (fun m'=>fullX X ro ops (ops.toList.map (·.dst)) fuel (listed.setIfInBounds j true) m' k) = some r→fullVC P ops fuel (listed.setIfInBounds j true) ((toSt ro m).put o.dst .un none) Kp:=by
     intro m' e h
     obtain ⟨m'',e',h'⟩:=putX_sound h
     rw [← e]
     have:toV S.un = .un:=by simp [toV]
     rw [this] at e'
     rw [e']
     exact fullX_sound hro hK fuel _ m'' h'
    unfold gdX at h
    unfold gdVC
    split at h
    ·rename_i hg
     simp only [hg]
     exact hA m rfl h
    ·rename_i j want hg
     simp only [hg]
     split at h
     ·rename_i d hd
      simp only [hd]
      have he:(toSt ro m).env d = toV (getS ro m d).1:=rfl
      rw [he]
      split at h
      ·rename_i b hb
       rw [hb]
       simp only [toV]
       refine ⟨fun hw=>?_,fun hw=>?_⟩
       ·rcases brS h with ⟨q,h⟩ | ⟨q,h⟩
        ·subst q
         have:want = true:=by simpa using hw
         subst this
         exact hA _ (refine_eq hb) h
        ·subst q
         have:want = false:=by simpa using hw
         subst this
         exact hA _ (refine_eq hb) h
       ·rcases brS h with ⟨q,h⟩ | ⟨q,h⟩
        ·subst q
         have:want = false:=by simpa using hw
         subst this
         exact hB _ (refine_eq hb) h
        ·subst q
         have:want = true:=by simpa using hw
         subst this
         exact hB _ (refine_eq hb) h
      ·rename_i hb
       rw [hb]
       simp only [toV]
       exact hB m rfl h
      ·cases h
     ·rename_i hne
      split
      ·rename_i d hd; exact absurd hd (hne d)
      ·exact hB m rfl h
end
end Go.X
namespace Go.X
open Go.Eng
open Go.RowKit
theorem iterN_mono {σ ρ:Type} {F:σ→Option (Step σ ρ)} {r:ρ}:∀ {n m:Nat} {s:σ},n ≤ m→iterN F n s = some r→iterN F m s = some r
 | 0,_,s,_,h=>by cases h
 | n + 1,0,s,hm,h=>by omega
 | n + 1,m + 1,s,hm,h=>by
  unfold iterN at h ⊢
  split at h
  ·exact iterN_mono (by omega) h
  ·exact h
  ·cases h
theorem iter_some {σ ρ:Type} {F:σ→Option (Step σ ρ)} {s:σ} {r:ρ}:iter F s = some r ↔ ∃ n,iterN F n s = some r:=by
 unfold iter
 constructor
 ·intro h
  split at h
  ·rename_i hex
   cases h
   exact hex.choose_spec
  ·cases h
 ·rintro ⟨n,hn⟩
  have hex:∃ r n,iterN F n s = some r:=⟨r,n,hn⟩
  rw [dif_pos hex]
  obtain ⟨n',hn'⟩:=hex.choose_spec
  have h1:=iterN_mono (Nat.le_max_left n n') hn
  have h2:=iterN_mono (Nat.le_max_right n n') hn'
  rw [h1] at h2
  exact h2.symm
theorem iter_eq {σ ρ:Type} (F:σ→Option (Step σ ρ)) (s:σ):iter F s = match F s with | some (.next s')=>iter F s' | some (.done r)=>some r | none=>none:=by
 apply Option.ext
 intro r
 rw [iter_some]
 constructor
 ·rintro ⟨n,h⟩
  cases n with
  | zero=>cases h
  | succ n =>
   unfold iterN at h
   split at h
   ·rename_i s' e; rw [e]; exact iter_some.2 ⟨n,h⟩
   ·rename_i r' e; rw [e]; exact h
   ·cases h
 ·intro h
  split at h
  ·rename_i s' e
   obtain ⟨n,hn⟩:=iter_some.1 h
   exact ⟨n + 1,by unfold iterN; rw [e]; exact hn⟩
  ·rename_i r' e
   exact ⟨1,by unfold iterN; rw [e]; exact h⟩
  ·cases h
theorem maskOf_aux:∀ (l:List Nat) (a i:Nat),(l.foldl (fun a s=>a ||| (1 <<< s)) a).testBit i = (a.testBit i || decide (i ∈ l))
 | [],a,i=>by simp
 | s :: l,a,i=>by
  rw [List.foldl_cons,maskOf_aux l]
  rw [Nat.testBit_or,Nat.one_shiftLeft,Nat.testBit_two_pow]
  by_cases h:s = i
  ·subst h; simp
  ·have:¬ i = s:=fun e=>h e.symm
   simp [h,this]
theorem maskOf_spec (l:List Nat) (i:Nat):(maskOf l).testBit i = decide (i ∈ l):=by
 unfold maskOf; rw [maskOf_aux]; simp
theorem tkEq_spec {a b:Tk} (h:tkEq a b = true):a = none ∨ a = b:=by
 cases a with
 | none=>exact .inl rfl
 | some p =>
  cases b with
  | none=>cases h
  | some q =>
   obtain ⟨t,e⟩:=p; obtain ⟨t',e'⟩:=q
   simp only [tkEq,Bool.and_eq_true] at h
   have h1:=Nat.eq_of_beq_eq_true h.1
   have h2:=Nat.eq_of_beq_eq_true h.2
   subst h1; subst h2; exact .inr rfl
theorem getS_set {ro:RO} {sl:T (S × Tk)} {bx:List (Option SBox)} {s0:Nat} {x:S × Tk} (s:Nat):getS ro ⟨sl.set s0 x,bx⟩ s = if s = s0∧ro.own s = true then x else getS ro ⟨sl,bx⟩ s:=by
 unfold getS
 cases ho:ro.own s with
 | false=>simp
 | true =>
  simp only [cond_true,and_true]
  rw [T.get_set]
  split <;> rfl
theorem getB_setAny {ro:RO} {sl:T (S × Tk)} {bx:List (Option SBox)} {i j:Nat} {B:SBox} (hi:i < bx.length):getB ro ⟨sl,bx.set i (some B)⟩ j = if j = i∧ro.ownB j = true then some B else getB ro ⟨sl,bx⟩ j:=by
 unfold getB
 cases ho:ro.ownB j with
 | false=>simp
 | true =>
  simp only [cond_true,and_true]
  by_cases h:j = i
  ·subst h; simp [hi]
  ·rw [if_neg h,List.getElem?_set_ne (Ne.symm h)]
variable {β:Type}
section
variable {old:Nat→Option SBox} {roS roT:RO} {mS:Mm} {n:Nat}
theorem writeLV_step {v:LV} {x:v.ty} {m1:Mm} (hr:readLV old roS mS v = some x) (hlen:m1.bx.length = n) (hbs:∀ i,hasBox [v] i = true→i < n) :
  (writeLV old m1 v x).bx.length = n∧(∀ s,Wk (pv (getS roT m1 s)) (pv (getS roS mS s))→Wk (pv (getS roT (writeLV old m1 v x) s)) (pv (getS roS mS s))) ∧
  (∀ i,((getB roT m1 i).map toBox = (getB roS mS i).map toBox ∨ (hasBox [v] i = true∧roT.ownB i = true))→(getB roT (writeLV old m1 v x) i).map toBox = (getB roS mS i).map toBox) ∧
  (∀ k,(∀ s,ltV k (toV (getS roT m1 s).1) = true)→∀ s,ltV k (toV (getS roT (writeLV old m1 v x) s).1) = true) ∧
  (∀ k,(∀ i B,getB roT m1 i = some B→ltVL k (toBox B).cells = true)→∀ i B,getB roT (writeLV old m1 v x) i = some B→ltVL k (toBox B).cells = true):=by
 cases v with
 | slot s0 c tk =>
  simp only [readLV] at hr
  obtain ⟨h1,h2⟩:=condS hr
  have e:=unrefl_enc h2
  refine ⟨hlen,fun s hs=>?_,fun i hi=>?_,fun k hk s=>?_,fun k hk i B hB=>hk i B hB⟩
  ·simp only [writeLV]
   rw [getS_set]
   split
   ·rename_i hc
    obtain ⟨rfl,_⟩:=hc
    unfold pv
    simp only
    rw [refl_enc,← e]
    rcases tkEq_spec h1 with q | q
    ·subst q; exact .inr (.inl rfl)
    ·subst q; exact .inl rfl
   ·exact hs
  ·rcases hi with hi | hi
   ·exact hi
   ·simp [hasBox] at hi
  ·simp only [writeLV]
   rw [getS_set]
   split
   ·exact noLoc_lt _ _ (by rw [refl_enc]; exact enc_noLoc c x)
   ·exact hk s
 | box i0 c =>
  have hi0:i0 < n:=hbs i0 (by simp [hasBox])
  simp only [readLV] at hr
  split at hr
  ·rename_i cs ty hB
   obtain ⟨h1,h2⟩:=condS hr
   have ht:=Nat.eq_of_beq_eq_true h1
   have hcells:toVL (cellsS (refl c x)) = toVL cs:=by
    rw [refl_cells]
    split at h2
    ·rename_i y hy
     cases h2
     have:=unrefl_enc hy
     simp only [toV] at this
     rw [← this]; rfl
    ·split at h2
     ·cases h2
     ·rename_i z hz _
      have:=unrefl_enc h2
      rw [← this]
      have hne:∀ ds,z ≠ .agg ds:=fun ds e=>hz ds (by rw [e])
      have hcl:(toV z).cellsL = [toV z]:=by
       cases z with
       | agg ds=>exact absurd rfl (hne ds)
       | gel g o=>simp only [toV]; split <;> rfl
       | ivd x=>simp only [toV]; exact iv_cellsL x
       | _=>rfl
      rw [hcl]; simp [toVL]
     ·cases h2
   refine ⟨by simp [writeLV,hlen],fun s hs=>hs,fun i hi=>?_,fun k hk s=>hk s,fun k hk i B hB=>?_⟩
   ·simp only [writeLV]
    rw [getB_setAny (by omega)]
    split
    ·rename_i hc
     obtain ⟨rfl,_⟩:=hc
     rw [hB]
     simp only [Option.map_some,toBox,hcells,ht]
    ·rename_i hne
     rcases hi with hi | ⟨hi,ho⟩
     ·exact hi
     ·simp [hasBox] at hi
      exact absurd ⟨hi.symm,ho⟩ hne
   ·simp only [writeLV] at hB
    rw [getB_setAny (by omega)] at hB
    split at hB
    ·cases hB
     simp only [toBox]
     refine noLocL_lt _ _ ?_
     rw [refl_cells]
     have:=enc_noLoc c x
     cases he:enc c x <;> rw [he] at this <;> simp_all [V.noLoc,V.cellsL,V.noLocL]
    ·exact hk i B hB
  ·cases hr
 | mapb i0 kc vc =>
  have hi0:i0 < n:=hbs i0 (by simp [hasBox])
  simp only [readLV] at hr
  split at hr
  ·rename_i mt kc' vc' l hB
   obtain ⟨h1,h2⟩:=condS hr
   have ht:=Nat.eq_of_beq_eq_true h1
   split at h2
   ·rename_i hc
    obtain ⟨rfl,rfl⟩:=hc
    cases h2
    refine ⟨by simp [writeLV,hlen],fun s hs=>hs,fun i hi=>?_,fun k hk s=>hk s,fun k hk i B hB=>?_⟩
    ·simp only [writeLV]
     rw [getB_setAny (by omega)]
     split
     ·rename_i hc
      obtain ⟨rfl,_⟩:=hc
      rw [hB]
      simp only [Option.map_some,toBox,ht]
     ·rename_i hne
      rcases hi with hi | ⟨hi,ho⟩
      ·exact hi
      ·simp [hasBox] at hi
       exact absurd ⟨hi.symm,ho⟩ hne
    ·simp only [writeLV] at hB
     rw [getB_setAny (by omega)] at hB
     split at hB
     ·cases hB
      exact noLocL_lt _ _ (encM_noLoc l)
     ·exact hk i B hB
   ·cases h2
  ·cases hr
theorem hasBox_cons (v w:LV) (L:List LV) (i:Nat):hasBox (v :: w :: L) i = (hasBox [v] i || hasBox (w :: L) i):=by
 cases v <;> simp [hasBox]
theorem writeL_all:∀ {L:List LV} {x:tupT L} {m1:Mm},readL old roS mS L = some x→m1.bx.length = n→(∀ i,hasBox L i = true→i < n) →
  (writeL old m1 L x).bx.length = n∧((∀ s,Wk (pv (getS roT m1 s)) (pv (getS roS mS s)))→∀ s,Wk (pv (getS roT (writeL old m1 L x) s)) (pv (getS roS mS s))) ∧
  (∀ i,((getB roT m1 i).map toBox = (getB roS mS i).map toBox ∨ (hasBox L i = true∧roT.ownB i = true))→(getB roT (writeL old m1 L x) i).map toBox = (getB roS mS i).map toBox) ∧
  (∀ k,(∀ s,ltV k (toV (getS roT m1 s).1) = true)→∀ s,ltV k (toV (getS roT (writeL old m1 L x) s).1) = true) ∧
  (∀ k,(∀ i B,getB roT m1 i = some B→ltVL k (toBox B).cells = true)→∀ i B,getB roT (writeL old m1 L x) i = some B→ltVL k (toBox B).cells = true)
 | [],x,m1,_,hlen,_=>⟨hlen,fun h=>h,fun i hi=>by
   rcases hi with hi | hi
   ·exact hi
   ·simp [hasBox] at hi,fun k h=>h,fun k h=>h⟩
 | [v],x,m1,hr,hlen,hb=>by
  obtain ⟨h1,h2,h3,h4,h5⟩:=writeLV_step (roT:=roT) hr hlen hb
  exact ⟨h1,fun h s=>h2 s (h s),h3,h4,h5⟩
 | v :: w :: L,x,m1,hr,hlen,hb=>by
  simp only [readL] at hr
  split at hr
  ·rename_i y z hy hz
   cases hr
   obtain ⟨h1,h2,h3,h4,h5⟩:=writeLV_step (roT:=roT) (m1:=m1) hy hlen (fun i hi=>hb i (by rw [hasBox_cons,hi]; rfl))
   obtain ⟨g1,g2,g3,g4,g5⟩:=writeL_all (L:=w :: L) hz h1 (fun i hi=>hb i (by rw [hasBox_cons,hi]; simp))
   refine ⟨g1,fun h=>g2 fun s=>h2 s (h s),fun i hi=>g3 i ?_,fun k h=>g4 k (h4 k h),fun k h=>g5 k (h5 k h)⟩
   rcases hi with hi | ⟨hi,ho⟩
   ·exact .inl (h3 i (.inl hi))
   ·rw [hasBox_cons,Bool.or_eq_true] at hi
    rcases hi with hi | hi
    ·exact .inl (h3 i (.inr ⟨hi,ho⟩))
    ·exact .inr ⟨hi,ho⟩
  ·cases hr
end
theorem SRel.carry {P:Program} {F:Fr} {a:Act} {w:World} {pr:Nat→Nat→Prop} {lam:Nat→Option Nat} {old:Nat→Option SBox} {roS roT:RO} {mS m1:Mm} {n:Nat} {L:List LV} {x:tupT L}
  (h:SRel P F (toSt roS mS) a w pr lam) (hr:readL old roS mS L = some x) (hlen:m1.bx.length = n) (hnT:roT.nb ≤ n) (hL:∀ i,hasBox L i = true→i < n)
  (H1:∀ s,Wk (pv (getS roT m1 s)) (pv (getS roS mS s)))
  (H2:∀ i,i < n→(getB roT m1 i).map toBox = (getB roS mS i).map toBox ∨ (hasBox L i = true∧roT.ownB i = true))
  (E1:∀ s,ltV n (toV (getS roT m1 s).1) = true) (E2:∀ i B,getB roT m1 i = some B→ltVL n (toBox B).cells = true) (E3:∀ i b,F.lam0 i = some b→i < n) :
  ∃ lam',SRel P F (toSt roT (writeL old m1 L x)) a w pr lam':=by
 obtain ⟨g1,g2,g3,g4,g5⟩:=writeL_all (roT:=roT) (m1:=m1) hr hlen hL
 have hw:=SRel.weak h (nb':=n) (sl':=(toSt roT (writeL old m1 L x)).sl) (fun s=>g2 H1 s)
 have hd:=SRel.drop hw (n:=n) (nb':=n) (fun s=>g4 n E1 s) (fun i B hi hB=>?_) E3
 ·refine ⟨_,(congrArg (fun st=>SRel P F st a w pr _) ?_).mp hd⟩
  show (⟨n,_,_⟩:St) = toSt roT (writeL old m1 L x)
  unfold toSt
  rw [g1]
  congr 1
  funext i
  by_cases hi:i < n
  ·rw [if_pos hi]
   exact (g3 i (H2 i hi)).symm
  ·rw [if_neg hi]
   have:getB roT (writeL old m1 L x) i = none:=by
    unfold getB RO.ownB
    have hb:Nat.ble roT.nb i = true:=Nat.ble_eq_true_of_le (by omega)
    rw [hb]
    simp only [cond_true]
    rw [List.getElem?_eq_none (by omega)]; rfl
   rw [this]; rfl
 ·have hB':(getB roS mS i).map toBox = some B:=hB
  rw [← g3 i (H2 i hi)] at hB'
  cases hq:getB roT (writeL old m1 L x) i with
  | none=>rw [hq] at hB'; cases hB'
  | some B' =>
   rw [hq] at hB'
   cases hB'
   exact g5 n E2 i B' hq
theorem SRel.below {P:Program} {F:Fr} {a:Act} {w:World} {pr:Nat→Nat→Prop} {lam:Nat→Option Nat} {ro:RO} {m:Mm} (h:SRel P F (toSt ro m) a w pr lam) (hn:Nat.ble ro.nb m.bx.length = true) :
  (∀ s,ltV m.bx.length (toV (getS ro m s).1) = true)∧(∀ i B,getB ro m i = some B→ltVL m.bx.length (toBox B).cells = true)∧(∀ i b,F.lam0 i = some b→i < m.bx.length):=by
 have hl:∀ i,m.bx.length ≤ i→lam i = none:=by
  intro i hi
  refine h.nolam i ?_
  show (getB ro m i).map toBox = none
  unfold getB RO.ownB
  have hb:Nat.ble ro.nb i = true:=Nat.ble_eq_true_of_le (Nat.le_trans (Nat.le_of_ble_eq_true hn) hi)
  rw [hb]
  simp only [cond_true]
  rw [List.getElem?_eq_none hi]; rfl
 refine ⟨fun s=>R_lt hl _ _ (h.env s),fun i B hB=>?_,fun i b hi=>?_⟩
 ·have hB':(toSt ro m).box i = some (toBox B):=by show (getB ro m i).map toBox = _; rw [hB]; rfl
  obtain ⟨b,q1,q2,_⟩:=h.box i _ hB'
  exact boxAt_lt hl q2
 ·rcases Nat.lt_or_ge i m.bx.length with q | q
  ·exact q
  ·have:=h.lamsub i b hi
   rw [hl i q] at this; cases this
end Go.X
namespace Go.X
open Go.Eng
open Go.RowKit
variable {β:Type}
section
variable {P:Program} {n':Nat}
theorem awp_seq {x y:Code} {st:St} {Q:Exit→St→Prop} (h:AWp P n' x st (thenQ (fun st'=>AWp P n' y st' Q) Q)):AWp P n' (.seq x y) st Q:=by
 intro F a w pr lam hF hs
 refine wp_seq (wp_mono (h F a w pr lam hF hs) ?_)
 rintro e a' w' ⟨st',pr',lam',q,r⟩
 cases e with
 | normal=>exact q F a' w' pr' lam' hF r
 | exit id=>exact ⟨st',pr',lam',q,r⟩
 | goto l=>exact ⟨st',pr',lam',q,r⟩
 | ret=>exact ⟨st',pr',lam',q,r⟩
 | panic c=>exact ⟨st',pr',lam',q,r⟩
 | outgrown=>exact ⟨st',pr',lam',q,r⟩
theorem awp_block {id:Nat} {x:Code} {st:St} {Q:Exit→St→Prop} (h:AWp P n' x st (blockQ id Q)):AWp P n' (.block id x) st Q:=by
 intro F a w pr lam hF hs
 refine wp_block (wp_mono (h F a w pr lam hF hs) ?_)
 rintro e a' w' ⟨st',pr',lam',q,r⟩
 cases e with
 | exit id' =>
  simp only [blockQ] at q
  simp only [Exit.inBlock]
  split at q
  ·rename_i hid; rw [if_pos hid]; exact ⟨st',pr',lam',q,r⟩
  ·rename_i hid; rw [if_neg hid]; exact ⟨st',pr',lam',q,r⟩
 | normal=>exact ⟨st',pr',lam',q,r⟩
 | goto l=>exact ⟨st',pr',lam',q,r⟩
 | ret=>exact ⟨st',pr',lam',q,r⟩
 | panic c=>exact ⟨st',pr',lam',q,r⟩
 | outgrown=>exact ⟨st',pr',lam',q,r⟩
theorem awp_cond {c:Operand} {x y:Code} {st:St} {Q:Exit→St→Prop} {b:Bool} (hc:st.eval c = .bool b) (h1:b = true→AWp P n' x st Q) (h2:b = false→AWp P n' y st Q):AWp P n' (.cond c x y) st Q:=by
 intro F a w pr lam hF hs
 have hr:=hs.eval c
 rw [hc] at hr
 simp only [R] at hr
 exact wp_cond_split hr (fun ht=>h1 ht F a w pr lam hF hs) (fun hf=>h2 hf F a w pr lam hF hs)
end
theorem readOut_write {old:Nat→Option SBox} {roI:RO} {mI m1:Mm} {e:EX} {k:Exit→Mm→Option β} {r:β}:∀ {es:List (EX × List LV)} {w:outT es},readOut old roI mI e es = some w→writeOut old m1 k es w = some r →
  ∃ L,∃ x:tupT L,(∃ e',(e',L) ∈ es)∧readL old roI mI L = some x∧k e.to (writeL old m1 L x) = some r
 | [],w,h,_=>by cases h
 | [(e0,L)],w,h,hk=>by
  simp only [readOut] at h
  obtain ⟨h1,h2⟩:=condS h
  have he:e0 = e:=by
   cases e0 <;> cases e <;> simp only [EX.beq,Bool.false_eq_true] at h1
   ·rw [Nat.eq_of_beq_eq_true h1]
   ·rfl
  subst he
  exact ⟨L,w,⟨e0,by simp⟩,h2,hk⟩
 | (e0,L) :: f :: es,w,h,hk=>by
  simp only [readOut] at h
  cases hb:e0.beq e with
  | true =>
   rw [hb] at h
   simp only [cond_true] at h
   have he:e0 = e:=by
    cases e0 <;> cases e <;> simp only [EX.beq,Bool.false_eq_true] at hb
    ·rw [Nat.eq_of_beq_eq_true hb]
    ·rfl
   subst he
   split at h
   ·rename_i x hx
    cases h
    simp only [writeOut,Sum.elim_inl] at hk
    exact ⟨L,x,⟨e0,by simp⟩,hx,hk⟩
   ·cases h
  | false =>
   rw [hb] at h
   simp only [cond_false] at h
   split at h
   ·rename_i x hx
    cases h
    simp only [writeOut,Sum.elim_inr] at hk
    obtain ⟨L',y,⟨e',q1⟩,q2,q3⟩:=readOut_write (es:=f :: es) hx hk
    exact ⟨L',y,⟨e',List.mem_cons_of_mem _ q1⟩,q2,q3⟩
   ·cases h
theorem EX.of_to {ex:Exit} {e:EX} (h:EX.of ex = some e):e.to = ex:=by
 cases ex <;> simp only [EX.of,Option.some.injEq,reduceCtorEq] at h <;> subst h <;> rfl
theorem wipe_get:∀ (l:List Nat) (sl:T (S × Tk)) (s:Nat),(wipe sl l).get s = if s ∈ l then some (.any,none) else sl.get s
 | [],sl,s=>by simp [wipe]
 | x :: l,sl,s=>by
  simp only [wipe]
  rw [wipe_get l,T.get_set]
  by_cases h1:s ∈ l
  ·simp [h1]
  ·by_cases h2:s = x
   ·subst h2; simp
   ·simp [h1,h2]
def okX (n':Nat):Code→Ann→Bool
 | .region id ops draw,a=>bif draw && a.isFull then ops.toList.all (dstOK n') && Region.noSelect ops else bif draw && a.isSch then ops.toList.all (dstOK n') && Region.noSelect ops else bif a.isSch then ops.toList.all (dstOK n') else codeOK n' [] (.region id ops draw)
 | .seq x y,a=>okX n' x a.l && okX n' y a.r.un
 | .cond _ x y,a=>okX n' x a.l && okX n' y a.r
 | .block _ b,a=>okX n' b a
 | .loop b,.loop _ _ _ _ a=>okX n' b a
 | _,_=>true
theorem boxesOf_spec:∀ {L:List LV} {i:Nat},hasBox L i = true→i ∈ boxesOf L
 | [],i,h=>by simp [hasBox] at h
 | .slot _ _ _ :: L,i,h=>boxesOf_spec (L:=L) h
 | .box j _ :: L,i,h=>by
  simp only [hasBox,Bool.or_eq_true] at h
  rcases h with h | h
  ·rw [Nat.eq_of_beq_eq_true h]; simp [boxesOf]
  ·simp [boxesOf,boxesOf_spec h]
 | .mapb j _ _ :: L,i,h=>by
  simp only [hasBox,Bool.or_eq_true] at h
  rcases h with h | h
  ·rw [Nat.eq_of_beq_eq_true h]; simp [boxesOf]
  ·simp [boxesOf,boxesOf_spec h]
section
variable {P:Program} {X:XCtx P}
theorem clrD_noTok {ro:RO} {m:Mm} {mu:Bool} (hro:ROok mu ro) (ops:Array Oper):noTok ops (toSt ro ⟨m.sl.mapV (clrD ((ops.toList.filter newOp).map (·.dst))),m.bx⟩):=by
 intro s t e ht h2 o ho hno hd
 have ht':(getS ro ⟨m.sl.mapV (clrD ((ops.toList.filter newOp).map (·.dst))),m.bx⟩ s).2 = some (t,e):=ht
 unfold getS at ht'
 cases hw:ro.own s with
 | false =>
  rw [hw] at ht'
  simp only [cond_false] at ht'
  rw [hro.tok s t e ht'] at h2
  omega
 | true =>
  rw [hw] at ht'
  simp only [cond_true,T.get_mapV] at ht'
  cases hg:m.sl.get s with
  | none=>rw [hg] at ht'; cases ht'
  | some x =>
   rw [hg] at ht'
   simp only [Option.map_some,Option.getD_some] at ht'
   unfold clrD at ht'
   cases hx:x.2 with
   | none=>rw [hx] at ht'; simp only at ht'; rw [hx] at ht'; cases ht'
   | some te =>
    obtain ⟨t',e'⟩:=te
    rw [hx] at ht'
    simp only at ht'
    cases hb:(Nat.blt (tcl t') 2 && inD ((ops.toList.filter newOp).map (·.dst)) t') with
    | true=>rw [hb] at ht'; cases ht'
    | false =>
     rw [hb] at ht'
     simp only [cond_false] at ht'
     rw [hx] at ht'
     cases ht'
     rw [Bool.and_eq_false_iff] at hb
     rcases hb with hb | hb
     ·have:Nat.blt (tcl t) 2 = true:=Nat.ble_eq_true_of_le h2
      rw [this] at hb; cases hb
     ·have:inD ((ops.toList.filter newOp).map (·.dst)) t = true:=by
       unfold inD
       rw [List.any_eq_true]
       exact ⟨some (t % 1000000),List.mem_map.2 ⟨o,List.mem_filter.2 ⟨ho,hno⟩,hd⟩,Nat.beq_refl _⟩
      rw [this] at hb; cases hb
theorem clrD_Wk (ds:List (Option Nat)) (x:S × Tk):Wk (pv (clrD ds x)) (pv x):=by
 unfold clrD
 split
 ·generalize (Nat.blt _ 2 && _:Bool) = b
  cases b with
  | true=>exact .inr (.inl rfl)
  | false=>exact .inl rfl
 ·exact .inl rfl
theorem clrD_weak {ro:RO} {m:Mm} (ds:List (Option Nat)) (s:Nat):Wk ((toSt ro ⟨m.sl.mapV (clrD ds),m.bx⟩).sl s) ((toSt ro m).sl s):=by
 show Wk (pv (getS ro ⟨m.sl.mapV (clrD ds),m.bx⟩ s)) (pv (getS ro m s))
 unfold getS
 cases hw:ro.own s with
 | false=>exact .inl rfl
 | true =>
  simp only [cond_true,T.get_mapV]
  cases hg:m.sl.get s with
  | none=>exact .inl rfl
  | some x=>exact clrD_Wk ds x
def Loose (s2 s3:St):Prop:=(∀ s,s3.env s = s2.env s∧s3.tok s = none)∧s3.box = s2.box
theorem AWp.reframe {n':Nat} {c:Code} {st st':St} {Q:Exit→St→Prop} (h1:∀ s,st'.env s = st.env s∧(st'.tok s = none ∨ ∃ e,st'.tok s = some (2000000,e))) (hb:st'.box = st.box)
  (h:AWp P n' c st' fun ex s2=>∃ s3,Loose s2 s3∧Q ex s3):AWp P n' c st Q:=by
 intro F a w pr lam hF hs
 have hl:=hs.hl
 have hcl:∀ s t e,st'.tok s = some (t,e)→t = 2000000:=fun s t e q=>by
  rcases (h1 s).2 with q2 | ⟨e2,q2⟩
  ·rw [q] at q2; cases q2
  ·rw [q] at q2; cases q2; rfl
 have hgb:∀ s t e,st'.tok s = some (t,e)→gblock (tcl t) (a.tmps.getD s undef) = none:=fun s t e q=>by
  rw [hcl s t e q,show tcl 2000000 = 2 from rfl]
  unfold gblock
  split
  ·rw [if_neg (by omega)]
  ·rfl
 have hgl:∀ g vs,GL g = some vs→(∃ ty,w.heap[g]? = some (.cells vs.toArray ty (0,0)))∧(¬ (F.io g ∨ F.N ≤ g)∧(none:Option Nat) ≠ some g)∧∀ i,i < vs.length→pr g i:=fun g vs hg=>by
   obtain ⟨⟨ty,q1⟩,q2,q3⟩:=F.gl g vs hg
   obtain ⟨q4,q5⟩:=hl.glob g vs hg
   refine ⟨q4,⟨?_,by simp⟩,q5⟩
   rintro (q | q)
   ·exact q2.1 q
   ·exact Nat.lt_irrefl _ (Nat.lt_of_lt_of_le (Array.getElem?_eq_some_iff.1 q1).1 q)
 let F':Fr:=⟨F.nt,F.lam0,w,pr,fun b=>F.io b ∨ F.N ≤ b,hs.prlt,none,fun b o q=>(by cases q),hgl⟩
 have hsF:SRel P F' st' a w pr lam:={
  size:=hs.size,defers:=hs.defers
  env:=fun s=>by rw [(h1 s).1]; exact hs.env s
  own:=fun s t e q g hg=>by rw [hgb s t e q] at hg; cases hg
  coh:=fun s s' t t' e e' g q q' hg=>by rw [hgb s t e q] at hg; cases hg
  box:=fun i B q=>by
   rw [hb] at q
   obtain ⟨b,b1,b2,b3,b4⟩:=hs.box i B q
   refine ⟨b,b1,b2,b3,.inr ?_⟩
   rcases b4 with b4 | b4
   ·exact .inr b4
   ·exact .inl b4
  inj:=fun i j B B' b q q'=>by rw [hb] at q q'; exact hs.inj i j B B' b q q'
  apart:=fun i B b s t e q q' q2=>by rw [hgb s t e q2]; simp
  nolam:=fun i q=>by rw [hb] at q; exact hs.nolam i q
  prlt:=hs.prlt
  keep:=⟨rfl,rfl,rfl,DLE.refl _,Nat.le_refl _,fun _ _ _ _=>rfl⟩
  prsub:=fun b o q=>q
  prnew:=fun b o q=>.inl q
  lamsub:=hs.lamsub
  coh2:=fun s s' t e e' q q' q2=>by rw [hcl s t e q] at q2; cases q2
  old:=fun s t e q q2=>by rw [(h1 s).1]; exact hs.env s
  ptr:=fun s s' t e e' b o g q=>by have:=hcl s _ _ q; omega }
 refine wp_mono (h F' a w pr lam hF hsF) ?_
 rintro ex a2 w2 ⟨s2,pr2,lam2,⟨s3,⟨l1,l2⟩,hq⟩,h2⟩
 have hk:=h2.keep
 refine ⟨s3,pr2,lam2,hq,{
  size:=h2.size,defers:=h2.defers
  env:=fun s=>by rw [(l1 s).1]; exact h2.env s
  own:=fun s t e q=>by rw [(l1 s).2] at q; cases q
  coh:=fun s s' t t' e e' g q=>by rw [(l1 s).2] at q; cases q
  box:=fun i B q=>by
   rw [l2] at q
   obtain ⟨b,b1,b2,b3,b4⟩:=h2.box i B q
   refine ⟨b,b1,b2,b3,?_⟩
   rcases b4 with b4 | b4 | b4
   ·exact .inl (Nat.le_trans hs.keep.size b4)
   ·exact .inr b4
   ·exact .inl b4
  inj:=fun i j B B' b q q'=>by rw [l2] at q q'; exact h2.inj i j B B' b q q'
  apart:=fun i B b s t e q q' q2=>by rw [(l1 s).2] at q2; cases q2
  nolam:=fun i q=>by rw [l2] at q; exact h2.nolam i q
  prlt:=h2.prlt
  keep:=⟨hk.os.trans hs.keep.os,hk.tape.trans hs.keep.tape,hk.output.trans hs.keep.output,DLE.trans hs.keep.drawn hk.drawn,Nat.le_trans hs.keep.size hk.size,fun k q1 q2 q3=>?_⟩
  prsub:=fun b o q=>h2.prsub b o (hs.prsub b o q)
  prnew:=fun b o q=>by
   rcases h2.prnew b o q with q | q
   ·exact hs.prnew b o q
   ·rcases q with q | q
    ·exact .inr (.inl (Nat.le_trans hs.keep.size q))
    ·cases q
  lamsub:=h2.lamsub
  coh2:=fun s s' t e e' q=>by rw [(l1 s).2] at q; cases q
  old:=fun s t e q=>by rw [(l1 s).2] at q; cases q
  ptr:=fun s s' t e e' b o g q=>by rw [(l1 s).2] at q; cases q }⟩
 have e:=hk.block k (Nat.lt_of_lt_of_le q1 hs.keep.size) (fun q=>by
  rcases q with q | q
  ·exact q2 q
  ·exact Nat.lt_irrefl _ (Nat.lt_of_lt_of_le q1 q)) (fun q=>by cases q)
 exact e.trans (hs.keep.block k q1 q2 q3)
theorem getS_all {ro:RO} (h:ro.all = true) (m:Mm) (s:Nat):getS ro m s = (m.sl.get s).getD (.any,none):=by
 unfold getS RO.own
 rw [h]; rfl
theorem toSt_age {ro:RO} {m:Mm} (h:ro.all = true):∀ s,(toSt ro (ageX m)).env s = (toSt ro m).env s∧((toSt ro (ageX m)).tok s = none ∨ ∃ e,(toSt ro (ageX m)).tok s = some (2000000,e)):=by
 intro s
 show toV (getS ro (ageX m) s).1 = toV (getS ro m s).1∧((getS ro (ageX m) s).2 = none ∨ ∃ e,(getS ro (ageX m) s).2 = some (2000000,e))
 rw [getS_all h,getS_all h]
 unfold ageX
 rw [T.get_mapV]
 cases m.sl.get s with
 | none=>exact ⟨rfl,.inl rfl⟩
 | some x=>exact ⟨rfl,.inr ⟨0,rfl⟩⟩
theorem toSt_drop {ro:RO} {m:Mm} (h:ro.all = true):Loose (toSt ro m) (toSt ro (looseX m)):=by
 refine ⟨fun s=>?_,rfl⟩
 show toV (getS ro (looseX m) s).1 = toV (getS ro m s).1∧(getS ro (looseX m) s).2 = none
 rw [getS_all h,getS_all h]
 unfold looseX
 rw [T.get_mapV]
 cases m.sl.get s with
 | none=>exact ⟨rfl,rfl⟩
 | some x=>exact ⟨rfl,rfl⟩
theorem codeX_sound (hm:P.follows .mixedOrders = true) {n':Nat}:∀ (c:Code) (a:Ann) (ro:RO) (hro:ROok (!Nat.beq X.wr 0) ro) (m:Mm) {β:Type} (k:Exit→Mm→Option β) (r:β) (Kp:Exit→St→Prop),okX n' c a = true →
  (∀ ex m',k ex m' = some r→Kp ex (toSt ro m'))→codeX X c a ro m k = some r→AWp P n' c (toSt ro m) Kp
 | .skip,_,ro,hro,m,β,k,r,Kp,_,hK,h=>fun F a w pr lam _ hs=>wp_skip ⟨_,pr,lam,hK _ _ h,hs⟩
 | .label _,_,ro,hro,m,β,k,r,Kp,_,hK,h=>fun F a w pr lam _ hs=>wp_label ⟨_,pr,lam,hK _ _ h,hs⟩
 | .exit id,_,ro,hro,m,β,k,r,Kp,_,hK,h=>fun F a w pr lam _ hs=>wp_exit ⟨_,pr,lam,hK _ _ h,hs⟩
 | .ret,_,ro,hro,m,β,k,r,Kp,_,hK,h=>fun F a w pr lam _ hs=>wp_ret ⟨_,pr,lam,hK _ _ h,hs⟩
 | .region id ops dr,a,ro,hro,m,β,k,r,Kp,hok,hK,h=>by
  cases hful:(dr && a.isFull) with
  | true =>
   simp only [okX,hful,cond_true,Bool.and_eq_true] at hok
   simp only [codeX,hful,cond_true] at h
   rw [Bool.and_eq_true] at hful
   obtain ⟨rfl,_⟩:=hful
   exact AWp.full hm hok.1 hok.2 (fullX_sound hro (fun m' h'=>hK _ _ h') _ _ m h)
  | false =>
  simp only [okX,hful,cond_false] at hok
  simp only [codeX,hful,cond_false] at h
  clear hful
  cases hsch:(dr && a.isSch) with
  | true =>
   simp only [hsch,cond_true,Bool.and_eq_true] at hok
   simp only [hsch,cond_true] at h
   rw [Bool.and_eq_true] at hsch
   obtain ⟨rfl,_⟩:=hsch
   split at h
   ·rename_i l hl
    exact AWp.sched hm hok.1 hok.2 hl (schX_sound hro (fun m' h'=>hK _ _ h') l m h)
   ·cases h
  | false =>
  simp only [hsch,cond_false] at hok
  simp only [hsch,cond_false] at h
  cases hsc:a.isSch with
  | true =>
   rw [hsc] at hok h hsch
   simp only [cond_true] at hok h
   simp only [Bool.and_true] at hsch
   subst hsch
   exact AWp.clr hok (tailX_sound hro (fun m' h'=>hK _ _ h') _ m h)
  | false =>
  rw [hsc] at hok h
  simp only [cond_false] at hok h
  clear hsch hsc
  cases dr with
  | false =>
   refine codeVC_sound hm (.region id ops false) _ _ hok ?_
   show (if ([]:List Nat).contains id = true then _ else regVC P false ops (toSt ro m) (Kp .normal))
   rw [if_neg (by simp)]
   exact ⟨(fun h=>by cases h),opsX_sound hro (fun m' h'=>hK _ _ h') _ _ h⟩
  | true =>
   have hv:opsVC P true (ops.toList.map (·.dst)) ops.toList (toSt ro ⟨m.sl.mapV (clrD ((ops.toList.filter newOp).map (·.dst))),m.bx⟩) (Kp .normal):=opsX_sound hro (fun m' h'=>hK _ _ h') _ _ h
   have hn:=clrD_noTok (m:=m) hro ops
   have hw:=clrD_weak (ro:=ro) (m:=m) ((ops.toList.filter newOp).map (·.dst))
   generalize hm1:toSt ro ⟨m.sl.mapV (clrD ((ops.toList.filter newOp).map (·.dst))),m.bx⟩ = st1 at hv hn hw
   have hc:AWp P n' (.region id ops true) st1 Kp:=by
    refine codeVC_sound hm (.region id ops true) _ _ hok ?_
    show (if ([]:List Nat).contains id = true then _ else regVC P true ops st1 (Kp .normal))
    rw [if_neg (by simp)]
    exact ⟨fun _=>hn,hv⟩
   intro F a w pr lam hF hs
   refine hc F a w pr lam hF ?_
   have:=SRel.weak hs (nb':=st1.nb) (sl':=st1.sl) hw
   have hb:st1.box = (toSt ro m).box:=by rw [← hm1]; rfl
   rw [← hb] at this
   exact this
 | .seq x y,a,ro,hro,m,β,k,r,Kp,hok,hK,h=>by
  simp only [okX,Bool.and_eq_true] at hok
  refine awp_seq (codeX_sound hm x a.l ro hro m _ r _ hok.1 ?_ h)
  intro ex m' h'
  cases ex with
  | normal =>
   simp only at h'
   cases hold:(a.r.isOld && ro.all) with
   | false =>
    rw [hold] at h'
    exact codeX_sound hm y a.r.un ro hro m' k r Kp hok.2 hK h'
   | true =>
    rw [hold] at h'
    rw [Bool.and_eq_true] at hold
    exact AWp.reframe (toSt_age hold.2) rfl (codeX_sound hm y a.r.un ro hro (ageX m') _ r (fun ex s2=>∃ s3,Loose s2 s3∧Kp ex s3) hok.2 (fun ex m2 hq=>⟨_,toSt_drop hold.2,hK ex _ hq⟩) h')
  | exit id=>exact hK _ _ h'
  | goto l=>exact hK _ _ h'
  | ret=>exact hK _ _ h'
  | panic c=>exact hK _ _ h'
  | outgrown=>exact hK _ _ h'
 | .cond c x y,a,ro,hro,m,β,k,r,Kp,hok,hK,h=>by
  simp only [okX,Bool.and_eq_true] at hok
  simp only [codeX] at h
  split at h
  ·rename_i b hb
   have he:(toSt ro m).eval c = .bool b:=by rw [← evalX_V,hb]; simp [toV]
   refine awp_cond he (fun hbt=>?_) (fun hbf=>?_)
   ·subst hbt
    have:=codeX_sound hm x a.l ro hro (refineX ro m c true) k r Kp hok.1 hK h
    rwa [refine_eqX hb] at this
   ·subst hbf
    have:=codeX_sound hm y a.r ro hro (refineX ro m c false) k r Kp hok.2 hK h
    rwa [refine_eqX hb] at this
  ·cases h
 | .block id x,a,ro,hro,m,β,k,r,Kp,hok,hK,h=>by
  refine awp_block (codeX_sound hm x a ro hro m _ r _ hok ?_ h)
  intro ex m' h'
  cases ex with
  | exit id' =>
   simp only at h'
   simp only [blockQ]
   cases hb:Nat.beq id' id with
   | true=>rw [hb] at h'; rw [if_pos (Nat.eq_of_beq_eq_true hb)]; exact hK _ _ h'
   | false =>
    rw [hb] at h'
    rw [if_neg (fun e=>by subst e; simp at hb)]
    exact hK _ _ h'
  | normal=>exact hK _ _ h'
  | goto l=>exact hK _ _ h'
  | ret=>exact hK _ _ h'
  | panic c=>exact hK _ _ h'
  | outgrown=>exact hK _ _ h'
 | .loop x,.loop ds bs L es a,ro,hro,m,β,k,r,Kp,hok,hK,h=>by
  simp only [codeX] at h
  obtain ⟨h0,h⟩:=condS h
  simp only [Bool.and_eq_true] at h0
  obtain ⟨⟨⟨⟨⟨⟨⟨c1,c2⟩,c3⟩,c4⟩,c5⟩,c6⟩,c7⟩,c8⟩:=h0
  split at h
  case h_2=>cases h
  rename_i v0 hv0
  obtain ⟨out,hit,hw⟩:=bind_some h
  obtain ⟨N,hN⟩:=iter_some.1 hit
  have d1:∀ s ∈ ds,ro.own s = true:=List.all_eq_true.1 c1
  have d2:∀ i ∈ bs,ro.ownB i = true:=List.all_eq_true.1 c2
  have d3:∀ i ∈ bs,i < m.bx.length:=fun i hi=>bltS (List.all_eq_true.1 c3 i hi)
  have d4:∀ i ∈ bs,hasBox L i = true:=List.all_eq_true.1 c4
  have d5:∀ e ∈ es,∀ i ∈ bs,hasBox e.2 i = true:=fun e he=>List.all_eq_true.1 (List.all_eq_true.1 c5 e he)
  have d6:ro.nb ≤ m.bx.length:=Nat.le_of_ble_eq_true c6
  have ownI:∀ s,(inner (!Nat.beq X.wr 0) ro m ds bs).own s = decide (s ∈ ds):=fun s=>by
   unfold RO.own inner; simp only [cond_false]; exact maskOf_spec ds s
  have ownBI:∀ i,i < m.bx.length→(inner (!Nat.beq X.wr 0) ro m ds bs).ownB i = decide (i ∈ bs):=fun i hi=>by
   unfold RO.ownB inner
   have:Nat.ble m.bx.length i = false:=by
    cases hb:Nat.ble m.bx.length i
    ·rfl
    ·have:=Nat.le_of_ble_eq_true hb; omega
   rw [this]; simp only [cond_false]; exact maskOf_spec bs i
  have ownBI':∀ i,m.bx.length ≤ i→(inner (!Nat.beq X.wr 0) ro m ds bs).ownB i = true:=fun i hi=>by
   unfold RO.ownB inner
   rw [Nat.ble_eq_true_of_le hi]; rfl
  have hroI:ROok (!Nat.beq X.wr 0) (inner (!Nat.beq X.wr 0) ro m ds bs):=by
   refine ⟨fun s=>unTok_idem _ _,fun s t e h=>unTok_tok h,fun hfl s _=>?_,fun hfl i B hi hB=>?_⟩
   ·have hfl':(!Nat.beq X.wr 0) = true:=by
     have:((!Nat.beq X.wr 0) && _) = true:=hfl
     rw [Bool.and_eq_true] at this; exact this.1
    show (unTok (!Nat.beq X.wr 0) (getS ro m s)).2 ≠ none ∨ flatS (unTok (!Nat.beq X.wr 0) (getS ro m s)).1 = true
    rw [hfl']
    exact unTok_flat
   ·have hfl':((List.range m.bx.length).all fun i=>match getB ro m i with | some B=>flatB B | none=>true) = true:=by
     have:((!Nat.beq X.wr 0) && _) = true:=hfl
     rw [Bool.and_eq_true] at this; exact this.2
    have hil:i < m.bx.length:=by
     rcases Nat.lt_or_ge i m.bx.length with q | q
     ·exact q
     ·rw [ownBI' i q] at hi; cases hi
    have:=List.all_eq_true.1 hfl' i (List.mem_range.2 hil)
    have hB':getB ro m i = some B:=hB
    rw [hB'] at this
    exact this
  intro F ac w pr lam hF hs
  obtain ⟨E1,E2,E3⟩:=SRel.below hs c6
  have f1:∀ i,hasBox L i = true→i < m.bx.length:=fun i hi=>d3 i (anyBeq.1 (List.all_eq_true.1 c7 i (boxesOf_spec hi)))
  have f2:∀ e ∈ es,∀ i,hasBox e.2 i = true→i < m.bx.length:=fun e he i hi=>d3 i (anyBeq.1 (List.all_eq_true.1 (List.all_eq_true.1 c8 e he) i (boxesOf_spec hi)))
  have hlen0:(⟨.nil,List.replicate m.bx.length none⟩:Mm).bx.length = m.bx.length:=by simp
  have getS0:∀ s,getS (inner (!Nat.beq X.wr 0) ro m ds bs) ⟨.nil,List.replicate m.bx.length none⟩ s = if s ∈ ds then (.any,none) else unTok (!Nat.beq X.wr 0) (getS ro m s):=by
   intro s
   rw [getS,ownI]
   by_cases hs:s ∈ ds
   ·simp [hs,T.get_nil]
   ·simp only [hs,decide_false,cond_false,if_false]
    rfl
  have getB0:∀ i,i < m.bx.length→i ∉ bs→getB (inner (!Nat.beq X.wr 0) ro m ds bs) ⟨.nil,List.replicate m.bx.length none⟩ i = getB ro m i:=by
   intro i hi hb
   rw [getB,ownBI i hi]
   simp only [hb,decide_false,cond_false]
   rfl
  have E1':∀ s,ltV m.bx.length (toV (getS (inner (!Nat.beq X.wr 0) ro m ds bs) ⟨.nil,List.replicate m.bx.length none⟩ s).1) = true:=by
   intro s
   rw [getS0]
   split
   ·simp [toV,ltV]
   ·exact unTok_lt (E1 s)
  have E2':∀ i B,getB (inner (!Nat.beq X.wr 0) ro m ds bs) ⟨.nil,List.replicate m.bx.length none⟩ i = some B→ltVL m.bx.length (toBox B).cells = true:=by
   intro i B hB
   rcases Nat.lt_or_ge i m.bx.length with hi | hi
   ·by_cases hb:i ∈ bs
    ·rw [getB,ownBI i hi] at hB
     simp [hb,hi] at hB
    ·rw [getB0 i hi hb] at hB
     exact E2 i B hB
   ·rw [getB,ownBI' i hi] at hB
    simp [Nat.not_lt.2 hi] at hB
  have enter:∀ (roS:RO) (mS:Mm) (v:tupT L) (a':Act) (w':World) (pr':Nat→Nat→Prop) (lam':Nat→Option Nat),readL (getB ro m) roS mS L = some v→SRel P F (toSt roS mS) a' w' pr' lam' →
    (∀ s,s ∉ ds→Wk (pv (unTok (!Nat.beq X.wr 0) (getS ro m s))) (pv (getS roS mS s)))→(∀ i,i < m.bx.length→i ∉ bs→(getB roS mS i).map toBox = (getB ro m i).map toBox) →
    ∃ lam'',SRel P F (toSt (inner (!Nat.beq X.wr 0) ro m ds bs) (writeL (getB ro m) ⟨.nil,List.replicate m.bx.length none⟩ L v)) a' w' pr' lam'':=by
   intro roS mS v a' w' pr' lam' hr hs' hw1 hw2
   refine SRel.carry hs' hr hlen0 (Nat.le_refl _) f1 (fun s=>?_) (fun i hi=>?_) E1' E2' E3
   ·rw [getS0]
    split
    ·exact .inr (.inr (by simp [pv,toV]))
    ·exact hw1 s ‹_›
   ·by_cases hb:i ∈ bs
    ·exact .inr ⟨d4 i hb,by rw [ownBI i hi]; simp [hb]⟩
    ·rw [getB0 i hi hb]
     exact .inl (hw2 i hi hb).symm
  obtain ⟨lam0,hs0⟩:=enter ro m v0 ac w pr lam hv0 hs (fun s _=>unTok_Wk _ _) (fun i _ _=>rfl)
  have insS:∀ (mI:Mm) s,s ∉ ds→getS (inner (!Nat.beq X.wr 0) ro m ds bs) mI s = unTok (!Nat.beq X.wr 0) (getS ro m s):=by
   intro mI s hsd
   rw [getS,ownI]
   simp only [hsd,decide_false,cond_false]
   rfl
  have insB:∀ (mI:Mm) i,i < m.bx.length→i ∉ bs→getB (inner (!Nat.beq X.wr 0) ro m ds bs) mI i = getB ro m i:=by
   intro mI i hi hb
   rw [getB,ownBI i hi]
   simp only [hb,decide_false,cond_false]
   rfl
  refine wp_loop_ix (fun j a' w'=>∃ v pr' lam',iterN _ j v = some out∧SRel P F (toSt (inner (!Nat.beq X.wr 0) ro m ds bs) (writeL (getB ro m) ⟨.nil,List.replicate m.bx.length none⟩ L v)) a' w' pr' lam') ?_ N ac w ⟨v0,pr,lam0,hN,hs0⟩
  rintro j a' w' ⟨v,pr',lam',hj,hsv⟩
  cases j with
  | zero=>cases hj
  | succ j =>
   unfold iterN at hj
   split at hj
   ·rename_i v' hF'
    have hbody:=codeX_sound hm x a _ hroI _ _ _ (fun ex st'=>∃ m',st' = toSt (inner (!Nat.beq X.wr 0) ro m ds bs) m'∧ex = .normal∧readL (getB ro m) (inner (!Nat.beq X.wr 0) ro m ds bs) m' L = some v') hok (fun ex m' h'=>?_) hF'
    ·refine wp_mono (hbody F a' w' pr' lam' hF hsv) ?_
     rintro ex a'' w'' ⟨st',pr'',lam'',⟨m',rfl,rfl,hr⟩,hs'⟩
     obtain ⟨lam3,hs3⟩:=enter _ m' v' a'' w'' pr'' lam'' hr hs' (fun s hsd=>by rw [insS m' s hsd]; exact .inl rfl) (fun i hi hb=>by rw [insB m' i hi hb])
     exact ⟨j,by omega,v',pr'',lam3,hj,hs3⟩
    ·cases ex with
     | normal =>
      simp only at h'
      split at h'
      ·rename_i w2 hw2; cases h'; exact ⟨m',rfl,rfl,hw2⟩
      ·cases h'
     | exit id =>
      simp only at h'
      split at h'
      ·split at h' <;> cases h'
      ·cases h'
     | ret =>
      simp only at h'
      split at h'
      ·split at h' <;> cases h'
      ·cases h'
     | goto l=>simp [EX.of] at h'
     | panic l=>simp [EX.of] at h'
     | outgrown=>simp [EX.of] at h'
   ·rename_i out' hF'
    cases hj
    have hbody:=codeX_sound hm x a _ hroI _ _ _ (fun ex st'=>∃ m' e,st' = toSt (inner (!Nat.beq X.wr 0) ro m ds bs) m'∧EX.of ex = some e∧readOut (getB ro m) (inner (!Nat.beq X.wr 0) ro m ds bs) m' e es = some out) hok (fun ex m' h'=>?_) hF'
    ·refine wp_mono (hbody F a' w' pr' lam' hF hsv) ?_
     rintro ex a'' w'' ⟨st',pr'',lam'',⟨m',e,rfl,he,hr⟩,hs'⟩
     obtain ⟨L',y,⟨e',hmem⟩,hr',hk'⟩:=readOut_write hr hw
     have getS1:∀ s,getS ro ⟨wipe (m.sl.mapV (unTok (!Nat.beq X.wr 0))) ds,m.bx⟩ s = if s ∈ ds then (.any,none) else unTok (!Nat.beq X.wr 0) (getS ro m s):=by
      intro s
      unfold getS
      by_cases hsd:s ∈ ds
      ·rw [d1 s hsd,if_pos hsd]
       simp [wipe_get,hsd]
      ·rw [if_neg hsd]
       cases ho:ro.own s
       ·exact (hro.idem s).symm
       ·simp only [cond_true]
        rw [wipe_get,if_neg hsd,T.get_mapV]
        cases m.sl.get s
        ·simp [unTok,flatS]
        ·rfl
     obtain ⟨lam3,hs3⟩:=SRel.carry (roT:=ro) (m1:=⟨wipe (m.sl.mapV (unTok (!Nat.beq X.wr 0))) ds,m.bx⟩) (n:=m.bx.length) hs' hr' rfl d6 (f2 _ hmem) (fun s=>by
       rw [getS1]
       split
       ·exact .inr (.inr (by simp [pv,toV]))
       ·rw [insS m' s ‹_›]; exact .inl rfl) (fun i hi=>by
       by_cases hb:i ∈ bs
       ·exact .inr ⟨d5 _ hmem i hb,d2 i hb⟩
       ·rw [insB m' i hi hb]; exact .inl rfl) (fun s=>by
       rw [getS1]
       split
       ·simp [toV,ltV]
       ·exact unTok_lt (E1 s)) E2 E3
     have hfin:=hK _ _ hk'
     rw [EX.of_to he] at hfin
     cases ex with
     | normal=>simp [EX.of] at he
     | exit id=>exact ⟨_,pr'',lam3,hfin,hs3⟩
     | ret=>exact ⟨_,pr'',lam3,hfin,hs3⟩
     | goto l=>simp [EX.of] at he
     | panic l=>simp [EX.of] at he
     | outgrown=>simp [EX.of] at he
    ·cases ex with
     | normal =>
      simp only at h'
      split at h' <;> cases h'
     | exit id =>
      simp only at h'
      split at h'
      ·rename_i e he
       split at h'
       ·rename_i w2 hw2; cases h'; exact ⟨m',e,rfl,he,hw2⟩
       ·cases h'
      ·cases h'
     | ret =>
      simp only at h'
      split at h'
      ·rename_i e he
       split at h'
       ·rename_i w2 hw2; cases h'; exact ⟨m',e,rfl,he,hw2⟩
       ·cases h'
      ·cases h'
     | goto l=>simp [EX.of] at h'
     | panic l=>simp [EX.of] at h'
     | outgrown=>simp [EX.of] at h'
   ·cases hj
 | .loop _,.no,ro,hro,m,β,k,r,Kp,_,_,h=>by cases h
 | .loop _,.two _ _,ro,hro,m,β,k,r,Kp,_,_,h=>by cases h
 | .rangeFunc _ _ _ _,a,ro,hro,m,β,k,r,Kp,_,_,h=>by cases a <;> cases h
 | .scope _,a,ro,hro,m,β,k,r,Kp,_,_,h=>by cases a <;> cases h
 | .goto _,a,ro,hro,m,β,k,r,Kp,_,_,h=>by cases a <;> cases h
 | .refuse _,a,ro,hro,m,β,k,r,Kp,_,_,h=>by cases a <;> cases h
end
end Go.X
namespace Go.X
open Go.Eng
open Go.RowKit
variable {β:Type}
section
variable {P:Program}
theorem initSl_get:∀ (args:List S) (n s:Nat),(initSl n args).get s = if n ≤ s then (args[s - n]?).map (·,some (2000000,0)) else none
 | [],n,s=>by simp [initSl,T.get_nil]
 | a :: args,n,s=>by
  simp only [initSl]
  rw [T.get_set,initSl_get args (n + 1) s]
  by_cases h:s = n
  ·subst h; simp
  ·rw [if_neg h]
   by_cases h1:n + 1 ≤ s
   ·rw [if_pos h1,if_pos (by omega)]
    have:s - n = s - (n + 1) + 1:=by omega
    rw [this,List.getElem?_cons_succ]
   ·rw [if_neg h1,if_neg (by omega)]
theorem init_weak {F:Fr} {a:Act} {w:World} {pr:Nat→Nat→Prop} {lam:Nat→Option Nat} {args:List S} {ins:List SBox} (h:SRel P F (St.init (toVL args) (ins.map toBox)) a w pr lam) :
  SRel P F (toSt roTop ⟨initSl 0 args,ins.map some⟩) a w pr lam:=by
 have hw:=SRel.weak h (nb':=ins.length) (sl':=(toSt roTop ⟨initSl 0 args,ins.map some⟩).sl) (fun s=>?_)
 ·refine (congrArg (fun st=>SRel P F st a w pr lam) ?_).mp hw
  show (⟨ins.length,_,_⟩:St) = toSt _ _
  unfold toSt
  congr 1
  ·simp
  ·funext i
   show (ins.map toBox)[i]? = (getB roTop ⟨initSl 0 args,ins.map some⟩ i).map toBox
   have:getB roTop ⟨initSl 0 args,ins.map some⟩ i = ((ins.map some)[i]?).getD none:=rfl
   rw [this,List.getElem?_map,List.getElem?_map]
   cases ins[i]? <;> rfl
 ·show Wk (pv (getS roTop ⟨initSl 0 args,ins.map some⟩ s)) ((toVL args).getD s .un,some (2000000,0))
  have:getS roTop ⟨initSl 0 args,ins.map some⟩ s = ((initSl 0 args).get s).getD (.any,none):=rfl
  rw [this,initSl_get]
  simp only [Nat.zero_le,if_true,Nat.sub_zero]
  cases hq:args[s]? with
  | none=>exact .inr (.inr (by simp [pv,toV]))
  | some x =>
   refine .inl ?_
   simp only [Option.map_some,Option.getD_some,pv,List.getD,toVL_get,hq]
theorem resX_spec {m:Mm}:∀ {rs:List ResultVar} {vs:List S},resX (P:=P) m rs = some vs→resAll (toSt roTop m) P rs = some (toVL vs)
 | [],vs,h=>by simp only [resX,Option.some.injEq] at h; subst h; simp [resAll,toVL]
 | r :: rs,vs,h=>by
  simp only [resX] at h
  simp only [resAll]
  split at h
  ·rename_i v vs' h1 h2
   cases h
   rw [resX_spec h2]
   have:resOne (toSt roTop m) P r = some (toV v):=by
    cases r with
    | tmp t =>
     simp only [Option.some.injEq] at h1
     subst h1; rfl
    | cell a t =>
     simp only at h1
     have he:(toSt roTop m).env a = toV (getS roTop m a).1:=rfl
     simp only [resOne]
     rw [he]
     split at h1
     ·rename_i i off hl
      rw [hl]
      simp only [toV]
      split at h1
      ·rename_i cs ty hB ha
       have hb:(toSt roTop m).box i = some ⟨toVL cs,ty⟩:=by show (getB roTop m i).map toBox = _; rw [hB]; rfl
       simp only [hb,ha]
       split at h1
       ·rename_i n hn
        obtain ⟨q1,q2⟩:=condS h1
        simp only [Bool.and_eq_true] at q1
        cases q2
        simp only [hn]
        rw [if_pos ⟨bltS q1.1,by rw [toVL_length]; exact Nat.le_of_ble_eq_true q1.2⟩]
        simp [toV,toVL_seg]
       ·cases h1
      ·rename_i cs ty hB ha
       have hb:(toSt roTop m).box i = some ⟨toVL cs,ty⟩:=by show (getB roTop m i).map toBox = _; rw [hB]; rfl
       simp only [hb,ha]
       cases hq:Nat.blt ty 1000000000 with
       | false=>rw [hq] at h1; cases h1
       | true =>
        rw [hq] at h1
        simp only [cond_true] at h1
        rw [if_pos (bltS hq),toVL_get,h1]; rfl
      ·cases h1
     ·cases h1
   rw [this]
   simp [toVL]
  ·cases h
theorem outsX_spec {m:Mm}:∀ {n i:Nat} {outs:List SBox},outsX m i n = some outs→outs.length = n∧(∀ B ∈ outs,noLocB B = true)∧∀ j B,outs[j]? = some B→getB roTop m (i + j) = some B
 | 0,i,outs,h=>by
  simp only [outsX,Option.some.injEq] at h; subst h
  exact ⟨rfl,by simp,fun j B hj=>by simp at hj⟩
 | n + 1,i,outs,h=>by
  simp only [outsX] at h
  split at h
  ·rename_i B bs h1 h2
   obtain ⟨q1,q2⟩:=condS h
   cases q2
   obtain ⟨a1,a2,a3⟩:=outsX_spec h2
   refine ⟨by simp [a1],fun B' hB'=>?_,fun j B' hj=>?_⟩
   ·simp at hB'
    rcases hB' with rfl | hB'
    ·exact q1
    ·exact a2 B' hB'
   ·cases j with
    | zero=>simp at hj; subst hj; exact h1
    | succ j =>
     have:=a3 j B' (by simpa using hj)
     rwa [show i + 1 + j = i + (j + 1) from by omega] at this
  ·cases h
theorem fn_of_X {X:XCtx P} (hm:P.follows .mixedOrders = true) {f:FuncId} {fn:Func} {c:Code} {a:Ann} (hf:P.funcs[f]? = some fn) (hb:fn.body = some c) (hok:okX fn.ntmps c a = true) {args:List S} {ins:List SBox}
  (hsz:args.length ≤ fn.ntmps) {K:S→List SBox→Option β} {r:β} {vres:V} {vouts:List Box} (h:bodyX X fn.results.toList c a args ins K = some r)
  (hK:∀ res outs,K res outs = some r→outs.length = ins.length→toV res = vres∧outs.map toBox = vouts) (hnl:vres.noLoc = true) (hno:∀ B ∈ vouts,V.noLocL B.cells = true) (hl:vouts.length ≤ ins.length) :
  Go.Eng.Fn P f (toVL args) (ins.map toBox) vres vouts:=by
 refine Fn.of_AWp hf hb (by rw [toVL_length]; exact hsz) hnl hno (by simpa using hl) ?_
 have hc:=codeX_sound (X:=X) hm c a roTop ⟨fun s=>by simp [roTop,unTok,flatS],fun s t e h=>(by cases h),fun _ s _=>.inr rfl,fun _ i B hi=>(by cases hi)⟩ _ _ r (endQ P fn.results.toList vres vouts) hok ?_ h
 ·intro F ac w pr lam hF hs
  exact hc F ac w pr lam hF (init_weak hs)
 ·intro ex m' hk
  have key:(∃ vs outs,resX (P:=P) m' fn.results.toList = some vs∧outsX m' 0 ins.length = some outs∧K (match vs with | [v]=>v | vs=>.tup vs) outs = some r)→resV (toSt roTop m') P fn.results.toList = some vres∧(∀ i B,vouts[i]? = some B→(toSt roTop m').box i = some B):=by
   rintro ⟨vs,outs,h1,h2,h3⟩
   obtain ⟨q1,q2,q3⟩:=outsX_spec h2
   obtain ⟨e1,e2⟩:=hK _ _ h3 q1
   refine ⟨?_,fun i B hB=>?_⟩
   ·unfold resV
    rw [resX_spec h1,← e1]
    match vs with
    | []=>simp [toVL,toV]
    | [v]=>simp [toVL]
    | v :: w :: vs=>simp [toVL,toV]
   ·rw [← e2,List.getElem?_map] at hB
    cases ho:outs[i]? with
    | none=>rw [ho] at hB; cases hB
    | some B' =>
     rw [ho] at hB
     cases hB
     show (getB roTop m' i).map toBox = _
     have:=q3 i B' ho
     rw [Nat.zero_add] at this
     rw [this]; rfl
  have hk':(ex = .ret ∨ ex = .normal)∧∃ vs outs,resX (P:=P) m' fn.results.toList = some vs∧outsX m' 0 ins.length = some outs∧K (match vs with | [v]=>v | vs=>.tup vs) outs = some r:=by
   split at hk
   ·rename_i v outs hex h1 h2
    obtain ⟨_,hk⟩:=condS hk
    refine ⟨?_,_,_,h1,h2,hk⟩
    cases ex <;> simp at hex ⊢
   ·rename_i vs outs hne hex h1 h2
    obtain ⟨_,hk⟩:=condS hk
    refine ⟨?_,_,_,h1,h2,?_⟩
    ·cases ex <;> simp at hex ⊢
    ·match vs,hne with
     | [],_=>exact hk
     | [v],hne=>exact absurd rfl (hne v)
     | v :: w :: vs,_=>exact hk
   ·cases hk
  obtain ⟨hex,hk'⟩:=hk'
  rcases hex with rfl | rfl
  ·exact key hk'
  ·exact key hk'
end
@[reducible] def tupC:List C→Type
 | []=>Unit
 | [c]=>den c
 | c :: d :: cs=>den c × tupC (d :: cs)
def unreflC:(cs:List C)→List S→Option (tupC cs)
 | [],[]=>some ()
 | [c],[s]=>unrefl c s
 | c :: d :: cs,s :: ss=>(match unrefl c s,unreflC (d :: cs) ss with | some x,some y=>some (x,y) | _,_=>none)
 | _,_=>none
def reflC:(cs:List C)→tupC cs→List S
 | [],_=>[]
 | [c],x=>[refl c x]
 | c :: d :: cs,x=>refl c x.1 :: reflC (d :: cs) x.2
def encC:(cs:List C)→tupC cs→List V
 | [],_=>[]
 | [c],x=>[enc c x]
 | c :: d :: cs,x=>enc c x.1 :: encC (d :: cs) x.2
theorem reflC_enc:∀ (cs:List C) (x:tupC cs),toVL (reflC cs x) = encC cs x
 | [],_=>by simp [reflC,encC,toVL]
 | [c],x=>by simp [reflC,encC,toVL,refl_enc]
 | c :: d :: cs,x=>by simp [reflC,encC,toVL,refl_enc,reflC_enc (d :: cs) x.2]
theorem unreflC_enc:∀ {cs:List C} {ss:List S} {x:tupC cs},unreflC cs ss = some x→toVL ss = encC cs x
 | [],[],x,h=>by simp [encC,toVL]
 | [],_ :: _,x,h=>by simp [unreflC] at h
 | [c],[],x,h=>by simp [unreflC] at h
 | [c],[s],x,h=>by
  simp only [unreflC] at h
  simp [encC,toVL,unrefl_enc h]
 | [c],_ :: _ :: _,x,h=>by simp [unreflC] at h
 | c :: d :: cs,[],x,h=>by simp [unreflC] at h
 | c :: d :: cs,s :: ss,x,h=>by
  simp only [unreflC] at h
  split at h
  ·rename_i y z hy hz
   cases h
   simp [encC,toVL,unrefl_enc hy,unreflC_enc hz]
  ·cases h
theorem reflC_noLoc:∀ (cs:List C) (x:tupC cs),noLocSL (reflC cs x) = true
 | [],_=>rfl
 | [c],x=>by simp [reflC,noLocSL,refl_noLocS]
 | c :: d :: cs,x=>by simp [reflC,noLocSL,refl_noLocS,reflC_noLoc (d :: cs) x.2]
def resS (rs:List C) (x:tupC rs):S:=match reflC rs x with
 | [v]=>v
 | vs=>.tup vs
def resVt (rs:List C) (x:tupC rs):V:=toV (resS rs x)
def unreflR (rs:List C) (s:S):Option (tupC rs):=match rs with
 | [c]=>unrefl c s
 | rs=>(match s with | .tup vs=>unreflC rs vs | _=>none)
theorem unreflR_enc:∀ {rs:List C} {s:S} {x:tupC rs},unreflR rs s = some x→toV s = resVt rs x
 | [c],s,x,h=>by
  simp only [unreflR] at h
  show toV s = toV (refl c x)
  rw [refl_enc]; exact unrefl_enc h
 | [],s,x,h=>by
  simp only [unreflR] at h
  split at h
  ·rename_i vs
   have e:=unreflC_enc h
   simp only [toV,e,encC]
   show _ = toV (.tup [])
   simp [toV,toVL]
  ·cases h
 | c :: d :: rs,s,x,h=>by
  simp only [unreflR] at h
  split at h
  ·rename_i vs
   have e:=unreflC_enc h
   rw [← reflC_enc] at e
   have hq:resS (c :: d :: rs) x = .tup (reflC (c :: d :: rs) x):=by
    unfold resS
    cases rs <;> simp [reflC]
   unfold resVt
   rw [hq]
   simp only [toV,e]
  ·cases h
theorem resS_noLoc (rs:List C) (x:tupC rs):noLocS (resS rs x) = true:=by
 unfold resS
 have h:=reflC_noLoc rs x
 split
 ·rename_i v e
  rw [e] at h
  simpa [noLocSL] using h
 ·rename_i e; simpa [noLocS] using h
theorem resVt_noLoc (rs:List C) (x:tupC rs):(resVt rs x).noLoc = true:=noLocS_V _ (resS_noLoc rs x)
inductive AK where
 | d (c:C)
 | f (g:FuncId) (caps:List Nat)
 | l (i off:Nat)
 | m (g:FuncId)
 | e
def dataOf:List AK→List C
 | []=>[]
 | .d c :: ak=>c :: dataOf ak
 | _ :: ak=>dataOf ak
def capsS:List Nat→List S
 | []=>[]
 | i :: is=>.loc i 0 :: capsS is
def buildA:List AK→List S→List S
 | [],_=>[]
 | .d _ :: ak,s :: ss=>s :: buildA ak ss
 | .d _ :: ak,[]=>[]
 | .f g caps :: ak,ss=>.fn (.func g) [] (capsS caps) :: buildA ak ss
 | .l i off :: ak,ss=>.loc i off :: buildA ak ss
 | .m g :: ak,ss=>.fn (.func g) [.agg []] [] :: buildA ak ss
 | .e :: ak,ss=>.agg [] :: buildA ak ss
def capsEq:List Nat→List S→Bool
 | [],[]=>true
 | i :: is,.loc j o :: ss=>Nat.beq i j && Nat.beq o 0 && capsEq is ss
 | _,_=>false
def matchA:List AK→List S→Option (List S)
 | [],[]=>some []
 | .d _ :: ak,s :: ss=>(match matchA ak ss with | some ds=>some (s :: ds) | none=>none)
 | .f g caps :: ak,.fn (.func g') [] cs :: ss=>bif Nat.beq g g' && capsEq caps cs then matchA ak ss else none
 | .l i off :: ak,.loc i' off' :: ss=>bif Nat.beq i i' && Nat.beq off off' then matchA ak ss else none
 | .m g :: ak,.fn (.func g') [.agg []] [] :: ss=>bif Nat.beq g g' then matchA ak ss else none
 | .e :: ak,.agg [] :: ss=>matchA ak ss
 | _,_=>none
theorem capsEq_spec:∀ {is:List Nat} {ss:List S},capsEq is ss = true→ss = capsS is
 | [],[],_=>rfl
 | [],_ :: _,h=>by simp [capsEq] at h
 | _ :: _,[],h=>by simp [capsEq] at h
 | i :: is,s :: ss,h=>by
  cases s <;> simp only [capsEq,Bool.and_eq_true,Bool.false_eq_true] at h
  rename_i j o
  obtain ⟨⟨h1,h2⟩,h3⟩:=h
  rw [Nat.eq_of_beq_eq_true h1,Nat.eq_of_beq_eq_true h2,capsEq_spec h3]
  rfl
theorem matchA_spec:∀ {ak:List AK} {ss ds:List S},matchA ak ss = some ds→ss = buildA ak ds
 | [],[],ds,h=>by simp only [matchA,Option.some.injEq] at h; subst h; rfl
 | [],_ :: _,ds,h=>by simp [matchA] at h
 | .d c :: ak,[],ds,h=>by simp [matchA] at h
 | .d c :: ak,s :: ss,ds,h=>by
  simp only [matchA] at h
  split at h
  ·rename_i ds' hd; cases h; simp only [buildA]; rw [← matchA_spec hd]
  ·cases h
 | .f g caps :: ak,[],ds,h=>by simp [matchA] at h
 | .l i off :: ak,[],ds,h=>by simp [matchA] at h
 | .f g caps :: ak,s :: ss,ds,h=>by
  cases s with
  | fn f first cap =>
   cases f with
   | func g' =>
    cases first with
    | nil =>
     simp only [matchA] at h
     obtain ⟨h1,h2⟩:=condS h
     simp only [Bool.and_eq_true] at h1
     simp only [buildA]
     rw [← matchA_spec h2,Nat.eq_of_beq_eq_true h1.1,capsEq_spec h1.2]
    | cons=>simp [matchA] at h
   | _=>simp [matchA] at h
  | _=>simp [matchA] at h
 | .l i off :: ak,s :: ss,ds,h=>by
  cases s with
  | loc i' off' =>
   simp only [matchA] at h
   obtain ⟨h1,h2⟩:=condS h
   simp only [Bool.and_eq_true] at h1
   simp only [buildA]
   rw [← matchA_spec h2,Nat.eq_of_beq_eq_true h1.1,Nat.eq_of_beq_eq_true h1.2]
  | _=>simp [matchA] at h
 | .m g :: ak,[],ds,h=>by simp [matchA] at h
 | .e :: ak,[],ds,h=>by simp [matchA] at h
 | .m g :: ak,s :: ss,ds,h=>by
  unfold matchA at h
  split at h
  all_goals first | (simp at *; done) | skip
  ·rename_i heq1 heq2
   cases heq1
   cases heq2
   obtain ⟨h1,h2⟩:=condS h
   simp only [buildA]
   rw [← matchA_spec h2,Nat.eq_of_beq_eq_true h1]
 | .e :: ak,s :: ss,ds,h=>by
  unfold matchA at h
  split at h
  all_goals first | (simp at *; done) | skip
  ·rename_i heq1 heq2
   cases heq1
   cases heq2
   simp only [buildA]
   rw [← matchA_spec h]
theorem buildA_le:∀ (ak:List AK) (ss:List S),(buildA ak ss).length ≤ ak.length
 | [],_=>by simp [buildA]
 | .d c :: ak,[]=>by simp [buildA]
 | .d c :: ak,s :: ss=>by simp [buildA]; exact buildA_le ak ss
 | .f g caps :: ak,ss=>by simp [buildA]; exact buildA_le ak ss
 | .l i o :: ak,ss=>by simp [buildA]; exact buildA_le ak ss
 | .m g :: ak,ss=>by simp [buildA]; exact buildA_le ak ss
 | .e :: ak,ss=>by simp [buildA]; exact buildA_le ak ss
theorem buildA_congr:∀ (ak:List AK) {ss ds:List S},toVL ss = toVL ds→toVL (buildA ak ss) = toVL (buildA ak ds)
 | [],_,_,_=>rfl
 | .d c :: ak,[],[],_=>rfl
 | .d c :: ak,[],_ :: _,h=>by simp [toVL] at h
 | .d c :: ak,_ :: _,[],h=>by simp [toVL] at h
 | .d c :: ak,s :: ss,d :: ds,h=>by
  simp only [toVL,List.cons.injEq] at h
  simp only [buildA,toVL,h.1,buildA_congr ak h.2]
 | .f g caps :: ak,ss,ds,h=>by simp only [buildA,toVL,buildA_congr ak h]
 | .l i off :: ak,ss,ds,h=>by simp only [buildA,toVL,buildA_congr ak h]
 | .m g :: ak,ss,ds,h=>by simp only [buildA,toVL,buildA_congr ak h]
 | .e :: ak,ss,ds,h=>by simp only [buildA,toVL,buildA_congr ak h]
abbrev BK:=List (C × TypeId)
@[reducible] def bkC (b:BK):List C:=b.map (·.1)
def boxesS:(b:BK)→tupC (bkC b)→List SBox
 | [],_=>[]
 | [c],x=>[.cells (cellsS (refl c.1 x)) c.2]
 | c :: d :: b,x=>.cells (cellsS (refl c.1 x.1)) c.2 :: boxesS (d :: b) x.2
def unbox1 (c:C) (ty:TypeId):SBox→Option (den c)
 | .cells cs ty'=>bif Nat.beq ty' ty then (match unrefl c (.agg cs) with
  | some y=>some y
  | none=>(match cs with
   | [.agg _]=>none
   | [x]=>unrefl c x
   | _=>none)) else none
 | _=>none
def unboxes:(b:BK)→List SBox→Option (tupC (bkC b))
 | [],[]=>some ()
 | [c],[B]=>unbox1 c.1 c.2 B
 | c :: d :: b,B :: Bs=>(match unbox1 c.1 c.2 B,unboxes (d :: b) Bs with | some x,some y=>some (x,y) | _,_=>none)
 | _,_=>none
theorem unbox1_spec {c:C} {ty:TypeId} {B:SBox} {x:den c} (h:unbox1 c ty B = some x):toBox B = toBox (.cells (cellsS (refl c x)) ty):=by
 cases B with
 | map=>cases h
 | cells cs ty' =>
  simp only [unbox1] at h
  obtain ⟨h1,h2⟩:=condS h
  have ht:=Nat.eq_of_beq_eq_true h1
  subst ht
  simp only [toBox]
  congr 1
  rw [refl_cells]
  split at h2
  ·rename_i y hy
   cases h2
   have:=unrefl_enc hy
   simp only [toV] at this
   rw [← this]; rfl
  ·split at h2
   ·cases h2
   ·rename_i z hz _
    have:=unrefl_enc h2
    rw [← this]
    have hne:∀ ds,z ≠ .agg ds:=fun ds e=>hz ds (by rw [e])
    have hcl:(toV z).cellsL = [toV z]:=by
     cases z with
     | agg ds=>exact absurd rfl (hne ds)
     | gel g o=>simp only [toV]; split <;> rfl
     | ivd x=>simp only [toV]; exact iv_cellsL x
     | _=>rfl
    rw [hcl]; simp [toVL]
   ·cases h2
theorem unboxes_spec:∀ {b:BK} {Bs:List SBox} {x:tupC (bkC b)},unboxes b Bs = some x→Bs.map toBox = (boxesS b x).map toBox
 | [],[],x,h=>rfl
 | [],_ :: _,x,h=>by simp [unboxes] at h
 | [c],[],x,h=>by simp [unboxes] at h
 | [c],[B],x,h=>by
  simp only [unboxes] at h
  simp only [boxesS,List.map_cons,List.map_nil,unbox1_spec h]
 | [c],_ :: _ :: _,x,h=>by simp [unboxes] at h
 | c :: d :: b,[],x,h=>by simp [unboxes] at h
 | c :: d :: b,B :: Bs,x,h=>by
  simp only [unboxes] at h
  split at h
  ·rename_i y z hy hz
   cases h
   simp only [boxesS,List.map_cons,unbox1_spec hy]
   congr 1
   exact unboxes_spec hz
  ·cases h
theorem boxesS_length:∀ (b:BK) (x:tupC (bkC b)),(boxesS b x).length = b.length
 | [],_=>rfl
 | [c],_=>rfl
 | c :: d :: b,x=>by simp [boxesS,boxesS_length (d :: b) x.2]
theorem cellsS_noLoc {s:S} (h:noLocS s = true):noLocSL (cellsS s) = true:=by
 cases s <;> simp_all [cellsS,noLocS,noLocSL]
theorem boxesS_noLoc:∀ (b:BK) (x:tupC (bkC b)),∀ B ∈ boxesS b x,noLocB B = true
 | [],_=>by simp [boxesS]
 | [c],x=>by
  intro B hB
  simp [boxesS] at hB; subst hB
  exact cellsS_noLoc (refl_noLocS _ _)
 | c :: d :: b,x=>by
  intro B hB
  simp only [boxesS,List.mem_cons] at hB
  rcases hB with rfl | hB
  ·exact cellsS_noLoc (refl_noLocS _ _)
  ·exact boxesS_noLoc (d :: b) x.2 B hB
def FnT (P:Program) (f:FuncId) (ak:List AK) (rs:List C) (g:tupC (dataOf ak)→Option (tupC rs)):Prop :=
 ∀ x r,g x = some r→Go.Eng.Fn P f (toVL (buildA ak (reflC _ x))) [] (resVt rs r) []
def FnB (P:Program) (f:FuncId) (ak:List AK) (b:BK) (rs:List C) (g:tupC (dataOf ak)→tupC (bkC b)→Option (tupC rs × tupC (bkC b))):Prop :=
 ∀ x y r y',g x y = some (r,y')→Go.Eng.Fn P f (toVL (buildA ak (reflC _ x))) ((boxesS b y).map toBox) (resVt rs r) ((boxesS b y').map toBox)
def XSpec.t {P:Program} (f:FuncId) (ak:List AK) (rs:List C) (g:tupC (dataOf ak)→Option (tupC rs)) (hgo:isGo P f = true) (h:FnT P f ak rs g):XSpec P where
 f:=f
 run:=fun args ins K=>match ins with
  | []=>(match matchA ak args with
   | some ds=>(match unreflC (dataOf ak) ds with
    | some x=>some ((g x).bind fun r=>K (resS rs r) [])
    | none=>none)
   | none=>none)
  | _=>none
 sound:=by
  intro β args ins K r hr
  split at hr
  ·split at hr
   ·rename_i ds hd
    split at hr
    ·rename_i x hx
     simp only [Option.some.injEq] at hr
     obtain ⟨y,h1,h2⟩:=bind_some hr
     refine ⟨_,_,h2,hgo,?_,resS_noLoc rs y,by simp,rfl⟩
     have hF:=h x y h1
     have e:=unreflC_enc hx
     rw [← reflC_enc] at e
     rw [← buildA_congr ak e,← matchA_spec hd] at hF
     exact hF
    ·cases hr
   ·cases hr
  ·cases hr
def XSpec.b {P:Program} (f:FuncId) (ak:List AK) (b:BK) (rs:List C) (g:tupC (dataOf ak)→tupC (bkC b)→Option (tupC rs × tupC (bkC b))) (hgo:isGo P f = true) (h:FnB P f ak b rs g):XSpec P where
 f:=f
 run:=fun args ins K=>match matchA ak args,unboxes b ins with
  | some ds,some y=>(match unreflC (dataOf ak) ds with
    | some x=>some ((g x y).bind fun r=>K (resS rs r.1) (boxesS b r.2))
    | none=>none)
  | _,_=>none
 sound:=by
  intro β args ins K r hr
  split at hr
  ·rename_i ds y hd hy
   split at hr
   ·rename_i x hx
    simp only [Option.some.injEq] at hr
    obtain ⟨z,h1,h2⟩:=bind_some hr
    have hb:=unboxes_spec hy
    refine ⟨_,_,h2,hgo,?_,resS_noLoc rs _,boxesS_noLoc b _,?_⟩
    ·have hF:=h x y z.1 z.2 h1
     have e:=unreflC_enc hx
     rw [← reflC_enc] at e
     rw [← buildA_congr ak e,← matchA_spec hd,← hb] at hF
     exact hF
    ·rw [boxesS_length,← boxesS_length b y]
     have:=congrArg List.length hb
     simpa using this.symm
   ·cases hr
  ·cases hr
theorem FnT.of {P:Program} {X:XCtx P} (hm:P.follows .mixedOrders = true) {f:FuncId} {fn:Func} {c:Code} {ak:List AK} {rs:List C} {g:tupC (dataOf ak)→Option (tupC rs)} (a:Ann)
  (hf:P.funcs[f]? = some fn) (hb:fn.body = some c) (hok:okX fn.ntmps c a = true) (hsz:ak.length ≤ fn.ntmps)
  (h:∀ x,bodyX X fn.results.toList c a (buildA ak (reflC _ x)) [] (fun res _=>unreflR rs res) = g x):FnT P f ak rs g:=by
 intro x r hr
 exact fn_of_X (X:=X) hm hf hb hok (Nat.le_trans (buildA_le _ _) hsz) ((h x).trans hr) (fun res outs hk ho=>⟨unreflR_enc hk,by
  have:outs = []:=List.eq_nil_of_length_eq_zero ho
  rw [this]; rfl⟩) (resVt_noLoc rs r) (by simp) (Nat.le_refl _)
theorem FnB.of {P:Program} {X:XCtx P} (hm:P.follows .mixedOrders = true) {f:FuncId} {fn:Func} {c:Code} {ak:List AK} {b:BK} {rs:List C} {g:tupC (dataOf ak)→tupC (bkC b)→Option (tupC rs × tupC (bkC b))} (a:Ann)
  (hf:P.funcs[f]? = some fn) (hb:fn.body = some c) (hok:okX fn.ntmps c a = true) (hsz:ak.length ≤ fn.ntmps)
  (h:∀ x y,bodyX X fn.results.toList c a (buildA ak (reflC _ x)) (boxesS b y) (fun res outs=>match unreflR rs res,unboxes b outs with | some r,some z=>some (r,z) | _,_=>none) = g x y):FnB P f ak b rs g:=by
 intro x y r y' hr
 refine fn_of_X (X:=X) hm hf hb hok (Nat.le_trans (buildA_le _ _) hsz) ((h x y).trans hr) (fun res outs hk ho=>?_) (resVt_noLoc rs r) ?_ (by simp [boxesS_length])
 ·split at hk
  ·rename_i r' z h1 h2
   cases hk
   exact ⟨unreflR_enc h1,unboxes_spec h2⟩
  ·cases hk
 ·intro B hB
  obtain ⟨B',hB',rfl⟩:=List.mem_map.1 hB
  exact noLocB_V (boxesS_noLoc b y' B' hB')
def FnTO (P:Program) (f:FuncId) (ak:List AK) (c:C) (e:TypeId) (g:tupC (dataOf ak)→Option (List (den c))):Prop :=
 ∀ x l,g x = some l→FnO P f (toVL (buildA ak (reflC _ x))) (.list (l.map (enc c))) e
def XOwn.t {P:Program} (f:FuncId) (ak:List AK) (c:C) (e:TypeId) (g:tupC (dataOf ak)→Option (List (den c))) (hgo:isGo P f = true) (h:FnTO P f ak c e g):XOwn P where
 f:=f
 c:=c
 e:=e
 run:=fun args=>match matchA ak args with
  | some ds=>(match unreflC (dataOf ak) ds with
   | some x=>some (g x)
   | none=>none)
  | none=>none
 sound:=by
  intro args l hr
  split at hr
  ·rename_i ds hd
   split at hr
   ·rename_i x hx
    simp only [Option.some.injEq] at hr
    have hF:=h x l hr
    have e:=unreflC_enc hx
    rw [← reflC_enc] at e
    rw [← buildA_congr ak e,← matchA_spec hd] at hF
    exact ⟨hgo,hF⟩
   ·cases hr
  ·cases hr
theorem FnTO.of {P:Program} {X:XCtx P} (hm:P.follows .mixedOrders = true) {f:FuncId} {fn:Func} {c:Code} {ak:List AK} {cc:C} {e:TypeId} {g:tupC (dataOf ak)→Option (List (den cc))} (a:Ann)
  (hf:P.funcs[f]? = some fn) (hb:fn.body = some c) (hok:okX fn.ntmps c a = true) (hsz:ak.length ≤ fn.ntmps)
  (h:∀ x,bodyO X fn.results.toList c a (buildA ak (reflC _ x)) cc e = g x):FnTO P f ak cc e g:=by
 intro x l hr
 have hb':=(h x).trans hr
 refine FnO.of_AWp hf hb (by rw [toVL_length]; exact Nat.le_trans (buildA_le _ _) hsz) (by simp only [V.noLoc]; exact noLocL_map' (enc_noLoc cc) l) ?_
 have hc:=codeX_sound (X:=X) hm c a roTop ⟨fun s=>by simp [roTop,unTok,flatS],fun s t e h=>(by cases h),fun _ s _=>.inr rfl,fun _ i B hi=>(by cases hi)⟩ _ _ l (endO P fn.results.toList (.list (l.map (enc cc))) e) hok ?_ hb'
 ·intro F ac w pr lam hF hs
  exact hc F ac w pr lam hF (init_weak (ins:=[]) hs)
 ·intro ex m' hk
  have key:(ex = .ret ∨ ex = .normal)∧∃ s t,fn.results.toList = [.tmp s]∧(toSt roTop m').env s = .list (l.map (enc cc))∧(toSt roTop m').tok s = some (t,e)∧tcl t = 0:=by
   split at hk
   ·rename_i s hex hrs
    refine ⟨by cases ex <;> simp at hex ⊢,s,?_⟩
    split at hk
    ·rename_i c' l' t e' hs
     obtain ⟨h1,h2⟩:=condS hk
     simp only [Bool.and_eq_true] at h1
     have b1:=Nat.eq_of_beq_eq_true h1.1
     have b2:=Nat.eq_of_beq_eq_true h1.2
     subst b2
     split at h2
     ·rename_i hcc
      subst hcc
      cases h2
      exact ⟨t,hrs,by show toV (getS roTop m' s).1 = _; rw [hs]; simp only [toV],by show (getS roTop m' s).2 = _; rw [hs],b1⟩
     ·cases h2
    ·rename_i t e' hs
     obtain ⟨h1,h2⟩:=condS hk
     simp only [Bool.and_eq_true] at h1
     have b1:=Nat.eq_of_beq_eq_true h1.1
     have b2:=Nat.eq_of_beq_eq_true h1.2
     subst b2
     cases h2
     exact ⟨t,hrs,by show toV (getS roTop m' s).1 = _; rw [hs]; simp [toV,toVL],by show (getS roTop m' s).2 = _; rw [hs],b1⟩
    ·cases hk
   ·cases hk
  obtain ⟨hex,key⟩:=key
  rcases hex with rfl | rfl
  ·exact key
  ·exact key
end Go.X
