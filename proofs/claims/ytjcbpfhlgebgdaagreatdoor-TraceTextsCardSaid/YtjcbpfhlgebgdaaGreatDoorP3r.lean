import Derived.Test.YtjcbpfhlgebgdaaGreatDoorP3p
open Bool renaming and_eq_true -> zvI
open Option renaming bind_some -> zvM
open List renaming length_append -> zvN
set_option linter.unusedSimpArgs false
set_option linter.unusedVariables false
namespace Go.Proofs.YtjcbpfhlgebgdaaGreatDoor
open Go Go.Eng Go.RowKit Go.X Go.Seq
def wT (w:List UInt8 × List UInt8):List UInt8:=if w.1 = [] then w.2 else w.1++61 :: w.2
def okW (w:List UInt8 × List UInt8):Prop:=(w.1 = [] ∨ Yl w.1 = true)/\Zh w.2 = true
def yB:List (List UInt8 × List UInt8)->List UInt8
 | []=>[]
 | w :: ws=>wT w++(if ws = [] then [] else 32 :: yB ws)
def zcG:Int->List (List UInt8 × List UInt8)->List Wd
 | _,[]=>[]
 | p,w :: ws=>(p,w.1,w.2) :: zcG (p + (wT w).length + 1) ws
theorem YL {t:List UInt8} (h:Zh t = true):(t.all fun c=>y7 (c.toNat:Int)) = true/\t ≠ []/\t.head? ≠ some 35:=by
 unfold Zh at h
 rw [zvI,zvI] at h
 exact ⟨h.1.1,by simpa using h.1.2,by simpa using h.2⟩
theorem zek {rest:List UInt8} (hr:rest = [] ∨ rest.head? = some 32):∀ {t:List UInt8},(t.all fun c=>y7 (c.toNat:Int)) = true->yo (t++rest) = t.length
 | [],_=>by
  rcases hr with rfl | hr
  ·rfl
  ·cases rest with
   | nil=>cases hr
   | cons x r =>
    simp only [List.head?_cons,Option.some.injEq] at hr
    subst hr
    unfold yo
    rw [List.nil_append,List.takeWhile_cons,if_neg (by decide)]
 | c :: t,h=>by
  rw [List.all_cons,zvI] at h
  unfold yo
  rw [List.cons_append,List.takeWhile_cons,if_pos h.1]
  have:=zek hr h.2
  unfold yo at this
  simp only [List.length_cons,this]
theorem zgF {pre l:List UInt8}:(pre++l).drop pre.length = l:=List.drop_left
theorem zfM (pre l:List UInt8) (j:Nat):(pre++l)[pre.length + j]? = l[j]?:=by
 rw [List.getElem?_append_right (by omega),Nat.add_sub_cancel_left]
theorem zoq {pre t rest:List UInt8} (hS:(pre++(t++rest)).length <= 1000000) (ht:Zh t = true) (hr:rest = [] ∨ rest.head? = some 32) :
  bdF (qI (pre++(t++rest))) (pre.length:Int) = some ((t,true),((pre.length + t.length:Nat):Int))/\zbz (pre++(t++rest)) ((pre.length + t.length:Nat):Int) = true:=by
 obtain ⟨h1,h2,h3⟩:=YL ht
 have hsc:=zek hr h1
 have hne:yq (pre++(t++rest)) (pre.length:Int) ≠ some 34:=fun hc=>by
  rw [zaQ,show pre.length = pre.length + 0 from rfl,zfM] at hc
  cases t with
  | nil=>exact h2 rfl
  | cons x t =>
   rw [List.all_cons,zvI] at h1
   simp at hc
   have:x = 34:=UInt8.toNat_inj.1 (by show x.toNat = 34; omega)
   subst this
   exact absurd h1.1 (by decide)
 have hb:=zgA hS (p:=(pre.length:Int)) (by omega) (by simp only [zvN]; omega) hne
 rw [show ((pre.length:Int)).toNat = pre.length from rfl,zgF,hsc,List.take_left,ht] at hb
 refine ⟨hb,?_⟩
 unfold zbz
 rw [show ((pre.length + t.length:Nat):Int).toNat = pre.length + t.length from rfl,zfM]
 rcases hr with rfl | hr
 ·rw [decide_eq_true (by simp only [zvN,List.length_nil]; omega)]; rfl
 ·rw [List.getElem?_append_right (Nat.le_refl _),Nat.sub_self,<- List.head?_eq_getElem?,hr]
  simp
theorem zqV {r:List UInt8}:∀ {k:List UInt8},(∀ c ∈ k,c ≠ 61)->Lib.indexByte (k++61 :: r) 61 = (k.length:Int)
 | [],_=>by unfold Lib.indexByte; rfl
 | c :: k,h=>by
  have ih:=zqV (r:=r) (k:=k) fun c hc=>h c (List.mem_cons_of_mem _ hc)
  have hc:(c == 61) = false:=beq_eq_false_iff_ne.2 (h c (List.mem_cons_self ..))
  rw [List.cons_append]
  unfold Lib.indexByte
  rw [if_neg (by simp [hc]),ih,if_neg (by simp)]
  simp
theorem zsH {pre rest:List UInt8} {w:List UInt8 × List UInt8} (hS:(pre++(wT w++rest)).length <= 1000) (hw:okW w) (hr:rest = [] ∨ rest.head? = some 32) :
  wdF (qI (pre++(wT w++rest))) (pre.length:Int) = some ((((pre.length:Int),w.1,w.2),true),((pre.length + (wT w).length:Nat):Int)):=by
 obtain ⟨k,t⟩:=w
 obtain ⟨hk,ht⟩:=hw
 dsimp only at hk ht
 by_cases hk0:k = []
 ·subst hk0
  have hwt:wT ([],t) = t:=rfl
  rw [hwt] at hS ⊢
  obtain ⟨b1,b2⟩:=zoq (pre:=pre) (rest:=rest) (by omega) ht hr
  have hbody:((bdF (qI (pre++(t++rest))) (pre.length:Int)).bind fun r=>some ((((pre.length:Int),([]:List UInt8),r.1.1),r.1.2 && (decide (((pre++(t++rest)).length:Int) <= r.2) || decide ((qI (pre++(t++rest))).data[r.2.toNat]? = some 32))),r.2)) = some ((((pre.length:Int),[],t),true),((pre.length + t.length:Nat):Int)):=by
   rw [b1]
   simp only [zvM,Z2]
   have b2':=b2
   unfold zbz at b2'
   rw [b2']; rfl
  unfold wdF zdM
  rw [qZ,if_pos ⟨by omega,by simp only [zvN]; omega⟩,Qo,show ((pre.length:Int)).toNat = pre.length from rfl,zgF]
  split
  ·rename_i hge
   obtain ⟨o,ho⟩:=Int.eq_ofNat_of_zero_le hge
   rw [ho,show ((o:Int)).toNat = o from rfl,zdD (by simp only [zvN] at hS; simp only [List.length_take,zvN]; omega)]
   cases hnb:Yl ((t++rest).take o) with
   | true =>
    have h61:=zgD ho hnb
    obtain ⟨p1,p2⟩:=zdC h61
    rw [zek hr (YL ht).1] at p1 p2
    exfalso
    rcases hr with rfl | hr
    ·simp at p1
    ·rw [List.getElem?_append_right (Nat.le_refl _),Nat.sub_self,<- List.head?_eq_getElem?] at p2
     exact p2 hr
   | false=>exact hbody
  ·exact hbody
 ·have hnk:Yl k = true:=by rcases hk with hk | hk; exact absurd hk hk0; exact hk
  have hwt:wT (k,t) = k++61 :: t:=if_neg hk0
  have hkey:∀ c ∈ k,c ≠ 61:=fun c hc=>by
   unfold Yl at hnk
   rw [zvI] at hnk
   have:=zfL hnk.1 c hc
   rintro rfl
   exact absurd this (by decide)
  have hib:=zqV (r:=t++rest) hkey
  rw [hwt] at hS ⊢
  have hL:(k++61 :: t)++rest = k++61 :: (t++rest):=by simp
  rw [hL] at hS ⊢
  have hS2:pre++(k++61 :: (t++rest)) = (pre++(k++[61]))++(t++rest):=by simp
  have hpl:(pre++(k++[61])).length = pre.length + k.length + 1:=by simp; omega
  obtain ⟨b1,b2⟩:=zoq (pre:=pre++(k++[61])) (rest:=rest) (by rw [<- hS2]; omega) ht hr
  rw [<- hS2,hpl] at b1 b2
  unfold wdF zdM
  rw [qZ,if_pos ⟨by omega,by simp only [zvN]; omega⟩,Qo,show ((pre.length:Int)).toNat = pre.length from rfl,zgF,hib,if_pos (by omega),show ((k.length:Int)).toNat = k.length from rfl,List.take_left,zdD (by simp only [zvN,List.length_cons] at hS; omega),hnk]
  simp only [zvM,if_true]
  rw [show (pre.length:Int) + ((k.length:Int) + 1) = ((pre.length + k.length + 1:Nat):Int) by omega,b1]
  simp only [zvM,Z2]
  unfold zbz at b2
  rw [b2]
  simp only [Bool.and_true,Option.some.injEq,Prod.mk.injEq,true_and,zvN,List.length_cons]
  omega
theorem zqW {c:UInt8} {l:List UInt8} (h:nmA 0 (c :: l) = true):c ≠ 32/\c ≠ 35:=by
 unfold nmA at h
 rw [zvI] at h
 have h1:=h.1
 constructor
 ·rintro rfl; exact absurd h1 (by decide)
 ·rintro rfl; exact absurd h1 (by decide)
theorem zsI {w:List UInt8 × List UInt8} (hw:okW w):∃ c l,wT w = c :: l/\c ≠ 32/\c ≠ 35:=by
 obtain ⟨k,t⟩:=w
 obtain ⟨hk,ht⟩:=hw
 dsimp only at hk ht
 by_cases hk0:k = []
 ·subst hk0
  obtain ⟨h1,h2,h3⟩:=YL ht
  cases t with
  | nil=>exact absurd rfl h2
  | cons c t =>
   refine ⟨c,t,rfl,?_,fun e=>h3 (by rw [e]; rfl)⟩
   rw [List.all_cons,zvI] at h1
   exact zbu h1.1
 ·have hnk:Yl k = true:=by rcases hk with hk | hk; exact absurd hk hk0; exact hk
  unfold Yl at hnk
  rw [zvI] at hnk
  cases k with
  | nil=>exact absurd rfl hk0
  | cons c k=>exact ⟨c,k++61 :: t,by unfold wT; rw [if_neg hk0]; rfl,zqW hnk.1⟩
theorem zor:∀ (ws:List (List UInt8 × List UInt8)) (pre:List UInt8) (k:Nat),(∀ w ∈ ws,okW w)->(pre++yB ws).length <= 1000->(yB ws).length < k ->
  wsF (qI (pre++yB ws)) (wdF (qI (pre++yB ws))) k (pre.length:Int) = some ((zcG (pre.length:Int) ws).map fun x=>(x,true))
 | [],pre,0,_,_,hk=>by omega
 | [],pre,k + 1,_,_,_=>by
  rw [wsF,qZ,if_neg (by unfold yB; simp)]; rfl
 | w :: ws,pre,0,_,_,hk=>by omega
 | w :: ws,pre,k + 1,hw,hS,hk=>by
  have hj:yB (w :: ws) = wT w++(if ws = [] then [] else 32 :: yB ws):=rfl
  have hok:=hw w (List.mem_cons_self ..)
  obtain ⟨c,l,hc,hc1,hc2⟩:=zsI hok
  rw [hj] at hS hk ⊢
  have hwd:=zsH hS hok (rest:=if ws = [] then [] else 32 :: yB ws) (by split; exact .inl rfl; exact .inr rfl)
  have hget:(pre++(wT w++(if ws = [] then [] else 32 :: yB ws)))[pre.length]? = some c:=by
   rw [show pre.length = pre.length + 0 from rfl,zfM,hc]; rfl
  have hlt:pre.length < (pre++(wT w++(if ws = [] then [] else 32 :: yB ws))).length:=(List.getElem?_eq_some_iff.1 hget).1
  rw [wsF,qZ,if_pos (by omega),Z2,show ((pre.length:Int)).toNat = pre.length from rfl,hget]
  simp only [zvM]
  rw [if_neg hc1,if_neg hc2,hwd]
  simp only [zvM,if_true]
  by_cases hws:ws = []
  ·subst hws
   simp only [if_true,List.append_nil] at hk hS ⊢
   cases k with
   | zero=>rw [hc] at hk; simp at hk
   | succ k =>
    rw [wsF,qZ,if_neg (by simp only [zvN]; omega)]
    rfl
  ·simp only [if_neg hws] at hk hS ⊢
   have e1:pre++(wT w++32 :: yB ws) = (pre++(wT w++[32]))++yB ws:=by simp
   have e2:(pre++(wT w++[32])).length = pre.length + (wT w).length + 1:=by simp; omega
   have hlen:(pre++(wT w++32 :: yB ws)).length = pre.length + (wT w).length + 1 + (yB ws).length:=by simp; omega
   simp only [zvN,List.length_cons] at hk
   have hd:0 < (wT w).length:=by rw [hc]; simp
   cases k with
   | zero=>omega
   | succ k =>
    rw [wsF,qZ,if_pos (by omega),Z2,show ((pre.length + (wT w).length:Nat):Int).toNat = pre.length + (wT w).length from rfl,zfM,List.getElem?_append_right (Nat.le_refl _),Nat.sub_self]
    simp only [List.getElem?_cons_zero,zvM,if_true]
    have ih:=zor ws (pre++(wT w++[32])) k (fun x hx=>hw x (List.mem_cons_of_mem _ hx)) (by rw [<- e1]; exact hS) (by omega)
    rw [<- e1,e2] at ih
    rw [show ((pre.length + (wT w).length:Nat):Int) + 1 = ((pre.length + (wT w).length + 1:Nat):Int) by omega,ih]
    simp only [Option.map_some,zcG,List.map_cons,Option.some.injEq,List.cons.injEq,true_and]
    rw [show ((pre.length + (wT w).length + 1:Nat):Int) = (pre.length:Int) + (wT w).length + 1 by omega]
theorem zcq {ws:List (List UInt8 × List UInt8)} (hw:∀ w ∈ ws,okW w) (hl:(yB ws).length <= 1000):zfq (yB ws) = some ((zcG 0 ws).map fun x=>(x,true)) :=
 zor ws [] _ hw hl (Nat.lt_succ_self _)
theorem zpt (l:List Wd):zgU (l.map fun x=>(x,true)) = none:=by
 induction l with
 | nil=>rfl
 | cons x l ih=>exact ih
theorem zos:∀ (ws:List (List UInt8 × List UInt8)) (a p:Int),(zcG p ws).map (shW a) = zcG (p + a) ws
 | [],_,_=>rfl
 | w :: ws,a,p=>by
  simp only [zcG,List.map_cons,zos ws a]
  rw [show p + (wT w).length + 1 + a = p + a + (wT w).length + 1 by omega]; rfl
def zbS (ls:List (List (List UInt8 × List UInt8))):List UInt8:=ls.flatMap fun l=>yB l++[10]
def zln:Int->List (List (List UInt8 × List UInt8))->List (Int × List Wd)
 | _,[]=>[]
 | a,l :: ls=>(a,zcG a l) :: zln (a + (yB l).length + 1) ls
theorem zgG {r:List UInt8}:∀ {l:List UInt8},(∀ c ∈ l,c ≠ 10)->yF 10 (l++10 :: r) = l :: yF 10 r
 | [],_=>by rw [List.nil_append]; conv=>lhs; unfold yF; rw [if_pos rfl]
 | c :: l,h=>by
  have ih:=zgG (r:=r) (l:=l) fun c hc=>h c (List.mem_cons_of_mem _ hc)
  rw [List.cons_append]
  conv=>lhs; unfold yF
  rw [if_neg (h c (List.mem_cons_self ..)),ih]
theorem zm1 {t:List UInt8} (h:(t.all fun c=>y7 (c.toNat:Int)) = true):∀ c ∈ t,c ≠ 10:=fun c hc=>by
 have:=List.all_eq_true.1 h c hc
 rintro rfl
 exact absurd this (by decide)
theorem zpu {k:List UInt8} (h:Yl k = true):∀ c ∈ k,c ≠ 10:=by
 unfold Yl at h
 rw [zvI] at h
 have key:∀ {i:Nat} {l:List UInt8},nmA i l = true->∀ c ∈ l,c ≠ 10:=by
  intro i l
  induction l generalizing i with
  | nil=>intro _ c hc; cases hc
  | cons x l ih =>
   intro h c hc
   unfold nmA at h
   rw [zvI] at h
   rcases List.mem_cons.1 hc with rfl | hc
   ·rintro rfl
    exact absurd h.1 (by simp [zmZ,okC])
   ·exact ih h.2 c hc
 exact key h.1
theorem zsJ {w:List UInt8 × List UInt8} (hw:okW w):∀ c ∈ wT w,c ≠ 10:=by
 obtain ⟨hk,ht⟩:=hw
 have h2:=zm1 (YL ht).1
 intro c hc
 unfold wT at hc
 split at hc
 ·exact h2 c hc
 ·rename_i hk0
  rcases List.mem_append.1 hc with hc | hc
  ·rcases hk with hk | hk
   ·exact absurd hk hk0
   ·exact zpu hk c hc
  ·rcases List.mem_cons.1 hc with rfl | hc
   ·decide
   ·exact h2 c hc
theorem zgH:∀ {ws:List (List UInt8 × List UInt8)},(∀ w ∈ ws,okW w)->∀ c ∈ yB ws,c ≠ 10
 | [],_,c,hc=>by cases hc
 | w :: ws,hw,c,hc=>by
  unfold yB at hc
  rcases List.mem_append.1 hc with hc | hc
  ·exact zsJ (hw w (List.mem_cons_self ..)) c hc
  ·split at hc
   ·cases hc
   ·rcases List.mem_cons.1 hc with rfl | hc
    ·decide
    ·exact zgH (fun x hx=>hw x (List.mem_cons_of_mem _ hx)) c hc
theorem ziu:∀ (ls:List (List (List UInt8 × List UInt8))) (o:List (Int × List Wd)) (a:Int),(∀ l ∈ ls,l ≠ []/\(∀ w ∈ l,okW w)/\(yB l).length <= 1000) ->
  Qk zfq (yF 10 (zbS ls)) o a = some (o++zln a ls,0,0)
 | [],o,a,_=>by
  show Qk zfq [[]] o a = _
  rw [Qk,if_neg (by simp)]
  have:zfq [] = some []:=zcq (ws:=[]) (fun w hw=>by cases hw) (by simp [yB])
  rw [this]
  simp only [zvM,zgU,if_true,Qk,zln,List.append_nil]
 | l :: ls,o,a,h=>by
  obtain ⟨h1,h2,h3⟩:=h l (List.mem_cons_self ..)
  have e:zbS (l :: ls) = yB l++10 :: zbS ls:=by simp [zbS]
  rw [e,zgG (zgH h2),Qk,if_neg (by omega),zcq h2 h3]
  simp only [zvM,zpt]
  have hne:¬ (zcG 0 l).map (fun x=>(x,true)) = []:=by
   cases l with
   | nil=>exact absurd rfl h1
   | cons w l=>simp [zcG]
  rw [if_neg hne,ziu ls _ _ fun x hx=>h x (List.mem_cons_of_mem _ hx)]
  rw [List.map_map]
  have e2:((fun x:Wd × Bool=>shW a x.1) ∘ fun x:Wd=>(x,true)) = shW a:=rfl
  rw [e2,zos,Int.zero_add]
  simp only [zln,List.append_assoc,List.singleton_append]
  rw [show a + ((yB l).length + 1) = a + (yB l).length + 1 by omega]
theorem zpv {ls:List (List (List UInt8 × List UInt8))} (h:∀ l ∈ ls,l ≠ []/\(∀ w ∈ l,okW w)/\(yB l).length <= 1000) (hl:(zbS ls).length <= 20000) :
  qx (zbS ls) = some ((zln 0 ls).map zck,⟨0,0⟩):=by
 unfold qx
 rw [if_neg (by omega),ziu ls [] 0 h]
 rfl
end Go.Proofs.YtjcbpfhlgebgdaaGreatDoor
