import Derived.Test.YtjcbpfhlgebgdaaDoorP3p
set_option linter.unusedSimpArgs false
set_option linter.unusedVariables false
namespace Go.Proofs.YtjcbpfhlgebgdaaDoor
open Go Go.Eng Go.RowKit Go.X Go.Seq
def wT (w:List UInt8 × List UInt8):List UInt8:=if w.1 = [] then w.2 else w.1++61 :: w.2
def okW (w:List UInt8 × List UInt8):Prop:=(w.1 = [] ∨ nameB w.1 = true)∧bareB w.2 = true
def joinW:List (List UInt8 × List UInt8)→List UInt8
 | []=>[]
 | w :: ws=>wT w++(if ws = [] then [] else 32 :: joinW ws)
def posW:Int→List (List UInt8 × List UInt8)→List Wd
 | _,[]=>[]
 | p,w :: ws=>(p,w.1,w.2) :: posW (p + (wT w).length + 1) ws
theorem bareB_all {t:List UInt8} (h:bareB t = true):(t.all fun c=>plainI (c.toNat:Int)) = true∧t ≠ []∧t.head? ≠ some 35:=by
 unfold bareB at h
 rw [Bool.and_eq_true,Bool.and_eq_true] at h
 exact ⟨h.1.1,by simpa using h.1.2,by simpa using h.2⟩
theorem scanL_app {rest:List UInt8} (hr:rest = [] ∨ rest.head? = some 32):∀ {t:List UInt8},(t.all fun c=>plainI (c.toNat:Int)) = true→scanL (t++rest) = t.length
 | [],_=>by
  rcases hr with rfl | hr
  ·rfl
  ·cases rest with
   | nil=>cases hr
   | cons x r =>
    simp only [List.head?_cons,Option.some.injEq] at hr
    subst hr
    unfold scanL
    rw [List.nil_append,List.takeWhile_cons,if_neg (by decide)]
 | c :: t,h=>by
  rw [List.all_cons,Bool.and_eq_true] at h
  unfold scanL
  rw [List.cons_append,List.takeWhile_cons,if_pos h.1]
  have:=scanL_app hr h.2
  unfold scanL at this
  simp only [List.length_cons,this]
theorem drop_pre {pre l:List UInt8}:(pre++l).drop pre.length = l:=List.drop_left
theorem get_pre (pre l:List UInt8) (j:Nat):(pre++l)[pre.length + j]? = l[j]?:=by
 rw [List.getElem?_append_right (by omega),Nat.add_sub_cancel_left]
theorem bd_back {pre t rest:List UInt8} (hS:(pre++(t++rest)).length ≤ 1000000) (ht:bareB t = true) (hr:rest = [] ∨ rest.head? = some 32) :
  bdF (bsOf (pre++(t++rest))) (pre.length:Int) = some ((t,true),((pre.length + t.length:Nat):Int))∧endB (pre++(t++rest)) ((pre.length + t.length:Nat):Int) = true:=by
 obtain ⟨h1,h2,h3⟩:=bareB_all ht
 have hsc:=scanL_app hr h1
 have hne:idxS (pre++(t++rest)) (pre.length:Int) ≠ some 34:=fun hc=>by
  rw [idxS_nat,show pre.length = pre.length + 0 from rfl,get_pre] at hc
  cases t with
  | nil=>exact h2 rfl
  | cons x t =>
   rw [List.all_cons,Bool.and_eq_true] at h1
   simp at hc
   have:x = 34:=UInt8.toNat_inj.1 (by show x.toNat = 34; omega)
   subst this
   exact absurd h1.1 (by decide)
 have hb:=bd_plain hS (p:=(pre.length:Int)) (by omega) (by simp only [List.length_append]; omega) hne
 rw [show ((pre.length:Int)).toNat = pre.length from rfl,drop_pre,hsc,List.take_left,ht] at hb
 refine ⟨hb,?_⟩
 unfold endB
 rw [show ((pre.length + t.length:Nat):Int).toNat = pre.length + t.length from rfl,get_pre]
 rcases hr with rfl | hr
 ·rw [decide_eq_true (by simp only [List.length_append,List.length_nil]; omega)]; rfl
 ·rw [List.getElem?_append_right (Nat.le_refl _),Nat.sub_self,← List.head?_eq_getElem?,hr]
  simp
theorem ib_app {r:List UInt8}:∀ {k:List UInt8},(∀ c ∈ k,c ≠ 61)→Lib.indexByte (k++61 :: r) 61 = (k.length:Int)
 | [],_=>by unfold Lib.indexByte; rfl
 | c :: k,h=>by
  have ih:=ib_app (r:=r) (k:=k) fun c hc=>h c (List.mem_cons_of_mem _ hc)
  have hc:(c == 61) = false:=beq_eq_false_iff_ne.2 (h c (List.mem_cons_self ..))
  rw [List.cons_append]
  unfold Lib.indexByte
  rw [if_neg (by simp [hc]),ih,if_neg (by simp)]
  simp
theorem wd_back {pre rest:List UInt8} {w:List UInt8 × List UInt8} (hS:(pre++(wT w++rest)).length ≤ 1000) (hw:okW w) (hr:rest = [] ∨ rest.head? = some 32) :
  wdF (bsOf (pre++(wT w++rest))) (pre.length:Int) = some ((((pre.length:Int),w.1,w.2),true),((pre.length + (wT w).length:Nat):Int)):=by
 obtain ⟨k,t⟩:=w
 obtain ⟨hk,ht⟩:=hw
 dsimp only at hk ht
 by_cases hk0:k = []
 ·subst hk0
  have hwt:wT ([],t) = t:=rfl
  rw [hwt] at hS ⊢
  obtain ⟨b1,b2⟩:=bd_back (pre:=pre) (rest:=rest) (by omega) ht hr
  have hbody:((bdF (bsOf (pre++(t++rest))) (pre.length:Int)).bind fun r=>some ((((pre.length:Int),([]:List UInt8),r.1.1),r.1.2 && (decide (((pre++(t++rest)).length:Int) ≤ r.2) || decide ((bsOf (pre++(t++rest))).data[r.2.toNat]? = some 32))),r.2)) = some ((((pre.length:Int),[],t),true),((pre.length + t.length:Nat):Int)):=by
   rw [b1]
   simp only [Option.bind_some,bsOf_get]
   have b2':=b2
   unfold endB at b2'
   rw [b2']; rfl
  unfold wdF wordF
  rw [bsOf_size,if_pos ⟨by omega,by simp only [List.length_append]; omega⟩,bsOf_list,show ((pre.length:Int)).toNat = pre.length from rfl,drop_pre]
  split
  ·rename_i hge
   obtain ⟨o,ho⟩:=Int.eq_ofNat_of_zero_le hge
   rw [ho,show ((o:Int)).toNat = o from rfl,nameF_eq (by simp only [List.length_append] at hS; simp only [List.length_take,List.length_append]; omega)]
   cases hnb:nameB ((t++rest).take o) with
   | true =>
    have h61:=name_first ho hnb
    obtain ⟨p1,p2⟩:=plain_before h61
    rw [scanL_app hr (bareB_all ht).1] at p1 p2
    exfalso
    rcases hr with rfl | hr
    ·simp at p1
    ·rw [List.getElem?_append_right (Nat.le_refl _),Nat.sub_self,← List.head?_eq_getElem?] at p2
     exact p2 hr
   | false=>exact hbody
  ·exact hbody
 ·have hnk:nameB k = true:=by rcases hk with hk | hk; exact absurd hk hk0; exact hk
  have hwt:wT (k,t) = k++61 :: t:=if_neg hk0
  have hkey:∀ c ∈ k,c ≠ 61:=fun c hc=>by
   unfold nameB at hnk
   rw [Bool.and_eq_true] at hnk
   have:=nmA_key hnk.1 c hc
   rintro rfl
   exact absurd this (by decide)
  have hib:=ib_app (r:=t++rest) hkey
  rw [hwt] at hS ⊢
  have hL:(k++61 :: t)++rest = k++61 :: (t++rest):=by simp
  rw [hL] at hS ⊢
  have hS2:pre++(k++61 :: (t++rest)) = (pre++(k++[61]))++(t++rest):=by simp
  have hpl:(pre++(k++[61])).length = pre.length + k.length + 1:=by simp; omega
  obtain ⟨b1,b2⟩:=bd_back (pre:=pre++(k++[61])) (rest:=rest) (by rw [← hS2]; omega) ht hr
  rw [← hS2,hpl] at b1 b2
  unfold wdF wordF
  rw [bsOf_size,if_pos ⟨by omega,by simp only [List.length_append]; omega⟩,bsOf_list,show ((pre.length:Int)).toNat = pre.length from rfl,drop_pre,hib,if_pos (by omega),show ((k.length:Int)).toNat = k.length from rfl,List.take_left,nameF_eq (by simp only [List.length_append,List.length_cons] at hS; omega),hnk]
  simp only [Option.bind_some,if_true]
  rw [show (pre.length:Int) + ((k.length:Int) + 1) = ((pre.length + k.length + 1:Nat):Int) by omega,b1]
  simp only [Option.bind_some,bsOf_get]
  unfold endB at b2
  rw [b2]
  simp only [Bool.and_true,Option.some.injEq,Prod.mk.injEq,true_and,List.length_append,List.length_cons]
  omega
theorem nmA_head {c:UInt8} {l:List UInt8} (h:nmA 0 (c :: l) = true):c ≠ 32∧c ≠ 35:=by
 unfold nmA at h
 rw [Bool.and_eq_true] at h
 have h1:=h.1
 constructor
 ·rintro rfl; exact absurd h1 (by decide)
 ·rintro rfl; exact absurd h1 (by decide)
theorem wT_head {w:List UInt8 × List UInt8} (hw:okW w):∃ c l,wT w = c :: l∧c ≠ 32∧c ≠ 35:=by
 obtain ⟨k,t⟩:=w
 obtain ⟨hk,ht⟩:=hw
 dsimp only at hk ht
 by_cases hk0:k = []
 ·subst hk0
  obtain ⟨h1,h2,h3⟩:=bareB_all ht
  cases t with
  | nil=>exact absurd rfl h2
  | cons c t =>
   refine ⟨c,t,rfl,?_,fun e=>h3 (by rw [e]; rfl)⟩
   rw [List.all_cons,Bool.and_eq_true] at h1
   exact plain_not_blank h1.1
 ·have hnk:nameB k = true:=by rcases hk with hk | hk; exact absurd hk hk0; exact hk
  unfold nameB at hnk
  rw [Bool.and_eq_true] at hnk
  cases k with
  | nil=>exact absurd rfl hk0
  | cons c k=>exact ⟨c,k++61 :: t,by unfold wT; rw [if_neg hk0]; rfl,nmA_head hnk.1⟩
theorem ws_back:∀ (ws:List (List UInt8 × List UInt8)) (pre:List UInt8) (k:Nat),(∀ w ∈ ws,okW w)→(pre++joinW ws).length ≤ 1000→(joinW ws).length < k →
  wsF (bsOf (pre++joinW ws)) (wdF (bsOf (pre++joinW ws))) k (pre.length:Int) = some ((posW (pre.length:Int) ws).map fun x=>(x,true))
 | [],pre,0,_,_,hk=>by omega
 | [],pre,k + 1,_,_,_=>by
  rw [wsF,bsOf_size,if_neg (by unfold joinW; simp)]; rfl
 | w :: ws,pre,0,_,_,hk=>by omega
 | w :: ws,pre,k + 1,hw,hS,hk=>by
  have hj:joinW (w :: ws) = wT w++(if ws = [] then [] else 32 :: joinW ws):=rfl
  have hok:=hw w (List.mem_cons_self ..)
  obtain ⟨c,l,hc,hc1,hc2⟩:=wT_head hok
  rw [hj] at hS hk ⊢
  have hwd:=wd_back hS hok (rest:=if ws = [] then [] else 32 :: joinW ws) (by split; exact .inl rfl; exact .inr rfl)
  have hget:(pre++(wT w++(if ws = [] then [] else 32 :: joinW ws)))[pre.length]? = some c:=by
   rw [show pre.length = pre.length + 0 from rfl,get_pre,hc]; rfl
  have hlt:pre.length < (pre++(wT w++(if ws = [] then [] else 32 :: joinW ws))).length:=(List.getElem?_eq_some_iff.1 hget).1
  rw [wsF,bsOf_size,if_pos (by omega),bsOf_get,show ((pre.length:Int)).toNat = pre.length from rfl,hget]
  simp only [Option.bind_some]
  rw [if_neg hc1,if_neg hc2,hwd]
  simp only [Option.bind_some,if_true]
  by_cases hws:ws = []
  ·subst hws
   simp only [if_true,List.append_nil] at hk hS ⊢
   cases k with
   | zero=>rw [hc] at hk; simp at hk
   | succ k =>
    rw [wsF,bsOf_size,if_neg (by simp only [List.length_append]; omega)]
    rfl
  ·simp only [if_neg hws] at hk hS ⊢
   have e1:pre++(wT w++32 :: joinW ws) = (pre++(wT w++[32]))++joinW ws:=by simp
   have e2:(pre++(wT w++[32])).length = pre.length + (wT w).length + 1:=by simp; omega
   have hlen:(pre++(wT w++32 :: joinW ws)).length = pre.length + (wT w).length + 1 + (joinW ws).length:=by simp; omega
   simp only [List.length_append,List.length_cons] at hk
   have hd:0 < (wT w).length:=by rw [hc]; simp
   cases k with
   | zero=>omega
   | succ k =>
    rw [wsF,bsOf_size,if_pos (by omega),bsOf_get,show ((pre.length + (wT w).length:Nat):Int).toNat = pre.length + (wT w).length from rfl,get_pre,List.getElem?_append_right (Nat.le_refl _),Nat.sub_self]
    simp only [List.getElem?_cons_zero,Option.bind_some,if_true]
    have ih:=ws_back ws (pre++(wT w++[32])) k (fun x hx=>hw x (List.mem_cons_of_mem _ hx)) (by rw [← e1]; exact hS) (by omega)
    rw [← e1,e2] at ih
    rw [show ((pre.length + (wT w).length:Nat):Int) + 1 = ((pre.length + (wT w).length + 1:Nat):Int) by omega,ih]
    simp only [Option.map_some,posW,List.map_cons,Option.some.injEq,List.cons.injEq,true_and]
    rw [show ((pre.length + (wT w).length + 1:Nat):Int) = (pre.length:Int) + (wT w).length + 1 by omega]
theorem line_back {ws:List (List UInt8 × List UInt8)} (hw:∀ w ∈ ws,okW w) (hl:(joinW ws).length ≤ 1000):lineF (joinW ws) = some ((posW 0 ws).map fun x=>(x,true)) :=
 ws_back ws [] _ hw hl (Nat.lt_succ_self _)
theorem badF_true (l:List Wd):badF (l.map fun x=>(x,true)) = none:=by
 induction l with
 | nil=>rfl
 | cons x l ih=>exact ih
theorem posW_sh:∀ (ws:List (List UInt8 × List UInt8)) (a p:Int),(posW p ws).map (shW a) = posW (p + a) ws
 | [],_,_=>rfl
 | w :: ws,a,p=>by
  simp only [posW,List.map_cons,posW_sh ws a]
  rw [show p + (wT w).length + 1 + a = p + a + (wT w).length + 1 by omega]; rfl
def linesT (ls:List (List (List UInt8 × List UInt8))):List UInt8:=ls.flatMap fun l=>joinW l++[10]
def posR:Int→List (List (List UInt8 × List UInt8))→List (Int × List Wd)
 | _,[]=>[]
 | a,l :: ls=>(a,posW a l) :: posR (a + (joinW l).length + 1) ls
theorem pieces_app {r:List UInt8}:∀ {l:List UInt8},(∀ c ∈ l,c ≠ 10)→pieces 10 (l++10 :: r) = l :: pieces 10 r
 | [],_=>by rw [List.nil_append]; conv=>lhs; unfold pieces; rw [if_pos rfl]
 | c :: l,h=>by
  have ih:=pieces_app (r:=r) (l:=l) fun c hc=>h c (List.mem_cons_of_mem _ hc)
  rw [List.cons_append]
  conv=>lhs; unfold pieces
  rw [if_neg (h c (List.mem_cons_self ..)),ih]
theorem plain_ne10 {t:List UInt8} (h:(t.all fun c=>plainI (c.toNat:Int)) = true):∀ c ∈ t,c ≠ 10:=fun c hc=>by
 have:=List.all_eq_true.1 h c hc
 rintro rfl
 exact absurd this (by decide)
theorem name_ne10 {k:List UInt8} (h:nameB k = true):∀ c ∈ k,c ≠ 10:=by
 unfold nameB at h
 rw [Bool.and_eq_true] at h
 have key:∀ {i:Nat} {l:List UInt8},nmA i l = true→∀ c ∈ l,c ≠ 10:=by
  intro i l
  induction l generalizing i with
  | nil=>intro _ c hc; cases hc
  | cons x l ih =>
   intro h c hc
   unfold nmA at h
   rw [Bool.and_eq_true] at h
   rcases List.mem_cons.1 hc with rfl | hc
   ·rintro rfl
    exact absurd h.1 (by simp [lowB,okC])
   ·exact ih h.2 c hc
 exact key h.1
theorem wT_ne10 {w:List UInt8 × List UInt8} (hw:okW w):∀ c ∈ wT w,c ≠ 10:=by
 obtain ⟨hk,ht⟩:=hw
 have h2:=plain_ne10 (bareB_all ht).1
 intro c hc
 unfold wT at hc
 split at hc
 ·exact h2 c hc
 ·rename_i hk0
  rcases List.mem_append.1 hc with hc | hc
  ·rcases hk with hk | hk
   ·exact absurd hk hk0
   ·exact name_ne10 hk c hc
  ·rcases List.mem_cons.1 hc with rfl | hc
   ·decide
   ·exact h2 c hc
theorem joinW_ne10:∀ {ws:List (List UInt8 × List UInt8)},(∀ w ∈ ws,okW w)→∀ c ∈ joinW ws,c ≠ 10
 | [],_,c,hc=>by cases hc
 | w :: ws,hw,c,hc=>by
  unfold joinW at hc
  rcases List.mem_append.1 hc with hc | hc
  ·exact wT_ne10 (hw w (List.mem_cons_self ..)) c hc
  ·split at hc
   ·cases hc
   ·rcases List.mem_cons.1 hc with rfl | hc
    ·decide
    ·exact joinW_ne10 (fun x hx=>hw x (List.mem_cons_of_mem _ hx)) c hc
theorem rows_back:∀ (ls:List (List (List UInt8 × List UInt8))) (o:List (Int × List Wd)) (a:Int),(∀ l ∈ ls,l ≠ []∧(∀ w ∈ l,okW w)∧(joinW l).length ≤ 1000) →
  rowsF lineF (pieces 10 (linesT ls)) o a = some (o++posR a ls,0,0)
 | [],o,a,_=>by
  show rowsF lineF [[]] o a = _
  rw [rowsF,if_neg (by simp)]
  have:lineF [] = some []:=line_back (ws:=[]) (fun w hw=>by cases hw) (by simp [joinW])
  rw [this]
  simp only [Option.bind_some,badF,if_true,rowsF,posR,List.append_nil]
 | l :: ls,o,a,h=>by
  obtain ⟨h1,h2,h3⟩:=h l (List.mem_cons_self ..)
  have e:linesT (l :: ls) = joinW l++10 :: linesT ls:=by simp [linesT]
  rw [e,pieces_app (joinW_ne10 h2),rowsF,if_neg (by omega),line_back h2 h3]
  simp only [Option.bind_some,badF_true]
  have hne:¬ (posW 0 l).map (fun x=>(x,true)) = []:=by
   cases l with
   | nil=>exact absurd rfl h1
   | cons w l=>simp [posW]
  rw [if_neg hne,rows_back ls _ _ fun x hx=>h x (List.mem_cons_of_mem _ hx)]
  rw [List.map_map]
  have e2:((fun x:Wd × Bool=>shW a x.1) ∘ fun x:Wd=>(x,true)) = shW a:=rfl
  rw [e2,posW_sh,Int.zero_add]
  simp only [posR,List.append_assoc,List.singleton_append]
  rw [show a + ((joinW l).length + 1) = a + (joinW l).length + 1 by omega]
theorem Rows_back {ls:List (List (List UInt8 × List UInt8))} (h:∀ l ∈ ls,l ≠ []∧(∀ w ∈ l,okW w)∧(joinW l).length ≤ 1000) (hl:(linesT ls).length ≤ 20000) :
  words_Rows (linesT ls) = some ((posR 0 ls).map mkRow,⟨0,0⟩):=by
 unfold words_Rows
 rw [if_neg (by omega),rows_back ls [] 0 h]
 rfl
end Go.Proofs.YtjcbpfhlgebgdaaDoor
