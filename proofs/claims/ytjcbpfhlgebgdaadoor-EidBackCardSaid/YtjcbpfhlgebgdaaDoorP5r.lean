import Derived.Test.YtjcbpfhlgebgdaaDoorP5l
set_option linter.unusedSimpArgs false
set_option linter.unusedVariables false
namespace Go.Proofs.YtjcbpfhlgebgdaaDoor
open Go Go.X Go.Eng Go.Seq
theorem nval_app:∀ (a b:List UInt8) (n:Nat),nval (a++b) n = (nval a n).bind (nval b)
 | [],b,n=>rfl
 | c :: a,b,n=>by
  rw [List.cons_append]
  unfold nval
  split
  ·rfl
  ·split
   ·rfl
   ·exact nval_app a b _
theorem nval_dec:∀ n:Nat,n ≤ 1000000→nval (Go.Lib.decDigits n) 0 = some n∧((Go.Lib.decDigits n).head? = some 48→n = 0)∧0 < (Go.Lib.decDigits n).length∧(n < 10→(Go.Lib.decDigits n).length = 1)
 | n,h=>by
  have one:∀ d,d < 10→(UInt8.ofNat (48 + d)).toNat = 48 + d:=fun d hd=>by
   rw [UInt8.toNat_ofNat']; omega
  by_cases h10:n < 10
  ·rw [Go.Lib.decDigits,dif_pos h10]
   have o:=one n h10
   refine ⟨?_,?_,by simp,by simp⟩
   ·unfold nval nval
    rw [o,if_neg (by omega),if_neg (by omega)]
    congr 1; omega
   ·intro e
    simp only [List.head?_cons,Option.some.injEq] at e
    rw [e] at o
    have:(48:UInt8).toNat = 48:=rfl
    omega
  ·obtain ⟨q1,q2,q3,_⟩:=nval_dec (n / 10) (by omega)
   rw [Go.Lib.decDigits,dif_neg h10]
   have o:=one (n % 10) (by omega)
   refine ⟨?_,?_,by simp,fun h=>absurd h h10⟩
   ·rw [nval_app,q1,Option.bind_some]
    unfold nval nval
    rw [o,if_neg (by omega),if_neg (by omega)]
    congr 1; omega
   ·intro e
    cases hd:Go.Lib.decDigits (n / 10) with
    | nil=>rw [hd] at q3; simp at q3
    | cons x r =>
     rw [hd] at e q2
     have:=q2 e
     omega
theorem dec_num {n:Int} (h0:0 ≤ n) (h1:n ≤ 999):num (dec n) = some n.toNat∧(∀ c ∈ dec n,48 ≤ c.toNat∧c.toNat ≤ 57)∧0 < (dec n).length:=by
 obtain ⟨q1,q2,q3,q4⟩:=nval_dec n.toNat (by omega)
 unfold dec
 refine ⟨?_,nval_dig q1,q3⟩
 unfold num
 rw [if_neg (List.length_pos_iff.1 q3),if_neg,q1]
 rintro ⟨e,hl⟩
 have:=q4 (by have:=q2 e; omega)
 omega
theorem dec_no {n:Int} (h0:0 ≤ n) (h1:n ≤ 999) {c:UInt8} (hc:isD c = false):c ∉ dec n:=fun h=>by
 have:=(isD_iff c).2 ((dec_num h0 h1).2.1 c h)
 rw [hc] at this; cases this
theorem dec_ne {n:Int} (h0:0 ≤ n) (h1:n ≤ 999):dec n ≠ [42]:=fun e=>dec_no h0 h1 (c:=42) rfl (by rw [e]; simp)
def ntx (e:EID):List UInt8:=if e.Low = 1∧e.High = 16 then [42] else if e.Low = e.High then dec e.Low else dec e.Low++[45]++dec e.High
theorem ntx_lh {e:EID} (h:OKE e):lowhigh id (ntx e) = some (e.Low,e.High)∧(46:UInt8) ∉ ntx e∧(44:UInt8) ∉ ntx e:=by
 obtain ⟨h1,h2,h3,_,_⟩:=h
 obtain ⟨l1,_,_⟩:=dec_num (n:=e.Low) (by omega) (by omega)
 obtain ⟨k1,_,_⟩:=dec_num (n:=e.High) (by omega) (by omega)
 have ln:=fun (c:UInt8) (hc:isD c = false)=>dec_no (n:=e.Low) (by omega) (by omega) hc
 have hn:=fun (c:UInt8) (hc:isD c = false)=>dec_no (n:=e.High) (by omega) (by omega) hc
 unfold ntx
 by_cases q:e.Low = 1∧e.High = 16
 ·rw [if_pos q,q.1,q.2]
  exact ⟨if_pos rfl,by decide,by decide⟩
 ·rw [if_neg q]
  by_cases p:e.Low = e.High
  ·rw [if_pos p]
   refine ⟨?_,ln 46 rfl,ln 44 rfl⟩
   unfold lowhigh
   rw [if_neg (dec_ne (by omega) (by omega)),cutL_none (ln 45 rfl)]
   dsimp only
   rw [l1]
   show some ((((e.Low.toNat:Nat):Int)),((e.Low.toNat:Nat):Int)) = _
   rw [← p,show ((e.Low.toNat:Nat):Int) = e.Low by omega]
  ·rw [if_neg p]
   have hc:cutL 45 (dec e.Low++[45]++dec e.High) = (dec e.Low,dec e.High,true):=by
    rw [List.append_assoc]; exact cutL_app (ln 45 rfl)
   refine ⟨?_,?_,?_⟩
   ·unfold lowhigh
    rw [if_neg,hc]
    ·dsimp only
     rw [l1,k1]
     show some ((((e.Low.toNat:Nat):Int)),((e.High.toNat:Nat):Int)) = _
     rw [show ((e.Low.toNat:Nat):Int) = e.Low by omega,show ((e.High.toNat:Nat):Int) = e.High by omega]
    ·intro e'
     have:(45:UInt8) ∈ ([42]:List UInt8):=by rw [← e']; simp
     revert this; decide
   ·simp only [List.mem_append,List.mem_singleton,not_or]; exact ⟨⟨ln 46 rfl,by decide⟩,hn 46 rfl⟩
   ·simp only [List.mem_append,List.mem_singleton,not_or]; exact ⟨⟨ln 44 rfl,by decide⟩,hn 44 rfl⟩
theorem txt_shape {e:EID} (h:OKE e):∃ d q,txt e = 110 :: (ntx e++sfx d q)∧(d = false→q = [])∧svR id d q = some e.Service∧(44:UInt8) ∉ q:=by
 have e0:txt e = 110 :: (ntx e++(if e.Service = 0 then [] else if e.Service = -1 then [46,42] else [46]++dec e.Service)):=rfl
 obtain ⟨_,_,_,h4,h5⟩:=h
 by_cases q:e.Service = 0
 ·refine ⟨false,[],?_,fun _=>rfl,?_,by simp⟩
  ·rw [e0,if_pos q]; rfl
  ·rw [q]; rfl
 ·by_cases p:e.Service = -1
  ·refine ⟨true,[42],?_,(fun h=>by cases h),?_,by decide⟩
   ·rw [e0,if_neg q,if_pos p]; rfl
   ·rw [p]; rfl
  ·refine ⟨true,dec e.Service,?_,(fun h=>by cases h),?_,dec_no (by omega) (by omega) rfl⟩
   ·rw [e0,if_neg q,if_neg p]; rfl
   ·unfold svR
    rw [if_pos rfl,if_neg (dec_ne (by omega) (by omega)),(dec_num (by omega) (by omega)).1]
    show some ((e.Service.toNat:Nat):Int) = _
    rw [show ((e.Service.toNat:Nat):Int) = e.Service by omega]
theorem txt_back {e:EID} (h:OKE e):finR (refP id (txt e)) = (e,0):=by
 obtain ⟨d,q,h1,h2,h3,_⟩:=txt_shape h
 obtain ⟨n1,n2,_⟩:=ntx_lh h
 have hc:cutL 46 (ntx e++sfx d q) = (ntx e,q,d):=by
  cases d with
  | false=>rw [h2 rfl]; unfold sfx; simp only [Bool.false_eq_true,if_false,List.append_nil]; exact cutL_none n2
  | true=>exact cutL_app n2
 have:refP id (txt e) = some e:=by
  rw [h1,show refP id (110 :: (ntx e++sfx d q)) = refT id (ntx e++sfx d q) by simp [refP]]
  unfold refT
  rw [hc]
  dsimp only
  rw [n1,Option.bind_some,h3]
  rfl
 rw [this]
 exact if_pos h
theorem txt_44 {e:EID} (h:OKE e):(44:UInt8) ∉ txt e:=by
 obtain ⟨d,q,h1,h2,h3,h4⟩:=txt_shape h
 obtain ⟨_,_,n3⟩:=ntx_lh h
 rw [h1]
 simp only [List.mem_cons,List.mem_append,not_or]
 refine ⟨by decide,n3,?_⟩
 cases d with
 | false=>simp [sfx]
 | true=>simp only [sfx,if_true,List.mem_cons,not_or]; exact ⟨by decide,h4⟩
theorem pieces_app {p q:List UInt8} (h:(44:UInt8) ∉ p):pieces 44 (p++44 :: q) = p :: pieces 44 q:=by
 rw [pieces_cut,cutL_app h]; rfl
theorem pieces_one {p:List UInt8} (h:(44:UInt8) ∉ p):pieces 44 p = [p]:=by
 rw [pieces_cut,cutL_none h]; rfl
theorem pieces_jn:∀ {l:List EID},l ≠ []→(∀ e ∈ l,OKE e)→pieces 44 (jn l) = l.map txt
 | [],h,_=>absurd rfl h
 | [e],_,h=>by
  have:jn [e] = txt e:=Go.Lib.join_one _ _
  rw [this]
  exact pieces_one (txt_44 (h e (by simp)))
 | e :: f :: l,_,h=>by
  have ih:=pieces_jn (l:=f :: l) (by simp) (fun x hx=>h x (by simp only [List.mem_cons] at hx ⊢; exact .inr hx))
  have:jn (e :: f :: l) = txt e++44 :: jn (f :: l):=by
   show Go.Lib.join (txt e :: txt f :: l.map txt) [44] = _
   simp [jn,Go.Lib.join]
  rw [this,pieces_app (txt_44 (h e (by simp))),ih]
  rfl
theorem listR_back:∀ (l o:List EID) (at':Int),(∀ e ∈ l,OKE e)→o.length + l.length ≤ 20→listR (l.map txt) o at' = (o++l,⟨0,0⟩)
 | [],o,at',_,_=>by simp [listR]
 | e :: l,o,at',h,hl=>by
  rw [List.map_cons]
  unfold listR
  rw [if_neg (by simp at hl; omega),txt_back (h e (by simp)),if_neg (by simp),listR_back l _ _ (fun x hx=>h x (by simp [hx])) (by simp at hl ⊢; omega)]
  simp
theorem jn_back {l:List EID} (h:∀ e ∈ l,OKE e) (hl:l.length ≤ 20):listV (jn l) = (l,⟨0,0⟩):=by
 unfold listV
 cases l with
 | nil=>exact if_pos rfl
 | cons e l =>
  have hp:=pieces_jn (l:=e :: l) (by simp) h
  rw [if_neg,hp,listR_back _ _ _ h (by simpa using hl)]
  ·rfl
  ·intro e0
   have:=listR_back (e :: l) [] 0 h (by simpa using hl)
   rw [← hp,e0] at this
   rw [show listR (pieces 44 []) [] 0 = ([],⟨3,0⟩) from rfl] at this
   cases this
theorem back_w (nums:List Int):packhorselaw05_EidBack nums = some true:=by
 refine W.eq ?_
 unfold packhorselaw05_EidBack
 refine W_call (made_w nums) fun l hl=>?_
 obtain ⟨h1,h2⟩:=hl
 refine W_eq (joinP_w ⟨by omega,h2⟩) ?_
 have hj:=jn_len h2
 refine W_eq (list_eq (s:=jn l) (by omega)) ?_
 rw [jn_back h2 (by omega)]
 dsimp only
 refine W_brne (fun h=>absurd rfl h) fun _=>?_
 refine W_brne (fun h=>absurd rfl h) fun _=>?_
 refine W_eq (same_w rfl (by omega)) ?_
 refine W_brF ?_
 refine W_loop (fun i=>0 ≤ i∧i ≤ (l.length:Int)) (fun i=>l.length - i.toNat) ?_ ⟨by omega,by omega⟩
 rintro i ⟨i1,i2⟩
 refine W_if (fun k1=>?_) (fun k1=>?_)
 ·have hx:l[i.toNat]? = some (l[i.toNat]'(by omega)):=List.getElem?_eq_getElem _
  generalize l[i.toNat]'(by omega) = x at hx
  have hok:=h2 x (List.mem_of_getElem? hx)
  have hix:idx l i = some x:=by unfold idx; rw [if_pos i1,hx]
  refine W_eq hix ?_
  refine W_eq (text_w hok) ?_
  have htl:=txt_len hok
  refine W_eq (parse_ref (s:=txt x) (by omega)).1 ?_
  rw [txt_back hok]
  dsimp only
  refine W_brne (fun h=>absurd rfl h) fun _=>?_
  refine W_brne (fun h=>absurd rfl h) fun _=>?_
  refine W_eq hix ?_
  rw [show (!(x.Low == x.Low && (x.High == x.High && x.Service == x.Service))) = false by simp]
  refine W_brF ?_
  refine W_op fun j hj=>?_
  exact W_next ⟨⟨by omega,by omega⟩,by omega⟩
 ·exact W_done (W_eq awake_w (W_ret rfl))
end Go.Proofs.YtjcbpfhlgebgdaaDoor
