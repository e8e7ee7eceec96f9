import Derived.Test.YtjcbpfhlgebgdaaDoorXL
import Derived.Test.YtjcbpfhlgebgdaaDoorXGEt
set_option linter.unusedSimpArgs false
set_option linter.unusedVariables false
namespace Go.Proofs.YtjcbpfhlgebgdaaDoor
open Go.X Go.Eng
structure OKE (e:EID):Prop where
 lo:1 ≤ e.Low
 lh:e.Low ≤ e.High
 hi:e.High ≤ 16
 s1:-1 ≤ e.Service
 s2:e.Service ≤ 999
structure OKP (l:List EID):Prop where
 len:l.length ≤ 20
 ok:∀ e ∈ l,OKE e
theorem W_appc {α β:Type} {l m:List α} {n:Nat} {f:List α→Option β} {Q:β→Prop} (h:(l.length + m.length) * n ≤ 140737488355328) (k:∀ c,c = l++m→W (f c) Q):W ((app n l m).bind f) Q:=W_app h (k _ rfl)
theorem check_ok {e:EID} (h:OKE e):eid_Check e = some 0:=by
 obtain ⟨h1,h2,h3,h4,h5⟩:=h
 refine W.eq ?_
 unfold eid_Check
 iterate 5 (refine W_brd (fun h=>absurd h (by omega)) fun _=>?_)
 exact W_ret rfl
theorem pattern_ok {l:List EID} (h:OKP l):eid_pattern l = some 0:=by
 obtain ⟨hlen,hok⟩:=h
 refine W.eq ?_
 unfold eid_pattern
 refine W_brd (fun h=>absurd h (by omega)) fun _=>?_
 refine W_loop (fun i=>0 ≤ i∧i ≤ (l.length:Int)) (fun i=>l.length - i.toNat) ?_ ⟨by omega,by omega⟩
 rintro i ⟨i1,i2⟩
 refine W_if (fun h1=>?_) (fun h1=>?_)
 ·refine W_idx i1 h1 fun x hx=>?_
  refine W_eq (check_ok (hok x (List.mem_of_getElem? hx))) ?_
  refine W_brne (fun h=>absurd rfl h) fun _=>?_
  refine W_op fun j hj=>?_
  exact W_next ⟨⟨by omega,by omega⟩,by omega⟩
 ·exact W_done (W_ret rfl)
theorem same_w {a b:List EID} (h:a = b) (hl:a.length ≤ 1000):packhorselaw05_same (a,b) = some true:=by
 subst h
 refine W.eq ?_
 unfold packhorselaw05_same
 dsimp only
 refine W_brne (fun h=>absurd rfl h) fun _=>?_
 refine W_loop (fun i=>0 ≤ i∧i ≤ (a.length:Int)) (fun i=>a.length - i.toNat) ?_ ⟨by omega,by omega⟩
 rintro i ⟨i1,i2⟩
 refine W_if (fun h1=>?_) (fun h1=>?_)
 ·refine W_idx i1 h1 fun x hx=>?_
  refine W_idx i1 h1 fun y hy=>?_
  rw [hx] at hy
  cases hy
  refine W_brnot ?_
  refine W_br (fun _=>?_) (fun h=>by simp at h)
  refine W_op fun j hj=>?_
  exact W_next ⟨⟨by omega,by omega⟩,by omega⟩
 ·exact W_done (W_ret rfl)
theorem awake_w:packhorselaw05_awake () = some true:=rfl
theorem check_w (e:EID):W (eid_Check e) fun x=>(OKE e∧x = 0) ∨ (¬ OKE e∧x = 2):=by
 unfold eid_Check
 iterate 5 (refine W_brd (fun h=>W_ret (.inr ⟨fun o=>by obtain ⟨h1,h2,h3,h4,h5⟩:=o; omega,rfl⟩)) fun _=>?_)
 exact W_ret (.inl ⟨⟨by omega,by omega,by omega,by omega,by omega⟩,rfl⟩)
theorem checkR_w (e:EID):W (packhorseref05_Check e) fun x=>(OKE e∧x = 0) ∨ (¬ OKE e∧x = 2):=by
 unfold packhorseref05_Check
 iterate 5 (refine W_brd (fun h=>W_ret (.inr ⟨fun o=>by obtain ⟨h1,h2,h3,h4,h5⟩:=o; omega,rfl⟩)) fun _=>?_)
 exact W_ret (.inl ⟨⟨by omega,by omega,by omega,by omega,by omega⟩,rfl⟩)
theorem W_cat {β:Type} {s t:List UInt8} {f:List UInt8→Option β} {Q:β→Prop} (h:s.length + t.length ≤ 100000) (k:∀ c,c = s++t→W (f c) Q):W ((catS s t).bind f) Q:=by
 unfold catS
 rw [if_pos (Nat.le_trans h (by decide))]
 exact k _ rfl
def dec (n:Int):List UInt8:=Go.Lib.decDigits n.toNat
theorem dec_len:∀ (k:Nat) (n:Int),0 ≤ n→n < 10 ^ (k + 1)→(dec n).length ≤ k + 1
 | 0,n,h0,h1=>by
  unfold dec
  rw [Go.Lib.decDigits,dif_pos (by omega)]
  simp
 | k + 1,n,h0,h1=>by
  unfold dec
  by_cases h:n.toNat < 10
  ·rw [Go.Lib.decDigits,dif_pos h]; simp
  ·rw [Go.Lib.decDigits,dif_neg h]
   have e:n.toNat / 10 = (n / 10).toNat:=by omega
   have:=dec_len k (n / 10) (by omega) (by rw [Int.pow_succ] at h1; omega)
   unfold dec at this
   rw [e,List.length_append]
   simp; omega
theorem itoa_w {n:Int} (h0:0 ≤ n) (h1:n ≤ 999):strconv_Itoa n = some (dec n):=by
 unfold strconv_Itoa itoaX
 rw [if_pos ⟨by omega,by omega⟩]
 unfold Go.Lib.itoa dec
 rw [if_neg (by omega)]
theorem digit_slc {n:Int} (h0:0 ≤ n) (h1:n < 10):slc ([48,49,50,51,52,53,54,55,56,57]:List UInt8) n (n + 1) = some [UInt8.ofNat (48 + n.toNat)]:=by
 rcases (by omega:n = 0 ∨ n = 1 ∨ n = 2 ∨ n = 3 ∨ n = 4 ∨ n = 5 ∨ n = 6 ∨ n = 7 ∨ n = 8 ∨ n = 9) with rfl | rfl | rfl | rfl | rfl | rfl | rfl | rfl | rfl | rfl <;> rfl
theorem digits_n:∀ (k:Nat) (n:Int),k ≤ 1000→0 ≤ n→n ≤ 1000000→n < 10 ^ (k + 1)→packhorseref05_digits_n (k + 1) n = some (dec n)
 | k,n,hk,h0,hb,h1=>by
  refine W.eq ?_
  show W (packhorseref05_digits_f (packhorseref05_digits_n k) n) _
  unfold packhorseref05_digits_f
  refine W_if (fun h=>?_) (fun h=>?_)
  ·refine W_op fun j hj=>?_
   subst hj
   refine W_eq (digit_slc h0 h) ?_
   refine W_ret ?_
   unfold dec
   rw [Go.Lib.decDigits,dif_pos (by omega)]
  ·have hk0:∃ k',k = k' + 1:=by
    cases k with
    | zero=>simp at h1; omega
    | succ k'=>exact ⟨k',rfl⟩
   obtain ⟨k',rfl⟩:=hk0
   refine W_op fun q hq=>?_
   have hq1:q < 10 ^ (k' + 1):=by rw [Int.pow_succ] at h1; omega
   refine W_eq (digits_n k' q (by omega) (by omega) (by omega) hq1) ?_
   refine W_op fun r hr=>?_
   refine W_op fun r2 hr2=>?_
   refine W_op fun r3 hr3=>?_
   have e:r3 = r + 1:=by omega
   subst e
   refine W_eq (digit_slc (by omega) (by omega)) ?_
   have hl:=dec_len k' q (by omega) hq1
   refine W_cat (by simp; omega) fun c hc=>?_
   refine W_ret ?_
   rw [hc]
   unfold dec
   have e1:n.toNat / 10 = q.toNat:=by omega
   have e2:n.toNat % 10 = r.toNat:=by omega
   conv=>rhs; rw [Go.Lib.decDigits,dif_neg (by omega)]
   rw [e1,e2]
theorem digits_w {n:Int} (h0:0 ≤ n) (h1:n ≤ 999):packhorseref05_digits n = some (dec n):=by
 have key:∀ (k j:Nat) (r:List UInt8),packhorseref05_digits_n k n = some r→packhorseref05_digits_n (k + j) n = some r:=by
  intro k
  have gen:∀ (k:Nat) (n:Int) (r:List UInt8),packhorseref05_digits_n k n = some r→packhorseref05_digits_n (k + 1) n = some r:=by
   intro k
   induction k with
   | zero=>intro n r h; cases h
   | succ k ih =>
    intro n r h
    show packhorseref05_digits_f (packhorseref05_digits_n (k + 1)) n = some r
    have h':packhorseref05_digits_f (packhorseref05_digits_n k) n = some r:=h
    unfold packhorseref05_digits_f at h' ⊢
    rcases brS h' with ⟨hb,h'⟩ | ⟨hb,h'⟩
    ·rw [hb]; exact h'
    ·rw [hb]
     obtain ⟨q,e1,h'⟩:=bind_some h'
     obtain ⟨t,e2,h'⟩:=bind_some h'
     show (quoI .i64 n 10).bind _ = _
     rw [e1]
     simp only [Option.bind_some]
     rw [ih q t e2]
     exact h'
  intro j
  induction j with
  | zero=>intro r h; exact h
  | succ j ihj=>intro r h; exact gen _ _ _ (ihj r h)
 exact key 3 97 _ (digits_n 2 n (by omega) h0 (by omega) (by omega))
def txt (e:EID):List UInt8 :=
 ([110]++(if e.Low = 1∧e.High = 16 then [42] else if e.Low = e.High then dec e.Low else dec e.Low++[45]++dec e.High))++(if e.Service = 0 then [] else if e.Service = -1 then [46,42] else [46]++dec e.Service)
theorem dec3 {n:Int} (h0:0 ≤ n) (h1:n ≤ 999):(dec n).length ≤ 3:=dec_len 2 n h0 (by omega)
theorem txt_len {e:EID} (h:OKE e):(txt e).length ≤ 12:=by
 obtain ⟨h1,h2,h3,h4,h5⟩:=h
 have a:=dec3 (n:=e.Low) (by omega) (by omega)
 have b:=dec3 (n:=e.High) (by omega) (by omega)
 unfold txt
 by_cases q:e.Service = -1
 ·have q0:¬ e.Service = 0:=by omega
  rw [if_neg q0,if_pos q]
  split
  ·simp
  ·split <;> simp <;> omega
 ·have c:=dec3 (n:=if e.Service < 0 then 0 else e.Service) (by split <;> omega) (by split <;> omega)
  rw [if_neg (by omega)] at c
  by_cases q0:e.Service = 0
  ·rw [if_pos q0]
   split
   ·simp
   ·split <;> simp <;> omega
  ·rw [if_neg q0,if_neg q]
   split
   ·simp; omega
   ·split <;> simp <;> omega
theorem text_w {e:EID} (h:OKE e):eid_Text e = some (txt e,0):=by
 have hck:=check_ok h
 obtain ⟨h1,h2,h3,h4,h5⟩:=h
 have a:=dec3 (n:=e.Low) (by omega) (by omega)
 have b:=dec3 (n:=e.High) (by omega) (by omega)
 refine W.eq ?_
 unfold eid_Text
 refine W_eq hck ?_
 refine W_brne (fun h=>absurd rfl h) fun _=>?_
 have svc:∀ (x:List UInt8),x.length ≤ 20→x = [110]++(if e.Low = 1∧e.High = 16 then [42] else if e.Low = e.High then dec e.Low else dec e.Low++[45]++dec e.High) →
   W (br (e.Service == 0) (some (x,(0:Int))) (br (e.Service == -1) ((catS x [46,42]).bind fun y=>some (y,(0:Int))) ((strconv_Itoa e.Service).bind fun y=>(catS [46] y).bind fun z=>(catS x z).bind fun u=>some (u,(0:Int))))) fun r=>r = (txt e,0):=by
  intro x hx hxe
  refine W_if (fun q0=>?_) (fun q0=>?_)
  ·refine W_ret ?_
   unfold txt
   rw [if_pos q0,← hxe,List.append_nil]
  ·refine W_if (fun q1=>?_) (fun q1=>?_)
   ·refine W_cat (by simp; omega) fun c hc=>?_
    refine W_ret ?_
    unfold txt
    rw [if_neg q0,if_pos q1,← hxe,hc]
   ·refine W_eq (itoa_w (by omega) (by omega)) ?_
    have ds:=dec3 (n:=e.Service) (by omega) (by omega)
    refine W_cat (by simp; omega) fun c hc=>?_
    refine W_cat (by rw [hc]; simp; omega) fun d hd=>?_
    refine W_ret ?_
    unfold txt
    rw [if_neg q0,if_neg q1,← hxe,hd,hc]
 have mid:W (br (e.Low == e.High)
     ((strconv_Itoa e.Low).bind fun x_8 =>
     (catS ([110]:List UInt8) x_8).bind fun x_9 =>
     br (e.Service == 0) (some (x_9,(0:Int))) (br (e.Service == -1) ((catS x_9 [46,42]).bind fun y=>some (y,(0:Int))) ((strconv_Itoa e.Service).bind fun y=>(catS [46] y).bind fun z=>(catS x_9 z).bind fun u=>some (u,(0:Int)))))
     ((strconv_Itoa e.Low).bind fun x_14 =>
     (catS x_14 ([45]:List UInt8)).bind fun x_15 =>
     (strconv_Itoa e.High).bind fun x_16 =>
     (catS x_15 x_16).bind fun x_17 =>
     (catS ([110]:List UInt8) x_17).bind fun x_18 =>
     br (e.Service == 0) (some (x_18,(0:Int))) (br (e.Service == -1) ((catS x_18 [46,42]).bind fun y=>some (y,(0:Int))) ((strconv_Itoa e.Service).bind fun y=>(catS [46] y).bind fun z=>(catS x_18 z).bind fun u=>some (u,(0:Int)))))) (fun r=>r = (txt e,0)) ∨ (e.Low = 1∧e.High = 16):=by
  by_cases hall:e.Low = 1∧e.High = 16
  ·exact .inr hall
  refine .inl ?_
  refine W_if (fun q=>?_) (fun q=>?_)
  ·refine W_eq (itoa_w (by omega) (by omega)) ?_
   refine W_cat (by simp; omega) fun c hc=>?_
   refine svc c (by rw [hc]; simp; omega) ?_
   rw [if_neg hall,if_pos q,hc]
  ·refine W_eq (itoa_w (by omega) (by omega)) ?_
   refine W_cat (by simp; omega) fun c hc=>?_
   refine W_eq (itoa_w (by omega) (by omega)) ?_
   refine W_cat (by rw [hc]; simp; omega) fun d hd=>?_
   refine W_cat (by rw [hd,hc]; simp; omega) fun f hf=>?_
   refine svc f (by rw [hf,hd,hc]; simp; omega) ?_
   rw [if_neg hall,if_neg q,hf,hd,hc]
 refine W_if (fun q1=>?_) (fun q1=>?_)
 ·refine W_if (fun q2=>?_) (fun q2=>?_)
  ·refine W_cat (by simp) fun c hc=>?_
   refine svc c (by rw [hc]; simp) ?_
   rw [if_pos ⟨q1,q2⟩,hc]
  ·exact mid.resolve_right fun h=>q2 h.2
 ·exact mid.resolve_right fun h=>q1 h.1
theorem checkR_ok {e:EID} (h:OKE e):packhorseref05_Check e = some 0:=by
 obtain ⟨x,hx,q⟩:=checkR_w e
 rcases q with ⟨_,q⟩ | ⟨q,_⟩
 ·rw [hx,q]
 ·exact absurd h q
theorem textR_w {e:EID} (h:OKE e):packhorseref05_Text e = some (txt e,0):=by
 have hck:=checkR_ok h
 obtain ⟨h1,h2,h3,h4,h5⟩:=h
 have a:=dec3 (n:=e.Low) (by omega) (by omega)
 have b:=dec3 (n:=e.High) (by omega) (by omega)
 refine W.eq ?_
 unfold packhorseref05_Text
 refine W_eq hck ?_
 refine W_brne (fun h=>absurd rfl h) fun _=>?_
 refine W_eq (digits_w (by omega) (by omega)) ?_
 refine W_cat (by simp; omega) fun x4 hx4=>?_
 have svc:∀ (x:List UInt8),x.length ≤ 20→x = [110]++(if e.Low = 1∧e.High = 16 then [42] else if e.Low = e.High then dec e.Low else dec e.Low++[45]++dec e.High) →
   W (br (decide (e.Service < 0)) ((catS x [46,42]).bind fun y=>some (y,(0:Int))) (br (decide (0 < e.Service)) ((catS x [46]).bind fun y=>(packhorseref05_digits e.Service).bind fun z=>(catS y z).bind fun u=>some (u,(0:Int))) (some (x,(0:Int))))) fun r=>r = (txt e,0):=by
  intro x hx hxe
  refine W_if (fun q0=>?_) (fun q0=>?_)
  ·refine W_cat (by simp; omega) fun c hc=>?_
   refine W_ret ?_
   unfold txt
   have e0:¬ e.Service = 0:=by omega
   have e1:e.Service = -1:=by omega
   rw [if_neg e0,if_pos e1,← hxe,hc]
  ·refine W_if (fun q1=>?_) (fun q1=>?_)
   ·refine W_cat (by simp; omega) fun c hc=>?_
    refine W_eq (digits_w (by omega) (by omega)) ?_
    have ds:=dec3 (n:=e.Service) (by omega) (by omega)
    refine W_cat (by rw [hc]; simp; omega) fun d hd=>?_
    refine W_ret ?_
    unfold txt
    have e0:¬ e.Service = 0:=by omega
    have e1:¬ e.Service = -1:=by omega
    rw [if_neg e0,if_neg e1,← hxe,hd,hc]
    simp
   ·refine W_ret ?_
    unfold txt
    have e0:e.Service = 0:=by omega
    rw [if_pos e0,← hxe,List.append_nil]
 have mid:W (br (decide (e.Low < e.High))
     ((catS x4 ([45]:List UInt8)).bind fun x_9 =>
     (packhorseref05_digits e.High).bind fun x_10 =>
     (catS x_9 x_10).bind fun x_11 =>
     br (decide (e.Service < 0)) ((catS x_11 [46,42]).bind fun y=>some (y,(0:Int))) (br (decide (0 < e.Service)) ((catS x_11 [46]).bind fun y=>(packhorseref05_digits e.Service).bind fun z=>(catS y z).bind fun u=>some (u,(0:Int))) (some (x_11,(0:Int)))))
     (br (decide (e.Service < 0)) ((catS x4 [46,42]).bind fun y=>some (y,(0:Int))) (br (decide (0 < e.Service)) ((catS x4 [46]).bind fun y=>(packhorseref05_digits e.Service).bind fun z=>(catS y z).bind fun u=>some (u,(0:Int))) (some (x4,(0:Int)))))) (fun r=>r = (txt e,0)) ∨ (e.Low = 1∧e.High = 16):=by
  by_cases hall:e.Low = 1∧e.High = 16
  ·exact .inr hall
  refine .inl ?_
  refine W_if (fun q=>?_) (fun q=>?_)
  ·refine W_cat (by rw [hx4]; simp; omega) fun c hc=>?_
   refine W_eq (digits_w (by omega) (by omega)) ?_
   refine W_cat (by rw [hc,hx4]; simp; omega) fun d hd=>?_
   refine svc d (by rw [hd,hc,hx4]; simp; omega) ?_
   rw [if_neg hall,if_neg (by omega),hd,hc,hx4]
   simp
  ·refine svc x4 (by rw [hx4]; simp; omega) ?_
   rw [if_neg hall,if_pos (by omega),hx4]
 refine W_if (fun q1=>?_) (fun q1=>?_)
 ·refine W_if (fun q2=>?_) (fun q2=>?_)
  ·have hstar:([110,42]:List UInt8) = [110]++(if e.Low = 1∧e.High = 16 then [42] else if e.Low = e.High then dec e.Low else dec e.Low++[45]++dec e.High):=by
    rw [if_pos ⟨q1,q2⟩]; rfl
   exact svc [110,42] (by simp) hstar
  ·exact mid.resolve_right fun h=>q2 h.2
 ·exact mid.resolve_right fun h=>q1 h.1
def jn (l:List EID):List UInt8:=Go.Lib.join (l.map txt) [44]
theorem jn_len:∀ {l:List EID},(∀ e ∈ l,OKE e)→(jn l).length ≤ 13 * l.length:=by
 intro l h
 unfold jn
 cases l with
 | nil=>simp [Go.Lib.join]
 | cons x r =>
  rw [List.map_cons,Go.Lib.join_cons,List.length_append]
  have h1:=txt_len (h x (by simp))
  have h2:∀ {r:List EID},(∀ e ∈ r,OKE e)→(Go.Lib.joinTail [44] (r.map txt)).length ≤ 13 * r.length:=by
   intro r
   induction r with
   | nil=>intro _; simp [Go.Lib.joinTail]
   | cons y r ih =>
    intro h
    have a:=ih fun e he=>h e (by simp [he])
    have b:=txt_len (h y (by simp))
    unfold Go.Lib.joinTail at a ⊢
    simp only [List.map_cons,List.flatten_cons,List.length_append,List.length_cons,List.length_nil] at a ⊢
    omega
  have h3:=h2 (r:=r) fun e he=>h e (by simp [he])
  simp only [List.length_cons]
  omega
theorem joinP_w {l:List EID} (h:OKP l):eid_Join l = some (jn l,0):=by
 have hlen:=h.len
 refine W.eq ?_
 unfold eid_Join
 refine W_eq (pattern_ok h) ?_
 refine W_brne (fun h=>absurd rfl h) fun _=>?_
 have hmk:mkL ([]:List UInt8) 16 (l.length:Int) (l.length:Int) = some (List.replicate l.length []):=by
  unfold mkL
  rw [if_pos ⟨by omega,by omega,by omega,by have:(maxLen:Int) = maxLen:=rfl; exact Int.le_trans (by omega:(l.length:Int) ≤ 1000) (by decide)⟩]
  simp
 refine W_eq hmk ?_
 refine W_loop (fun st=>(0 ≤ st.2∧st.2 ≤ (l.length:Int))∧st.1 = (l.take st.2.toNat).map txt++List.replicate (l.length - st.2.toNat) []) (fun st=>l.length - st.2.toNat) ?_ ⟨⟨by dsimp only; omega,by dsimp only; omega⟩,by simp⟩
 rintro ⟨t,i⟩ ⟨⟨i1,i2⟩,ht⟩
 dsimp only at i1 i2 ht ⊢
 have htl:t.length = l.length:=by rw [ht]; simp; omega
 refine W_if (fun h1=>?_) (fun h1=>?_)
 ·refine W_idx i1 h1 fun e he=>?_
  refine W_eq (text_w (h.ok e (List.mem_of_getElem? he))) ?_
  dsimp only
  refine W_brin i1 (by omega) ?_
  refine W_idx i1 (by omega) fun _ _=>?_
  refine W_op fun j hj=>?_
  refine W_next ⟨⟨⟨by dsimp only; omega,by dsimp only; omega⟩,?_⟩,by dsimp only; omega⟩
  dsimp only
  have e1:j.toNat = i.toNat + 1:=by omega
  have e2:l.length - i.toNat = (l.length - (i.toNat + 1)) + 1:=by omega
  unfold setI
  rw [ht,e1,e2,List.replicate_succ,List.take_add_one,he,List.map_append,List.set_append_right _ _ (by simp; omega)]
  have e3:i.toNat - ((l.take i.toNat).map txt).length = 0:=by simp; omega
  rw [e3]
  simp
 ·have e1:i.toNat = l.length:=by omega
  rw [e1,List.take_length,Nat.sub_self,List.replicate_zero,List.append_nil] at ht
  refine W_done ?_
  dsimp only
  have hj:strings_Join (t,[44]) = some (jn l):=by
   unfold strings_Join joinX
   have:=jn_len h.ok
   unfold jn at this ⊢
   dsimp only
   rw [ht,if_pos ⟨by simp; omega,by omega⟩]
  refine W_eq hj ?_
  exact W_ret rfl
theorem mod_w (x:Int):W (packhorsekit_Mod (x,1048576)) fun r=>0 ≤ r∧r < 1048576:=by
 unfold packhorsekit_Mod
 dsimp only
 refine W_brd (fun h=>absurd h (by decide)) (fun _=>?_)
 refine W_remt (by decide) fun c hc=>?_
 have h1:=Int.tmod_lt_of_pos x (b:=1048576) (by decide)
 have h2:=Int.lt_tmod_of_pos x (b:=1048576) (by decide)
 rw [← hc] at h1 h2
 (first | refine W_op fun _ _=>?_ | refine W_if ?_ ?_ <;> intro _ <;> try (exfalso; omega))
 ·(first | refine W_op fun _ _=>?_ | refine W_if ?_ ?_ <;> intro _ <;> try (exfalso; omega))
  exact W_ret (by omega)
 ·exact W_ret (by omega)
theorem made_w (nums:List Int):W (packhorselaw05_made nums) fun l=>l.length ≤ 12∧∀ e ∈ l,OKE e:=by
 unfold packhorselaw05_made
 refine W_loop (fun s=>(0 ≤ s.2∧s.2 ≤ 12∧(s.1.length:Int) = s.2)∧∀ e ∈ s.1,OKE e) (fun s=>12 - s.2.toNat) ?_ ⟨by simp,by simp⟩
 rintro ⟨out,i⟩ ⟨⟨i1,i2,i3⟩,i4⟩
 dsimp only at i1 i2 i3 i4 ⊢
 refine W_if (fun h1=>?_) (fun h1=>?_)
 ·refine W_if (fun h2=>?_) (fun h2=>?_)
  ·refine W_idx i1 h1 fun x hx=>?_
   refine W_call (mod_w x) fun r hr=>?_
   obtain ⟨r1,r2⟩:=hr
   refine W_rem r1 (by decide) fun a ha=>?_
   have a1:0 ≤ a∧a < 16:=by rw [ha]; exact ⟨Int.emod_nonneg _ (by decide),Int.emod_lt_of_pos _ (by decide)⟩
   refine W_op fun b hb=>?_
   refine W_quo r1 (by omega) (by decide) fun c hc=>?_
   have c1:0 ≤ c:=by rw [hc]; exact Int.ediv_nonneg r1 (by decide)
   refine W_rem c1 (by decide) fun d hd=>?_
   have d1:0 ≤ d∧d < 4:=by rw [hd]; exact ⟨Int.emod_nonneg _ (by decide),Int.emod_lt_of_pos _ (by decide)⟩
   refine W_quo r1 (by omega) (by decide) fun f hf=>?_
   have f1:0 ≤ f:=by rw [hf]; exact Int.ediv_nonneg r1 (by decide)
   refine W_rem f1 (by decide) fun g hg=>?_
   have g1:0 ≤ g∧g < 2:=by rw [hg]; exact ⟨Int.emod_nonneg _ (by decide),Int.emod_lt_of_pos _ (by decide)⟩
   have m1:0 ≤ d * g:=Int.mul_nonneg d1.1 g1.1
   have m2:d * g ≤ 3 * 1:=Int.mul_le_mul (by omega) (by omega) g1.1 (by omega)
   refine W_mul (by omega) (by omega) fun k hk=>?_
   refine W_op fun n hn=>?_
   refine W_quo r1 (by omega) (by decide) fun p hp=>?_
   have p1:0 ≤ p:=by rw [hp]; exact Int.ediv_nonneg r1 (by decide)
   refine W_rem p1 (by decide) fun q hq=>?_
   have q1:0 ≤ q∧q < 5:=by rw [hq]; exact ⟨Int.emod_nonneg _ (by decide),Int.emod_lt_of_pos _ (by decide)⟩
   refine W_op fun t ht=>?_
   unfold packhorselaw05_ad
   dsimp only
   refine W_some ?_
   refine W_appc (by simp; omega) fun o ho=>?_
   refine W_op fun j hj=>?_
   refine W_next ⟨⟨⟨by omega,by omega,by rw [ho]; simp; omega⟩,?_⟩,by dsimp only; omega⟩
   intro e he
   rw [ho,List.mem_append,List.mem_singleton] at he
   rcases he with he | rfl
   ·exact i4 e he
   ·exact ⟨by dsimp only; omega,by dsimp only; omega,by dsimp only; omega,by dsimp only; omega,by dsimp only; omega⟩
  ·exact W_done (W_ret ⟨by omega,i4⟩)
 ·exact W_done (W_ret ⟨by omega,i4⟩)
end Go.Proofs.YtjcbpfhlgebgdaaDoor
namespace Go.Proofs.YtjcbpfhlgebgdaaDoor
open Go Go.X Go.Eng
def nval:List UInt8→Nat→Option Nat
 | [],n=>some n
 | c :: s,n=>if c.toNat < 48 ∨ 57 < c.toNat then none else if 1125899906842624 < 10 * n + (c.toNat - 48) then none else nval s (10 * n + (c.toNat - 48))
def num (s:List UInt8):Option Nat:=if s = [] then none else if s.head? = some 48∧1 < s.length then none else nval s 0
def numR (o:Option Nat):Int × Bool:=match o with | some n=>(n,true) | none=>(0,false)
theorem idxS_of {s:List UInt8} {i:Int} {x:UInt8} (h0:0 ≤ i) (h:s[i.toNat]? = some x):idxS s i = some (x.toNat:Int):=by
 unfold idxS idx; rw [if_pos h0,h]; rfl
theorem idxB_of {s:List UInt8} {i:Int} {x:UInt8} (h0:0 ≤ i) (h:s[i.toNat]? = some x):idx (bytesI s) i = some (x.toNat:Int):=by
 unfold idx bytesI; rw [if_pos h0,List.getElem?_map,h]; rfl
theorem nval_step {s:List UInt8} {i:Nat} {x:UInt8} (h:s[i]? = some x) (n:Nat):nval (s.drop i) n = if x.toNat < 48 ∨ 57 < x.toNat then none else if 1125899906842624 < 10 * n + (x.toNat - 48) then none else nval (s.drop (i + 1)) (10 * n + (x.toNat - 48)):=by
 obtain ⟨hi,hx⟩:=List.getElem?_eq_some_iff.1 h
 rw [List.drop_eq_getElem_cons hi,hx]
 rfl
theorem mulU {a:Int} (h0:0 ≤ a) (h1:a ≤ 1125899906842624):mulI .u64 (10:Int) a = some (10 * a):=by
 unfold mulI; rw [if_pos (InR_u64 _ ⟨by omega,by omega⟩)]
theorem subB {a:Int} (h0:48 ≤ a) (h1:a ≤ 57):subI .u8 a (48:Int) = some (a - 48):=by
 unfold subI; rw [if_pos (InR_u8 _ ⟨by omega,by omega⟩)]
theorem wrapB {a:Int} (h0:48 ≤ a) (h1:a ≤ 57):IntKind.wrap .u64 (a - 48) = a - 48:=InR_u64 _ ⟨by omega,by omega⟩
theorem addU {a b:Int} (h0:0 ≤ a∧a ≤ 11258999068426240) (h1:0 ≤ b∧b ≤ 9):addI .u64 a b = some (a + b):=by
 unfold addI; rw [if_pos (InR_u64 _ ⟨by omega,by omega⟩)]
theorem number_w {s:List UInt8} (hs:s.length ≤ 100000):words_Number s = some (numR (num s)):=by
 refine W.eq ?_
 unfold words_Number
 by_cases h0:s = []
 ·subst h0; exact W_brT (W_ret rfl)
 have hb:(s == ([]:List UInt8)) = false:=by simpa using h0
 rw [hb]
 refine W_brF ?_
 have hpos:0 < s.length:=List.length_pos_iff.2 h0
 have hx0:s[0]? = some (s[0]'hpos):=List.getElem?_eq_getElem _
 generalize s[0]'hpos = x0 at hx0
 refine W_eq (idxS_of (Int.le_refl 0) hx0) ?_
 have hhead:s.head? = some x0:=by rw [List.head?_eq_getElem?]; exact hx0
 refine W_if (fun h1=>?_) (fun h1=>?_)
 ·refine W_if (fun h2=>W_ret ?_) (fun h2=>?_)
  ·unfold num
   rw [if_neg h0,if_pos ⟨by rw [hhead]; congr 1; exact UInt8.toNat_inj.1 (by show x0.toNat = 48; omega),by omega⟩]
   rfl
  have hnum:num s = nval s 0:=by unfold num; rw [if_neg h0,if_neg (fun h=>h2 (by omega))]
  refine W_call (R:=fun r=>match nval s 0 with | some m=>r = Sum.inr (m:Int) | none=>r = Sum.inl ((0:Int),false)) ?_ ?_
  ·refine W_iter (fun st=>0 ≤ st.2∧st.2 ≤ (s.length:Int)∧0 ≤ st.1∧st.1 ≤ 1125899906842624∧nval s 0 = nval (s.drop st.2.toNat) st.1.toNat) (fun st=>s.length - st.2.toNat) ?_ ⟨by simp,by simp,by simp,by decide,rfl⟩
   rintro ⟨n,i⟩ ⟨i1,i2,i3,i5,i4⟩
   dsimp only at i1 i2 i3 i4 i5 ⊢
   have hbl:(bytesI s).length = s.length:=by simp [bytesI]
   refine W_if (fun h1=>?_) (fun h1=>?_)
   ·have hx:s[i.toNat]? = some (s[i.toNat]'(by omega)):=List.getElem?_eq_getElem _
    generalize s[i.toNat]'(by omega) = x at hx
    have hxs:idx (bytesI s) i = some (x.toNat:Int):=idxB_of i1 hx
    have hst:=nval_step hx n.toNat
    have hnn:((n.toNat:Nat):Int) = n:=by omega
    refine W_eq hxs ?_
    refine W_if (fun h2=>W_done (by rw [i4,hst,if_pos (.inl (by omega))])) (fun h2=>?_)
    refine W_if (fun h3=>W_done (by rw [i4,hst,if_pos (.inr (by omega))])) (fun h3=>?_)
    rw [if_neg (by omega)] at hst
    refine W_eq (mulU (by omega) (by omega)) ?_
    refine W_eq (subB (by omega) (by omega)) ?_
    rw [wrapB (by omega) (by omega)]
    refine W_eq (addU (by omega) (by omega)) ?_
    refine W_if (fun h4=>W_done (by rw [i4,hst,if_pos (by omega)])) (fun h4=>?_)
    rw [if_neg (by omega)] at hst
    refine W_op fun j hj=>?_
    refine W_next ⟨⟨by omega,by omega,by omega,by omega,?_⟩,by dsimp only; omega⟩
    rw [i4,hst]
    congr 1
    ·rw [show j.toNat = i.toNat + 1 by omega]
    ·omega
   ·refine W_done ?_
    have:i.toNat = s.length:=by omega
    rw [this,List.drop_length] at i4
    rw [i4]
    show (Sum.inr n:(Int × Bool) ⊕ Int) = Sum.inr ((n.toNat:Nat):Int)
    congr 1; omega
  ·rintro r hr
   cases hv:nval s 0 with
   | none =>
    rw [hv] at hr
    cases hr
    exact W_ret (by rw [hnum,hv]; rfl)
   | some m =>
    rw [hv] at hr
    cases hr
    exact W_ret (by rw [hnum,hv]; rfl)
 ·have hnum:num s = nval s 0:=by
   unfold num
   rw [if_neg h0,if_neg (fun h=>h1 (by have:=h.1; rw [hhead] at this; cases this; rfl))]
  refine W_call (R:=fun r=>match nval s 0 with | some m=>r = Sum.inr (m:Int) | none=>r = Sum.inl ((0:Int),false)) ?_ ?_
  ·refine W_iter (fun st=>0 ≤ st.2∧st.2 ≤ (s.length:Int)∧0 ≤ st.1∧st.1 ≤ 1125899906842624∧nval s 0 = nval (s.drop st.2.toNat) st.1.toNat) (fun st=>s.length - st.2.toNat) ?_ ⟨by simp,by simp,by simp,by decide,rfl⟩
   rintro ⟨n,i⟩ ⟨i1,i2,i3,i5,i4⟩
   dsimp only at i1 i2 i3 i4 i5 ⊢
   have hbl:(bytesI s).length = s.length:=by simp [bytesI]
   refine W_if (fun h1=>?_) (fun h1=>?_)
   ·have hx:s[i.toNat]? = some (s[i.toNat]'(by omega)):=List.getElem?_eq_getElem _
    generalize s[i.toNat]'(by omega) = x at hx
    have hxs:idx (bytesI s) i = some (x.toNat:Int):=idxB_of i1 hx
    have hst:=nval_step hx n.toNat
    have hnn:((n.toNat:Nat):Int) = n:=by omega
    refine W_eq hxs ?_
    refine W_if (fun h2=>W_done (by rw [i4,hst,if_pos (.inl (by omega))])) (fun h2=>?_)
    refine W_if (fun h3=>W_done (by rw [i4,hst,if_pos (.inr (by omega))])) (fun h3=>?_)
    rw [if_neg (by omega)] at hst
    refine W_eq (mulU (by omega) (by omega)) ?_
    refine W_eq (subB (by omega) (by omega)) ?_
    rw [wrapB (by omega) (by omega)]
    refine W_eq (addU (by omega) (by omega)) ?_
    refine W_if (fun h4=>W_done (by rw [i4,hst,if_pos (by omega)])) (fun h4=>?_)
    rw [if_neg (by omega)] at hst
    refine W_op fun j hj=>?_
    refine W_next ⟨⟨by omega,by omega,by omega,by omega,?_⟩,by dsimp only; omega⟩
    rw [i4,hst]
    congr 1
    ·rw [show j.toNat = i.toNat + 1 by omega]
    ·omega
   ·refine W_done ?_
    have:i.toNat = s.length:=by omega
    rw [this,List.drop_length] at i4
    rw [i4]
    show (Sum.inr n:(Int × Bool) ⊕ Int) = Sum.inr ((n.toNat:Nat):Int)
    congr 1; omega
  ·rintro r hr
   cases hv:nval s 0 with
   | none =>
    rw [hv] at hr
    cases hr
    exact W_ret (by rw [hnum,hv]; rfl)
   | some m =>
    rw [hv] at hr
    cases hr
    exact W_ret (by rw [hnum,hv]; rfl)
theorem numberR_w {s:List UInt8} (hs:s.length ≤ 100000):packhorseref03_Number s = some (numR (num s)):=by
 refine W.eq ?_
 unfold packhorseref03_Number
 by_cases h0:s = []
 ·subst h0; exact W_brT (W_ret rfl)
 have hb:(s == ([]:List UInt8)) = false:=by simpa using h0
 rw [hb]
 refine W_brF ?_
 have hpos:0 < s.length:=List.length_pos_iff.2 h0
 have hx0:s[0]? = some (s[0]'hpos):=List.getElem?_eq_getElem _
 generalize s[0]'hpos = x0 at hx0
 refine W_eq (idxS_of (Int.le_refl 0) hx0) ?_
 have hhead:s.head? = some x0:=by rw [List.head?_eq_getElem?]; exact hx0
 refine W_if (fun h1=>?_) (fun h1=>?_)
 ·refine W_if (fun h2=>W_ret ?_) (fun h2=>?_)
  ·unfold num
   rw [if_neg h0,if_pos ⟨by rw [hhead]; congr 1; exact UInt8.toNat_inj.1 (by show x0.toNat = 48; omega),by omega⟩]
   rfl
  have hnum:num s = nval s 0:=by unfold num; rw [if_neg h0,if_neg (fun h=>h2 (by omega))]
  refine W_call (R:=fun r=>match nval s 0 with | some m=>r = Sum.inr (m:Int) | none=>r = Sum.inl ((0:Int),false)) ?_ ?_
  ·refine W_iter (fun st=>0 ≤ st.2∧st.2 ≤ (s.length:Int)∧0 ≤ st.1∧st.1 ≤ 1125899906842624∧nval s 0 = nval (s.drop st.2.toNat) st.1.toNat) (fun st=>s.length - st.2.toNat) ?_ ⟨by simp,by simp,by simp,by decide,rfl⟩
   rintro ⟨n,i⟩ ⟨i1,i2,i3,i5,i4⟩
   dsimp only at i1 i2 i3 i4 i5 ⊢
   refine W_if (fun h1=>?_) (fun h1=>?_)
   ·have hx:s[i.toNat]? = some (s[i.toNat]'(by omega)):=List.getElem?_eq_getElem _
    generalize s[i.toNat]'(by omega) = x at hx
    have hxs:idxS s i = some (x.toNat:Int):=idxS_of i1 hx
    have hst:=nval_step hx n.toNat
    have hnn:((n.toNat:Nat):Int) = n:=by omega
    refine W_eq hxs ?_
    refine W_if (fun h2=>W_done (by rw [i4,hst,if_pos (.inl (by omega))])) (fun h2=>?_)
    refine W_eq hxs ?_
    refine W_if (fun h3=>W_done (by rw [i4,hst,if_pos (.inr (by omega))])) (fun h3=>?_)
    rw [if_neg (by omega)] at hst
    refine W_eq (mulU (by omega) (by omega)) ?_
    refine W_eq hxs ?_
    refine W_eq (subB (by omega) (by omega)) ?_
    rw [wrapB (by omega) (by omega)]
    refine W_eq (addU (by omega) (by omega)) ?_
    refine W_if (fun h4=>W_done (by rw [i4,hst,if_pos (by omega)])) (fun h4=>?_)
    rw [if_neg (by omega)] at hst
    refine W_op fun j hj=>?_
    refine W_next ⟨⟨by omega,by omega,by omega,by omega,?_⟩,by dsimp only; omega⟩
    rw [i4,hst]
    congr 1
    ·rw [show j.toNat = i.toNat + 1 by omega]
    ·omega
   ·refine W_done ?_
    have:i.toNat = s.length:=by omega
    rw [this,List.drop_length] at i4
    rw [i4]
    show (Sum.inr n:(Int × Bool) ⊕ Int) = Sum.inr ((n.toNat:Nat):Int)
    congr 1; omega
  ·rintro r hr
   cases hv:nval s 0 with
   | none =>
    rw [hv] at hr
    cases hr
    exact W_ret (by rw [hnum,hv]; rfl)
   | some m =>
    rw [hv] at hr
    cases hr
    exact W_ret (by rw [hnum,hv]; rfl)
 ·have hnum:num s = nval s 0:=by
   unfold num
   rw [if_neg h0,if_neg (fun h=>h1 (by have:=h.1; rw [hhead] at this; cases this; rfl))]
  refine W_call (R:=fun r=>match nval s 0 with | some m=>r = Sum.inr (m:Int) | none=>r = Sum.inl ((0:Int),false)) ?_ ?_
  ·refine W_iter (fun st=>0 ≤ st.2∧st.2 ≤ (s.length:Int)∧0 ≤ st.1∧st.1 ≤ 1125899906842624∧nval s 0 = nval (s.drop st.2.toNat) st.1.toNat) (fun st=>s.length - st.2.toNat) ?_ ⟨by simp,by simp,by simp,by decide,rfl⟩
   rintro ⟨n,i⟩ ⟨i1,i2,i3,i5,i4⟩
   dsimp only at i1 i2 i3 i4 i5 ⊢
   refine W_if (fun h1=>?_) (fun h1=>?_)
   ·have hx:s[i.toNat]? = some (s[i.toNat]'(by omega)):=List.getElem?_eq_getElem _
    generalize s[i.toNat]'(by omega) = x at hx
    have hxs:idxS s i = some (x.toNat:Int):=idxS_of i1 hx
    have hst:=nval_step hx n.toNat
    have hnn:((n.toNat:Nat):Int) = n:=by omega
    refine W_eq hxs ?_
    refine W_if (fun h2=>W_done (by rw [i4,hst,if_pos (.inl (by omega))])) (fun h2=>?_)
    refine W_eq hxs ?_
    refine W_if (fun h3=>W_done (by rw [i4,hst,if_pos (.inr (by omega))])) (fun h3=>?_)
    rw [if_neg (by omega)] at hst
    refine W_eq (mulU (by omega) (by omega)) ?_
    refine W_eq hxs ?_
    refine W_eq (subB (by omega) (by omega)) ?_
    rw [wrapB (by omega) (by omega)]
    refine W_eq (addU (by omega) (by omega)) ?_
    refine W_if (fun h4=>W_done (by rw [i4,hst,if_pos (by omega)])) (fun h4=>?_)
    rw [if_neg (by omega)] at hst
    refine W_op fun j hj=>?_
    refine W_next ⟨⟨by omega,by omega,by omega,by omega,?_⟩,by dsimp only; omega⟩
    rw [i4,hst]
    congr 1
    ·rw [show j.toNat = i.toNat + 1 by omega]
    ·omega
   ·refine W_done ?_
    have:i.toNat = s.length:=by omega
    rw [this,List.drop_length] at i4
    rw [i4]
    show (Sum.inr n:(Int × Bool) ⊕ Int) = Sum.inr ((n.toNat:Nat):Int)
    congr 1; omega
  ·rintro r hr
   cases hv:nval s 0 with
   | none =>
    rw [hv] at hr
    cases hr
    exact W_ret (by rw [hnum,hv]; rfl)
   | some m =>
    rw [hv] at hr
    cases hr
    exact W_ret (by rw [hnum,hv]; rfl)
theorem nval_le:∀ {s:List UInt8} {n m:Nat},n ≤ 1125899906842624→nval s n = some m→m ≤ 1125899906842624
 | [],n,m,h,e=>by cases e; exact h
 | c :: s,n,m,h,e=>by
  unfold nval at e
  split at e
  ·cases e
  ·split at e
   ·cases e
   ·exact nval_le (by omega) e
theorem num_le {s:List UInt8} {m:Nat} (h:num s = some m):m ≤ 1125899906842624:=by
 unfold num at h
 split at h
 ·cases h
 ·split at h
  ·cases h
  ·exact nval_le (by decide) h
theorem nval_dig:∀ {s:List UInt8} {n m:Nat},nval s n = some m→∀ c ∈ s,48 ≤ c.toNat∧c.toNat ≤ 57
 | [],n,m,e,c,h=>by cases h
 | x :: s,n,m,e,c,h=>by
  unfold nval at e
  split at e
  ·cases e
  ·rename_i hx
   split at e
   ·cases e
   ·rcases List.mem_cons.1 h with rfl | h
    ·omega
    ·exact nval_dig e c h
theorem num_dig {s:List UInt8} {m:Nat} (h:num s = some m):∀ c ∈ s,48 ≤ c.toNat∧c.toNat ≤ 57:=by
 unfold num at h
 split at h
 ·cases h
 ·split at h
  ·cases h
  ·exact nval_dig h
theorem number5_w {s:List UInt8} (hs:s.length ≤ 100000):packhorseref05_number s = some (match num s with | some n=>((min n 1000:Nat),true) | none=>(0,false)):=by
 refine W.eq ?_
 unfold packhorseref05_number
 refine W_eq (numberR_w hs) ?_
 cases h:num s with
 | none =>
  refine W_if (fun h=>absurd h (by decide)) (fun _=>W_ret ?_)
  rfl
 | some n =>
  have hn:=num_le h
  show W (br (decide ((1000:Int) < (n:Int))) (some (IntKind.wrap .i64 (1000:Int),true)) (some (IntKind.wrap .i64 (n:Int),true))) _
  refine W_brd (fun h=>W_ret ?_) (fun h=>W_ret ?_)
  ·show (IntKind.wrap .i64 (1000:Int),true) = (((min n 1000:Nat):Int),true)
   rw [show min n 1000 = 1000 by omega]; rfl
  ·show (IntKind.wrap .i64 (n:Int),true) = (((min n 1000:Nat):Int),true)
   rw [show min n 1000 = n by omega,show IntKind.wrap .i64 (n:Int) = n from InR_i64 _ ⟨by omega,by omega⟩]
end Go.Proofs.YtjcbpfhlgebgdaaDoor
namespace Go.Proofs.YtjcbpfhlgebgdaaDoor
open Go Go.X Go.Eng
def dgs:List UInt8:=[48,49,50,51,52,53,54,55,56,57]
def isD (b:UInt8):Bool:=dgs.contains b
theorem isD_iff (b:UInt8):isD b = true ↔ 48 ≤ b.toNat∧b.toNat ≤ 57:=by
 constructor
 ·intro h
  unfold isD dgs at h
  simp only [List.contains_cons,List.contains_nil,Bool.or_false,Bool.or_eq_true,beq_iff_eq] at h
  rcases h with rfl | rfl | rfl | rfl | rfl | rfl | rfl | rfl | rfl | rfl <;> decide
 ·rintro ⟨h0,h1⟩
  have key:∀ n:Nat,48 ≤ n→n ≤ 57→isD (UInt8.ofNat n) = true:=fun n h0 h1=>by
   rcases (by omega:n = 48 ∨ n = 49 ∨ n = 50 ∨ n = 51 ∨ n = 52 ∨ n = 53 ∨ n = 54 ∨ n = 55 ∨ n = 56 ∨ n = 57) with rfl | rfl | rfl | rfl | rfl | rfl | rfl | rfl | rfl | rfl <;> rfl
  have:=key b.toNat h0 h1
  rwa [UInt8.ofNat_toNat] at this
def digs (s:List UInt8):List UInt8:=s.takeWhile isD
def rest (s:List UInt8):List UInt8:=s.dropWhile isD
theorem digs_rest (s:List UInt8):digs s++rest s = s:=List.takeWhile_append_dropWhile
def skp (c:Cursor) (p:List UInt8):Cursor:=if p.isPrefixOf c.left then ⟨c.left.drop p.length,c.ok⟩ else ⟨c.left,false⟩
theorem prefix_eq {s p:List UInt8} (hs:s.length ≤ 100000):internal_stringslite_HasPrefix (s,p) = some (p.isPrefixOf s):=by
 refine W.eq ?_
 unfold internal_stringslite_HasPrefix
 refine W_brd (fun h=>?_) (fun h=>W_ret ?_)
 ·have hsl:slc s 0 (p.length:Int) = some (s.take p.length):=by
   unfold slc
   rw [if_pos ⟨by omega,by omega,by omega⟩]
   simp
  refine W_eq hsl (W_ret ?_)
  rw [Bool.eq_iff_iff]
  rw [List.isPrefixOf_iff_prefix,beq_iff_eq]
  constructor
  ·intro e; rw [← e]; exact List.take_prefix _ _
  ·intro e; exact (List.prefix_iff_eq_take.1 e).symm
 ·symm
  rw [Bool.eq_false_iff]
  intro e
  rw [List.isPrefixOf_iff_prefix] at e
  have:=e.length_le
  omega
theorem sees_eq {c:Cursor} {p:List UInt8} (hs:c.left.length ≤ 100000):eid_cursor_sees (c,p) = some (p.isPrefixOf c.left):=by
 refine W.eq ?_
 unfold eid_cursor_sees strings_HasPrefix
 dsimp only
 rw [prefix_eq hs]
 exact W_ret rfl
theorem skip_eq {c:Cursor} {p:List UInt8} (hs:c.left.length ≤ 100000):eid_cursor_skip (c,p) = some (skp c p):=by
 refine W.eq ?_
 unfold eid_cursor_skip strings_CutPrefix internal_stringslite_CutPrefix skp
 dsimp only
 rw [prefix_eq hs]
 cases h:p.isPrefixOf c.left with
 | false =>
  simp only [Option.bind_some,Bool.not_false]
  cases c with | mk l o=>cases o <;> exact W_ret rfl
 | true =>
  have hl:=(List.isPrefixOf_iff_prefix.1 h).length_le
  have hsl:slc c.left (p.length:Int) (c.left.length:Int) = some (c.left.drop p.length):=by
   unfold slc
   rw [if_pos ⟨by omega,by omega,by omega⟩]
   simp
  simp only [Option.bind_some,Bool.not_true]
  show W ((((slc c.left (p.length:Int) (c.left.length:Int)).bind fun x=>some (x,true)).bind _).bind _) _
  rw [hsl]
  cases c with | mk l o=>cases o <;> exact W_ret rfl
def nmo (s:List UInt8):Int:=(numR (num (digs s))).1
def nmk (s:List UInt8):Bool:=(num (digs s)).isSome
theorem numR_snd (o:Option Nat):(numR o).2 = o.isSome:=by cases o <;> rfl
theorem numR_i64 (s:List UInt8):IntKind.wrap .i64 (numR (num s)).1 = (numR (num s)).1:=by
 cases h:num s with
 | none=>rfl
 | some n =>
  have:=num_le h
  exact InR_i64 _ ⟨by simp only [numR]; omega,by simp only [numR]; omega⟩
theorem number_pre {s:List UInt8} (hs:s.length ≤ 100000):strings_TrimLeft (s,dgs) = some (rest s)∧subI .i64 (s.length:Int) ((rest s).length:Int) = some ((digs s).length:Int)∧slc s (0:Int) ((digs s).length:Int) = some (digs s)∧words_Number (digs s) = some (numR (num (digs s))):=by
 have e:=congrArg List.length (digs_rest s)
 rw [List.length_append] at e
 refine ⟨?_,?_,?_,number_w (by omega)⟩
 ·unfold strings_TrimLeft
  rw [if_pos ⟨by show dgs.length < _; decide,by show dgs.all _ = true; decide⟩]
  rfl
 ·unfold subI
  rw [if_pos (InR_i64 _ ⟨by omega,by omega⟩)]
  congr 1; omega
 ·unfold slc
  rw [if_pos ⟨by omega,by omega,by omega⟩]
  show some ((s.take (digs s).length).drop 0) = _
  congr 1
  rw [List.drop_zero]
  conv=>lhs; arg 2; rw [← digs_rest s]
  simp
theorem number1_eq {c:Cursor} {e:EID} (hs:c.left.length ≤ 100000):eid_cursor_number c e = some (⟨rest c.left,c.ok && nmk c.left⟩,⟨e.Low,e.High,nmo c.left⟩):=by
 obtain ⟨h1,h2,h3,h4⟩:=number_pre hs
 refine W.eq ?_
 unfold eid_cursor_number
 refine W_eq h1 (W_eq h2 (W_eq h3 (W_eq h4 ?_)))
 have h5:=numR_snd (num (digs c.left))
 have h6:=numR_i64 (digs c.left)
 unfold nmk nmo
 rw [← h5]
 generalize numR (num (digs c.left)) = r at h6 ⊢
 obtain ⟨a,b⟩:=r
 cases c with | mk l o=>cases o <;> exact W_ret (by simp only [Bool.true_and,Bool.false_and]; rw [h6])
theorem number2_eq {c:Cursor} {e:EID} (hs:c.left.length ≤ 100000):eid_cursor_number_2 c e = some (⟨rest c.left,c.ok && nmk c.left⟩,⟨nmo c.left,e.High,e.Service⟩):=by
 obtain ⟨h1,h2,h3,h4⟩:=number_pre hs
 refine W.eq ?_
 unfold eid_cursor_number_2
 refine W_eq h1 (W_eq h2 (W_eq h3 (W_eq h4 ?_)))
 have h5:=numR_snd (num (digs c.left))
 have h6:=numR_i64 (digs c.left)
 unfold nmk nmo
 rw [← h5]
 generalize numR (num (digs c.left)) = r at h6 ⊢
 obtain ⟨a,b⟩:=r
 cases c with | mk l o=>cases o <;> exact W_ret (by simp only [Bool.true_and,Bool.false_and]; rw [h6])
theorem number3_eq {c:Cursor} {e:EID} (hs:c.left.length ≤ 100000):eid_cursor_number_3 c e = some (⟨rest c.left,c.ok && nmk c.left⟩,⟨e.Low,nmo c.left,e.Service⟩):=by
 obtain ⟨h1,h2,h3,h4⟩:=number_pre hs
 refine W.eq ?_
 unfold eid_cursor_number_3
 refine W_eq h1 (W_eq h2 (W_eq h3 (W_eq h4 ?_)))
 have h5:=numR_snd (num (digs c.left))
 have h6:=numR_i64 (digs c.left)
 unfold nmk nmo
 rw [← h5]
 generalize numR (num (digs c.left)) = r at h6 ⊢
 obtain ⟨a,b⟩:=r
 cases c with | mk l o=>cases o <;> exact W_ret (by simp only [Bool.true_and,Bool.false_and]; rw [h6])
open Classical in
noncomputable def finR:Option EID→EID × Int
 | none=>(⟨0,0,0⟩,3)
 | some e=>if OKE e then (e,0) else (⟨0,0,0⟩,2)
def finC (c:Cursor) (e:EID):Option EID:=if c.ok = true∧c.left = [] then some e else none
theorem fin_w (c:Cursor) (e:EID):W (br (!c.ok)
     (some ((⟨(0:Int),(0:Int),(0:Int)⟩:EID),(3:Int)))
     (br (!(c.left == ([]:List UInt8)))
      (some ((⟨(0:Int),(0:Int),(0:Int)⟩:EID),(3:Int)))
      ((eid_Check e).bind fun x_12 =>
      br (x_12 != (0:Int))
       (some ((⟨(0:Int),(0:Int),(0:Int)⟩:EID),x_12))
       (some (e,(0:Int)))))) fun r=>r = finR (finC c e):=by
 obtain ⟨l,o⟩:=c
 cases o with
 | false=>exact W_ret rfl
 | true =>
  refine W_brF ?_
  by_cases hl:l = []
  ·subst hl
   refine W_brF ?_
   refine W_call (check_w e) fun x hx=>?_
   have e1:finC ⟨[],true⟩ e = some e:=if_pos ⟨rfl,rfl⟩
   rw [e1]
   rcases hx with ⟨ho,rfl⟩ | ⟨ho,rfl⟩
   ·exact W_brF (W_ret (if_pos ho).symm)
   ·exact W_brT (W_ret (if_neg ho).symm)
  ·have hb:(l == ([]:List UInt8)) = false:=by simpa using hl
   show W (br (!(l == ([]:List UInt8))) _ _) _
   rw [hb]
   refine W_brT (W_ret ?_)
   have e1:finC ⟨l,true⟩ e = none:=if_neg (fun h=>hl h.2)
   rw [e1]
   rfl
def svcC (c:Cursor) (e:EID):Option EID :=
 if ([46,42]:List UInt8).isPrefixOf c.left then finC (skp c [46,42]) ⟨e.Low,e.High,-1⟩
 else if ([46]:List UInt8).isPrefixOf c.left then finC ⟨rest (skp c [46]).left,(skp c [46]).ok && nmk (skp c [46]).left⟩ ⟨e.Low,e.High,nmo (skp c [46]).left⟩
 else finC c e
theorem skp_len (c:Cursor) (p:List UInt8):(skp c p).left.length ≤ c.left.length:=by
 unfold skp; split
 ·simp
 ·exact Nat.le_refl _
theorem rest_len (s:List UInt8):(rest s).length ≤ s.length:=(List.dropWhile_suffix _).length_le
theorem svc_w {c:Cursor} {e:EID} (hs:c.left.length ≤ 100000):W ((eid_cursor_sees (c,([46,42]:List UInt8))).bind fun x_20 =>
   br x_20
    ((eid_cursor_skip (c,([46,42]:List UInt8))).bind fun x_21 =>
    br (!x_21.ok)
     (some ((⟨(0:Int),(0:Int),(0:Int)⟩:EID),(3:Int)))
     (br (!(x_21.left == ([]:List UInt8)))
      (some ((⟨(0:Int),(0:Int),(0:Int)⟩:EID),(3:Int)))
      ((eid_Check (⟨e.Low,e.High,(-1:Int)⟩:EID)).bind fun x_22 =>
      br (x_22 != (0:Int))
       (some ((⟨(0:Int),(0:Int),(0:Int)⟩:EID),x_22))
       (some ((⟨e.Low,e.High,(-1:Int)⟩:EID),(0:Int))))))
    ((eid_cursor_sees (c,([46]:List UInt8))).bind fun x_23 =>
    br x_23
     ((eid_cursor_skip (c,([46]:List UInt8))).bind fun x_24 =>
     (eid_cursor_number x_24 e).bind fun (x_25,x_26) =>
     br (!x_25.ok)
      (some ((⟨(0:Int),(0:Int),(0:Int)⟩:EID),(3:Int)))
      (br (!(x_25.left == ([]:List UInt8)))
       (some ((⟨(0:Int),(0:Int),(0:Int)⟩:EID),(3:Int)))
       ((eid_Check x_26).bind fun x_27 =>
       br (x_27 != (0:Int))
        (some ((⟨(0:Int),(0:Int),(0:Int)⟩:EID),x_27))
        (some (x_26,(0:Int))))))
     (br (!c.ok)
      (some ((⟨(0:Int),(0:Int),(0:Int)⟩:EID),(3:Int)))
      (br (!(c.left == ([]:List UInt8)))
       (some ((⟨(0:Int),(0:Int),(0:Int)⟩:EID),(3:Int)))
       ((eid_Check e).bind fun x_28 =>
       br (x_28 != (0:Int))
        (some ((⟨(0:Int),(0:Int),(0:Int)⟩:EID),x_28))
        (some (e,(0:Int)))))))) fun r=>r = finR (svcC c e):=by
 refine W_eq (sees_eq hs) ?_
 unfold svcC
 refine W_br (fun h=>?_) (fun h=>?_)
 ·rw [if_pos h]
  refine W_eq (skip_eq hs) ?_
  exact fin_w _ _
 ·rw [if_neg (by simp [h])]
  refine W_eq (sees_eq hs) ?_
  refine W_br (fun h=>?_) (fun h=>?_)
  ·rw [if_pos h]
   refine W_eq (skip_eq hs) ?_
   refine W_eq (number1_eq (Nat.le_trans (skp_len _ _) hs)) ?_
   exact fin_w _ _
  ·rw [if_neg (by simp [h])]
   exact fin_w _ _
def progC (c:Cursor):Option EID :=
 if ([42]:List UInt8).isPrefixOf c.left then svcC (skp c [42]) ⟨1,16,0⟩
 else if ([45]:List UInt8).isPrefixOf (rest c.left) then
  svcC ⟨rest (skp ⟨rest c.left,c.ok && nmk c.left⟩ [45]).left,(skp ⟨rest c.left,c.ok && nmk c.left⟩ [45]).ok && nmk (skp ⟨rest c.left,c.ok && nmk c.left⟩ [45]).left⟩ ⟨nmo c.left,nmo (skp ⟨rest c.left,c.ok && nmk c.left⟩ [45]).left,0⟩
 else svcC ⟨rest c.left,c.ok && nmk c.left⟩ ⟨nmo c.left,nmo c.left,0⟩
theorem parse_eq {s:List UInt8} (hs:s.length ≤ 100000):eid_Parse s = some (finR (progC (skp ⟨s,true⟩ [110]))):=by
 refine W.eq ?_
 unfold eid_Parse
 refine W_eq (skip_eq hs) ?_
 have h0:=skp_len ⟨s,true⟩ [110]
 generalize skp ⟨s,true⟩ [110] = c at h0 ⊢
 have hc:c.left.length ≤ 100000:=Nat.le_trans h0 hs
 refine W_eq (sees_eq hc) ?_
 unfold progC
 refine W_br (fun h=>?_) (fun h=>?_)
 ·rw [if_pos h]
  refine W_eq (skip_eq hc) ?_
  exact svc_w (e:=⟨1,16,0⟩) (Nat.le_trans (skp_len _ _) hc)
 ·rw [if_neg (by simp [h])]
  refine W_eq (number2_eq hc) ?_
  have hr:=Nat.le_trans (rest_len c.left) hc
  refine W_eq (sees_eq hr) ?_
  refine W_br (fun h=>?_) (fun h=>?_)
  ·rw [if_pos h]
   refine W_eq (skip_eq hr) ?_
   have hk:=skp_len ⟨rest c.left,c.ok && nmk c.left⟩ [45]
   generalize skp ⟨rest c.left,c.ok && nmk c.left⟩ [45] = d at hk ⊢
   have hd:d.left.length ≤ 100000:=Nat.le_trans hk hr
   refine W_eq (number3_eq hd) ?_
   exact svc_w (e:=⟨nmo c.left,nmo d.left,0⟩) (Nat.le_trans (rest_len _) hd)
  ·rw [if_neg (by simp [h])]
   exact svc_w (e:=⟨nmo c.left,nmo c.left,0⟩) hr
end Go.Proofs.YtjcbpfhlgebgdaaDoor
namespace Go.Proofs.YtjcbpfhlgebgdaaDoor
open Go Go.X Go.Eng
def cutL (b:UInt8):List UInt8→List UInt8 × List UInt8 × Bool
 | []=>([],[],false)
 | x :: s=>if x = b then ([],s,true) else (x :: (cutL b s).1,(cutL b s).2.1,(cutL b s).2.2)
theorem cut_w (b:UInt8) {s:List UInt8} (hs:s.length ≤ 100000):packhorseref05_cut (s,(b.toNat:Int)) = some (cutL b s):=by
 refine W.eq ?_
 unfold packhorseref05_cut
 dsimp only
 refine W_loop (fun i=>(0 ≤ i∧i ≤ (s.length:Int))∧cutL b s = (s.take i.toNat++(cutL b (s.drop i.toNat)).1,(cutL b (s.drop i.toNat)).2.1,(cutL b (s.drop i.toNat)).2.2)) (fun i=>s.length - i.toNat) ?_ ⟨⟨by omega,by omega⟩,rfl⟩
 rintro i ⟨⟨i1,i2⟩,i3⟩
 refine W_if (fun h1=>?_) (fun h1=>?_)
 ·have hi:i.toNat < s.length:=by omega
  have hx:s[i.toNat]? = some s[i.toNat]:=List.getElem?_eq_getElem _
  rw [List.drop_eq_getElem_cons hi] at i3
  generalize s[i.toNat] = x at hx i3
  refine W_eq (idxS_of i1 hx) ?_
  refine W_if (fun h2=>?_) (fun h2=>?_)
  ·have hxb:x = b:=UInt8.toNat_inj.1 (by omega)
   rw [hxb,show cutL b (b :: s.drop (i.toNat + 1)) = ([],s.drop (i.toNat + 1),true) from if_pos rfl] at i3
   have hs1:slc s (0:Int) i = some (s.take i.toNat):=by
    unfold slc; rw [if_pos ⟨by omega,by omega,by omega⟩]; rfl
   refine W_eq hs1 ?_
   refine W_op fun j hj=>?_
   have hs2:slc s j (s.length:Int) = some (s.drop (i.toNat + 1)):=by
    unfold slc; rw [if_pos ⟨by omega,by omega,by omega⟩,Int.toNat_natCast,List.take_length,show j.toNat = i.toNat + 1 by omega]
   refine W_eq hs2 ?_
   refine W_done (W_ret ?_)
   rw [i3]
   simp
  ·have hxb:x ≠ b:=fun e=>h2 (by rw [e])
   rw [show cutL b (x :: s.drop (i.toNat + 1)) = (x :: (cutL b (s.drop (i.toNat + 1))).1,(cutL b (s.drop (i.toNat + 1))).2.1,(cutL b (s.drop (i.toNat + 1))).2.2) from if_neg hxb] at i3
   refine W_op fun j hj=>?_
   refine W_next ⟨⟨⟨by omega,by omega⟩,?_⟩,by omega⟩
   rw [show j.toNat = i.toNat + 1 by omega,i3,List.take_add_one,hx]
   simp
 ·refine W_done (W_ret ?_)
  rw [show i.toNat = s.length by omega,List.drop_length,List.take_length] at i3
  rw [i3]
  simp [cutL]
theorem cutL_split (b:UInt8):∀ s:List UInt8,s = (cutL b s).1++(if (cutL b s).2.2 then b :: (cutL b s).2.1 else [])∧b ∉ (cutL b s).1∧((cutL b s).2.2 = false→(cutL b s).2.1 = [])
 | []=>by simp [cutL]
 | x :: s=>by
  by_cases h:x = b
  ·subst h; simp [cutL]
  ·obtain ⟨q1,q2,q3⟩:=cutL_split b s
   have e:cutL b (x :: s) = (x :: (cutL b s).1,(cutL b s).2.1,(cutL b s).2.2):=if_neg h
   rw [e]
   refine ⟨?_,?_,q3⟩
   ·show x :: s = x :: ((cutL b s).1++_)
    rw [← q1]
   ·simp only [List.mem_cons,not_or]
    exact ⟨fun e=>h e.symm,q2⟩
theorem cutL_app {b:UInt8} {p q:List UInt8} (h:b ∉ p):cutL b (p++b :: q) = (p,q,true):=by
 induction p with
 | nil=>exact if_pos rfl
 | cons x p ih =>
  simp only [List.mem_cons,not_or] at h
  rw [List.cons_append,show cutL b (x :: (p++b :: q)) = _ from if_neg (fun e=>h.1 e.symm),ih h.2]
theorem cutL_none {b:UInt8} {p:List UInt8} (h:b ∉ p):cutL b p = (p,[],false):=by
 induction p with
 | nil=>rfl
 | cons x p ih =>
  simp only [List.mem_cons,not_or] at h
  rw [show cutL b (x :: p) = _ from if_neg (fun e=>h.1 e.symm),ih h.2]
theorem cutL_mem {b x:UInt8} {p q:List UInt8} (h:b ∉ p) (hx:x ≠ b):x ∈ (cutL b (p++x :: q)).1:=by
 induction p with
 | nil=>rw [List.nil_append,show cutL b (x :: q) = _ from if_neg hx]; exact List.mem_cons_self
 | cons y p ih =>
  simp only [List.mem_cons,not_or] at h
  rw [List.cons_append,show cutL b (y :: (p++x :: q)) = _ from if_neg (fun e=>h.1 e.symm)]
  exact List.mem_cons_of_mem _ (ih h.2)
theorem cutL_len (b:UInt8) (s:List UInt8):(cutL b s).1.length ≤ s.length∧(cutL b s).2.1.length ≤ s.length:=by
 obtain ⟨q1,_,q3⟩:=cutL_split b s
 have:=congrArg List.length q1
 rw [List.length_append] at this
 cases h:(cutL b s).2.2 with
 | false=>rw [q3 h]; exact ⟨by omega,by simp⟩
 | true=>rw [h,if_pos rfl,List.length_cons] at this; omega
def lowhigh (f:Nat→Nat) (n:List UInt8):Option (Int × Int) :=
 if n = [42] then some (1,16) else (num (cutL 45 n).1).bind fun a=>if (cutL 45 n).2.2 then (num (cutL 45 n).2.1).map fun b=>(((f a:Nat):Int),((f b:Nat):Int)) else some (((f a:Nat):Int),((f a:Nat):Int))
def svR (f:Nat→Nat) (d:Bool) (q:List UInt8):Option Int:=if d then (if q = [42] then some (-1) else (num q).map fun a=>((f a:Nat):Int)) else some 0
def refT (f:Nat→Nat) (t:List UInt8):Option EID:=(lowhigh f (cutL 46 t).1).bind fun a=>(svR f (cutL 46 t).2.2 (cutL 46 t).2.1).map fun v=>⟨a.1,a.2,v⟩
def refP (f:Nat→Nat) (s:List UInt8):Option EID:=match s with
 | x :: t=>if x = 110 then refT f t else none
 | []=>none
theorem finR_clamp (s:List UInt8):finR (refP id s) = finR (refP (min · 1000) s):=by
 cases s with
 | nil=>rfl
 | cons x t =>
  unfold refP
  by_cases hx:x = 110
  ·simp only [if_pos hx]
   unfold refT
   have key:∀ (a b a' b' v v':Int),(OKE ⟨a,b,v⟩ ↔ OKE ⟨a',b',v'⟩)→(OKE ⟨a,b,v⟩→a = a'∧b = b'∧v = v')→finR (some ⟨a,b,v⟩) = finR (some ⟨a',b',v'⟩):=fun a b a' b' v v' h1 h2=>by
    unfold finR
    by_cases h:OKE ⟨a,b,v⟩
    ·obtain ⟨rfl,rfl,rfl⟩:=h2 h; rfl
    ·simp only [if_neg h,if_neg (fun k=>h (h1.2 k))]
   have oke:∀ a b v:Int,OKE ⟨a,b,v⟩ ↔ 1 ≤ a∧a ≤ b∧b ≤ 16∧-1 ≤ v∧v ≤ 999:=fun a b v=>⟨fun h=>⟨h.lo,h.lh,h.hi,h.s1,h.s2⟩,fun h=>⟨h.1,h.2.1,h.2.2.1,h.2.2.2.1,h.2.2.2.2⟩⟩
   have lh:∀ n,(lowhigh id n = none∧lowhigh (min · 1000) n = none) ∨ ∃ a b a' b':Int,lowhigh id n = some (a,b)∧lowhigh (min · 1000) n = some (a',b')∧(0 ≤ a∧a' = min a 1000)∧(0 ≤ b∧b' = min b 1000):=fun n=>by
    unfold lowhigh
    by_cases h:n = [42]
    ·simp only [if_pos h]; exact .inr ⟨1,16,1,16,rfl,rfl,by omega,by omega⟩
    ·simp only [if_neg h]
     cases num (cutL 45 n).1 with
     | none=>exact .inl ⟨rfl,rfl⟩
     | some a =>
      simp only [Option.bind_some]
      cases (cutL 45 n).2.2 with
      | false=>exact .inr ⟨_,_,_,_,rfl,rfl,⟨by simp,by simp; omega⟩,⟨by simp,by simp; omega⟩⟩
      | true =>
       simp only [if_true]
       cases num (cutL 45 n).2.1 with
       | none=>exact .inl ⟨rfl,rfl⟩
       | some b=>exact .inr ⟨_,_,_,_,rfl,rfl,⟨by simp,by simp; omega⟩,⟨by simp,by simp; omega⟩⟩
   have sv:∀ d q,(svR id d q = none∧svR (min · 1000) d q = none) ∨ ∃ v v':Int,svR id d q = some v∧svR (min · 1000) d q = some v'∧-1 ≤ v∧v' = min v 1000:=fun d q=>by
    unfold svR
    cases d with
    | false=>exact .inr ⟨0,0,rfl,rfl,by omega,by omega⟩
    | true =>
     simp only [if_true]
     by_cases h:q = [42]
     ·simp only [if_pos h]; exact .inr ⟨-1,-1,rfl,rfl,by omega,by omega⟩
     ·simp only [if_neg h]
      cases num q with
      | none=>exact .inl ⟨rfl,rfl⟩
      | some b=>exact .inr ⟨_,_,rfl,rfl,by simp only [id]; omega,by simp only [id]; omega⟩
   rcases lh (cutL 46 t).1 with ⟨h1,h2⟩ | ⟨a,b,a',b',h1,h2,h3,h4⟩
   ·rw [h1,h2]; rfl
   ·rw [h1,h2]
    simp only [Option.bind_some]
    rcases sv (cutL 46 t).2.2 (cutL 46 t).2.1 with ⟨k1,k2⟩ | ⟨v,v',k1,k2,k3,k4⟩
    ·rw [k1,k2]; rfl
    ·rw [k1,k2]
     simp only [Option.map_some]
     refine key _ _ _ _ _ _ ?_ ?_
     ·rw [oke,oke]; omega
     ·rw [oke]; omega
  ·simp only [if_neg hx]
theorem leafR (e:EID):W ((packhorseref05_Check e).bind fun x_14 =>
         br (x_14 != (0:Int))
          (some ((⟨(0:Int),(0:Int),(0:Int)⟩:EID),x_14))
          (some (e,(0:Int)))) fun r=>r = finR (some e):=by
 refine W_call (checkR_w e) fun x hx=>?_
 rcases hx with ⟨ho,rfl⟩ | ⟨ho,rfl⟩
 ·exact W_brF (W_ret (if_pos ho).symm)
 ·exact W_brT (W_ret (if_neg ho).symm)
theorem parseR_eq {s:List UInt8} (hs:s.length ≤ 100000):packhorseref05_Parse s = some (finR (refP (min · 1000) s)):=by
 refine W.eq ?_
 unfold packhorseref05_Parse
 cases s with
 | nil=>exact W_brT (W_ret rfl)
 | cons x t =>
 refine W_brF ?_
 refine W_eq (idxS_of (x:=x) (Int.le_refl 0) rfl) ?_
 refine W_brne (fun h=>W_ret ?_) (fun h=>?_)
 ·have:¬ x = 110:=fun e=>h (by rw [e]; rfl)
  unfold refP
  simp only [if_neg this]
  rfl
 have hx:x = 110:=UInt8.toNat_inj.1 (by show x.toNat = 110; omega)
 have ht:t.length ≤ 100000:=by simp at hs; omega
 have hsl:slc (x :: t) (1:Int) ((x :: t).length:Int) = some t:=by
  unfold slc
  rw [if_pos ⟨by omega,by simp; omega,by omega⟩,Int.toNat_natCast,List.take_length]
  rfl
 refine W_eq hsl ?_
 refine W_eq (cut_w 46 ht) ?_
 have hr:refP (min · 1000) (x :: t) = refT (min · 1000) t:=if_pos hx
 rw [hr]
 unfold refT
 have hcl:=cutL_len 46 t
 generalize cutL 46 t = nqd at hcl ⊢
 obtain ⟨n,q,d⟩:=nqd
 dsimp only at hcl ⊢
 have hq:=number5_w (s:=q) (by omega)
 by_cases hn:n = [42]
 ·subst hn
  show W (br false _ _) _
  refine W_brF ?_
  rw [show lowhigh (min · 1000) [42] = some (1,16) from if_pos rfl]
  simp only [Option.bind_some]
  cases d with
  | false=>exact leafR ⟨1,16,0⟩
  | true =>
   unfold svR
   by_cases hqs:q = [42]
   ·subst hqs; exact leafR ⟨1,16,-1⟩
   ·have hb:(q == ([42]:List UInt8)) = false:=by simpa using hqs
    simp only [if_true,if_neg hqs,hb]
    refine W_brT (W_brF (W_brT ?_))
    refine W_eq hq ?_
    cases num q with
    | none=>exact W_ret rfl
    | some v=>exact leafR ⟨1,16,((min v 1000:Nat):Int)⟩
 ·have hb:(n == ([42]:List UInt8)) = false:=by simpa using hn
  rw [hb]
  refine W_brT ?_
  refine W_eq (cut_w 45 (by omega)) ?_
  unfold lowhigh
  simp only [if_neg hn]
  have hcl2:=cutL_len 45 n
  generalize cutL 45 n = lhr at hcl2 ⊢
  obtain ⟨lo,hi,r⟩:=lhr
  dsimp only at hcl2 ⊢
  have hlo:=number5_w (s:=lo) (by omega)
  have hhi:=number5_w (s:=hi) (by omega)
  simp only [hlo,hhi,hq,Option.bind_some]
  unfold svR
  by_cases hqs:q = [42]
  ·subst hqs
   have hnq:num ([42]:List UInt8) = none:=rfl
   simp only [hnq]
   cases num lo with
   | none=>cases r <;> cases d <;> cases num hi <;> exact W_ret rfl
   | some a =>
    cases r with
    | false =>
     cases d with
     | false=>exact leafR ⟨((min a 1000:Nat):Int),((min a 1000:Nat):Int),0⟩
     | true=>exact leafR ⟨((min a 1000:Nat):Int),((min a 1000:Nat):Int),-1⟩
    | true =>
     cases num hi with
     | none=>cases d <;> exact W_ret rfl
     | some b =>
      cases d with
      | false=>exact leafR ⟨((min a 1000:Nat):Int),((min b 1000:Nat):Int),0⟩
      | true=>exact leafR ⟨((min a 1000:Nat):Int),((min b 1000:Nat):Int),-1⟩
  ·have hqb:(q == ([42]:List UInt8)) = false:=by simpa using hqs
   simp only [hqb,if_neg hqs]
   cases num lo with
   | none=>cases r <;> cases d <;> cases num hi <;> cases num q <;> exact W_ret rfl
   | some a =>
    cases r with
    | false =>
     cases d with
     | false=>exact leafR ⟨((min a 1000:Nat):Int),((min a 1000:Nat):Int),0⟩
     | true =>
      cases num q with
      | none=>exact W_ret rfl
      | some v=>exact leafR ⟨((min a 1000:Nat):Int),((min a 1000:Nat):Int),((min v 1000:Nat):Int)⟩
    | true =>
     cases num hi with
     | none=>cases d <;> cases num q <;> exact W_ret rfl
     | some b =>
      cases d with
      | false=>exact leafR ⟨((min a 1000:Nat):Int),((min b 1000:Nat):Int),0⟩
      | true =>
       cases num q with
       | none=>exact W_ret rfl
       | some v=>exact leafR ⟨((min a 1000:Nat):Int),((min b 1000:Nat):Int),((min v 1000:Nat):Int)⟩
end Go.Proofs.YtjcbpfhlgebgdaaDoor
namespace Go.Proofs.YtjcbpfhlgebgdaaDoor
open Go Go.X Go.Eng
theorem num_not {s:List UInt8} {c:UInt8} (h:c ∈ s) (hc:isD c = false):num s = none:=by
 cases hn:num s with
 | none=>rfl
 | some m =>
  have:=(isD_iff c).2 (num_dig hn c h)
  rw [hc] at this; cases this
theorem rest_nil {s:List UInt8} (h:rest s = []):digs s = s:=by
 have:=digs_rest s
 rw [h,List.append_nil] at this
 exact this
theorem rest_head {s:List UInt8} {c:UInt8} {r:List UInt8} (h:rest s = c :: r):isD c = false∧c ∈ s:=by
 have h1:=digs_rest s
 rw [h] at h1
 refine ⟨?_,by rw [← h1]; simp⟩
 have:=List.head?_dropWhile_not isD s
 unfold rest at h
 rw [h] at this
 simpa using this
theorem num_rest {s:List UInt8} (h:rest s ≠ []):num s = none:=by
 cases hr:rest s with
 | nil=>exact absurd hr h
 | cons c r=>exact num_not (rest_head hr).2 (rest_head hr).1
theorem digs_nd (s:List UInt8) {c:UInt8} (hc:isD c = false):c ∉ digs s:=fun h=>by
 have:isD c = true:=List.all_eq_true.1 List.all_takeWhile c h
 rw [hc] at this; cases this
def tl (q:List UInt8):Prop:=q = [] ∨ ∃ x r,q = x :: r∧isD x = false
theorem digs_app {a q:List UInt8} (h:tl q):digs (a++q) = digs a∧rest (a++q) = rest a++q:=by
 induction a with
 | nil =>
  rcases h with rfl | ⟨x,r,rfl,hx⟩
  ·exact ⟨rfl,rfl⟩
  ·unfold digs rest
   simp [List.takeWhile_cons,List.dropWhile_cons,hx]
 | cons y a ih =>
  unfold digs rest at ih ⊢
  cases hy:isD y with
  | false=>simp [List.takeWhile_cons,List.dropWhile_cons,hy]
  | true=>simp [List.takeWhile_cons,List.dropWhile_cons,hy]; exact ih
theorem finC_no {c:Cursor} {e:EID} (h:c.ok = false):finC c e = none:=if_neg (fun k=>by rw [h] at k; cases k.1)
theorem skp_no {c:Cursor} {p:List UInt8} (h:c.ok = false):(skp c p).ok = false:=by unfold skp; split <;> simp [h]
theorem svcC_no {c:Cursor} {e:EID} (h:c.ok = false):svcC c e = none:=by
 unfold svcC
 split
 ·exact finC_no (skp_no h)
 ·split
  ·exact finC_no (by show ((skp c [46]).ok && _) = false; rw [skp_no h]; rfl)
  ·exact finC_no h
theorem progC_no {c:Cursor} (h:c.ok = false):progC c = none:=by
 unfold progC
 have h1:(⟨rest c.left,c.ok && nmk c.left⟩:Cursor).ok = false:=by show (c.ok && _) = false; rw [h]; rfl
 split
 ·exact svcC_no (skp_no h)
 ·split
  ·exact svcC_no (by show ((skp ⟨rest c.left,c.ok && nmk c.left⟩ [45]).ok && _) = false; rw [skp_no h1]; rfl)
  ·exact svcC_no h1
def sfx (d:Bool) (q:List UInt8):List UInt8:=if d then 46 :: q else []
theorem sfx_tl (d:Bool) (q:List UInt8):tl (sfx d q):=by
 cases d with
 | false=>exact .inl rfl
 | true=>exact .inr ⟨46,q,rfl,rfl⟩
theorem nm_num {q:List UInt8} (h:rest q = []):(numR (num (digs q))).1 = (numR (num q)).1∧nmk q = (num q).isSome:=by
 unfold nmk; rw [rest_nil h]; exact ⟨rfl,rfl⟩
theorem svc_sfx (ok:Bool) (d:Bool) (q:List UInt8) (a b:Int) (hd:d = false→q = []):svcC ⟨sfx d q,ok⟩ ⟨a,b,0⟩ = if ok then (svR id d q).map fun v=>⟨a,b,v⟩ else none:=by
 cases ok with
 | false=>exact svcC_no rfl
 | true =>
 cases d with
 | false=>rfl
 | true =>
  unfold svcC svR
  simp only [if_true]
  show (if ([46,42]:List UInt8).isPrefixOf (46 :: q) = true then _ else _) = _
  cases q with
  | nil=>rfl
  | cons x q =>
   by_cases hx:x = 42
   ·subst hx
    rw [if_pos (by rfl)]
    cases q with
    | nil=>rfl
    | cons y q =>
     rw [if_neg (by simp),num_not (c:=42) (by simp) rfl]
     show finC ⟨y :: q,true⟩ _ = none
     exact if_neg (fun k=>by cases k.2)
   ·have h1:¬ ([46,42]:List UInt8).isPrefixOf (46 :: x :: q) = true:=by
     simp only [List.isPrefixOf,beq_self_eq_true,Bool.true_and,Bool.and_true,beq_iff_eq]
     exact fun e=>hx e.symm
    have h2:¬ (x :: q = [42]):=fun e=>by cases e; exact hx rfl
    rw [if_neg h1,if_neg h2]
    show (if ([46]:List UInt8).isPrefixOf (46 :: x :: q) = true then _ else _) = _
    rw [if_pos (by rfl)]
    have hsk:skp ⟨46 :: x :: q,true⟩ [46] = ⟨x :: q,true⟩:=if_pos (by rfl)
    show finC ⟨rest (skp ⟨46 :: x :: q,true⟩ [46]).left,(skp ⟨46 :: x :: q,true⟩ [46]).ok && nmk (skp ⟨46 :: x :: q,true⟩ [46]).left⟩ ⟨a,b,nmo (skp ⟨46 :: x :: q,true⟩ [46]).left⟩ = _
    rw [hsk]
    dsimp only
    by_cases hr:rest (x :: q) = []
    ·obtain ⟨e1,e2⟩:=nm_num hr
     unfold nmo finC
     rw [hr,e1,e2]
     cases num (x :: q) with
     | none=>rfl
     | some m=>rfl
    ·rw [num_rest hr]
     exact if_neg (fun k=>hr k.2)
theorem svc_other {ok:Bool} {y:UInt8} {r:List UInt8} {e:EID} (h:y ≠ 46):svcC ⟨y :: r,ok⟩ e = none:=by
 unfold svcC
 have h1:¬ ([46,42]:List UInt8).isPrefixOf (y :: r) = true:=by
  simp only [List.isPrefixOf,Bool.and_eq_true,beq_iff_eq]
  exact fun e=>h e.1.symm
 have h2:¬ ([46]:List UInt8).isPrefixOf (y :: r) = true:=by
  simp only [List.isPrefixOf,Bool.and_eq_true,beq_iff_eq]
  exact fun e=>h e.1.symm
 show (if ([46,42]:List UInt8).isPrefixOf (y :: r) = true then _ else _) = _
 rw [if_neg h1]
 show (if ([46]:List UInt8).isPrefixOf (y :: r) = true then _ else _) = _
 rw [if_neg h2]
 exact if_neg (fun k=>by cases k.2)
theorem prog_nodes (n:List UInt8) (d:Bool) (q:List UInt8) (hn:(46:UInt8) ∉ n) (hd:d = false→q = []) :
  progC ⟨n++sfx d q,true⟩ = (lowhigh id n).bind fun a=>(svR id d q).map fun v=>⟨a.1,a.2,v⟩:=by
 have htl:=sfx_tl d q
 have hS:=svc_sfx (hd:=hd)
 have hs0:∀ y r,sfx d q = y :: r→y = 46:=fun y r e=>by cases d <;> simp [sfx] at e; exact e.1.symm
 generalize sfx d q = S at htl hS hs0
 cases n with
 | nil =>
  have e1:lowhigh id [] = none:=rfl
  rw [e1]
  show progC ⟨S,true⟩ = none
  have h1:¬ ([42]:List UInt8).isPrefixOf S = true:=by
   cases S with
   | nil=>simp
   | cons y r =>
    simp only [List.isPrefixOf,Bool.and_eq_true,beq_iff_eq]
    intro e; have:=hs0 y r rfl; rw [this] at e; exact absurd e.1 (by decide)
  unfold progC
  have hdg:=digs_app (a:=[]) htl
  have hk:nmk S = false:=by unfold nmk; rw [show digs S = [] from hdg.1]; rfl
  have hr:rest S = S:=hdg.2
  dsimp only
  rw [if_neg h1,hk,hr]
  have h2:¬ ([45]:List UInt8).isPrefixOf S = true:=by
   cases S with
   | nil=>simp
   | cons y r =>
    simp only [List.isPrefixOf,Bool.and_eq_true,beq_iff_eq]
    intro e; have:=hs0 y r rfl; rw [this] at e; exact absurd e.1 (by decide)
  rw [if_neg h2]
  exact svcC_no rfl
 | cons x n =>
  simp only [List.mem_cons,not_or] at hn
  by_cases hx:x = 42
  ·subst hx
   unfold progC
   dsimp only
   rw [if_pos (by rfl)]
   have hsk:skp ⟨42 :: n++S,true⟩ [42] = ⟨n++S,true⟩:=if_pos (by rfl)
   rw [hsk]
   cases n with
   | nil =>
    rw [show lowhigh id [42] = some (1,16) from if_pos rfl]
    exact hS true 1 16
   | cons y n =>
    simp only [List.mem_cons,not_or] at hn
    have hlo:(42:UInt8) ∈ (cutL 45 (42 :: y :: n)).1:=cutL_mem (p:=[]) (by simp) (by decide)
    rw [show lowhigh id (42 :: y :: n) = none by unfold lowhigh; rw [if_neg (by simp),num_not hlo rfl]; rfl]
    exact svc_other (fun e=>hn.2.1 e.symm)
  ·have h1:¬ ([42]:List UInt8).isPrefixOf (x :: n++S) = true:=by
    simp only [List.cons_append,List.isPrefixOf,Bool.and_eq_true,beq_iff_eq]
    exact fun e=>hx e.1.symm
   have hne:¬ (x :: n = [42]):=fun e=>by cases e; exact hx rfl
   have hn46:(46:UInt8) ∉ x :: n:=by simp only [List.mem_cons,not_or]; exact hn
   clear hn
   generalize hN:x :: n = N at h1 hne hn46 ⊢
   obtain ⟨e1,e2⟩:=digs_app (a:=N) htl
   unfold progC
   dsimp only
   rw [if_neg h1,e2]
   have hnk:nmk (N++S) = (num (digs N)).isSome:=by unfold nmk; rw [e1]
   have hno:nmo (N++S) = (numR (num (digs N))).1:=by unfold nmo; rw [e1]
   rw [hnk,hno]
   unfold lowhigh
   rw [if_neg hne]
   cases hR:rest N with
   | nil =>
    have hdN:=rest_nil hR
    have h45:(45:UInt8) ∉ N:=by rw [← hdN]; exact digs_nd N rfl
    rw [cutL_none h45,hdN]
    have h2:¬ ([45]:List UInt8).isPrefixOf ([]++S) = true:=by
     cases S with
     | nil=>simp
     | cons y r =>
      simp only [List.nil_append,List.isPrefixOf,Bool.and_eq_true,beq_iff_eq]
      intro e; have:=hs0 y r rfl; rw [this] at e; exact absurd e.1 (by decide)
    rw [if_neg h2]
    cases num N with
    | none=>exact svcC_no rfl
    | some m=>exact hS true m m
   | cons y R =>
    obtain ⟨hy,hyN⟩:=rest_head hR
    have hsplit:=digs_rest N
    rw [hR] at hsplit
    by_cases hy45:y = 45
    ·subst hy45
     rw [if_pos (by rfl)]
     have hsk:∀ o,skp ⟨45 :: R++S,o⟩ [45] = ⟨R++S,o⟩:=fun o=>if_pos (by rfl)
     rw [hsk]
     dsimp only
     obtain ⟨f1,f2⟩:=digs_app (a:=R) htl
     have hnk2:nmk (R++S) = (num (digs R)).isSome:=by unfold nmk; rw [f1]
     have hno2:nmo (R++S) = (numR (num (digs R))).1:=by unfold nmo; rw [f1]
     rw [f2,hnk2,hno2]
     have hcut:cutL 45 N = (digs N,R,true):=by
      conv=>lhs; rw [← hsplit]
      exact cutL_app (digs_nd N rfl)
     rw [hcut]
     dsimp only
     cases hR2:rest R with
     | nil =>
      rw [rest_nil hR2]
      cases num (digs N) with
      | none=>exact svcC_no rfl
      | some m =>
       cases num R with
       | none=>exact svcC_no rfl
       | some k=>exact hS true m k
     | cons z R2 =>
      obtain ⟨hz,hzR⟩:=rest_head hR2
      have hz46:z ≠ 46:=fun e=>hn46 (by rw [← hsplit,← e]; simp [hzR])
      rw [num_rest (s:=R) (by rw [hR2]; simp)]
      rw [show (z :: R2++S) = z :: (R2++S) from rfl,svc_other hz46]
      cases num (digs N) <;> rfl
    ·have hz46:y ≠ 46:=fun e=>hn46 (by rw [← e]; exact hyN)
     have h2:¬ ([45]:List UInt8).isPrefixOf (y :: R++S) = true:=by
      simp only [List.cons_append,List.isPrefixOf,Bool.and_eq_true,beq_iff_eq]
      exact fun e=>hy45 e.1.symm
     rw [if_neg h2]
     have hmem:y ∈ (cutL 45 N).1:=by
      have:=cutL_mem (q:=R) (digs_nd N (c:=45) rfl) hy45
      rwa [hsplit] at this
     rw [num_not hmem hy,show (y :: R++S) = y :: (R++S) from rfl,svc_other hz46]
     rfl
theorem prog_ref (s:List UInt8):progC (skp ⟨s,true⟩ [110]) = refP id s:=by
 cases s with
 | nil=>exact progC_no rfl
 | cons x t =>
  by_cases hx:x = 110
  ·subst hx
   rw [show skp ⟨110 :: t,true⟩ [110] = ⟨t,true⟩ from if_pos (by rfl)]
   rw [show refP id (110 :: t) = refT id t by simp [refP]]
   obtain ⟨q1,q2,q3⟩:=cutL_split 46 t
   have hp:=prog_nodes (cutL 46 t).1 (cutL 46 t).2.2 (cutL 46 t).2.1 q2 q3
   have e:(cutL 46 t).1++sfx (cutL 46 t).2.2 (cutL 46 t).2.1 = t:=q1.symm
   rw [e] at hp
   exact hp
  ·have hs:skp ⟨x :: t,true⟩ [110] = ⟨x :: t,false⟩:=if_neg (by
    simp only [List.isPrefixOf,Bool.and_eq_true,beq_iff_eq]
    exact fun e=>hx e.1.symm)
   rw [hs,show refP id (x :: t) = none from if_neg hx]
   exact progC_no rfl
theorem parse_ref {s:List UInt8} (hs:s.length ≤ 100000):eid_Parse s = some (finR (refP id s))∧packhorseref05_Parse s = some (finR (refP id s)):=by
 refine ⟨?_,?_⟩
 ·rw [parse_eq hs,prog_ref]
 ·rw [parseR_eq hs,finR_clamp]
end Go.Proofs.YtjcbpfhlgebgdaaDoor
namespace Go.Proofs.YtjcbpfhlgebgdaaDoor
open Go Go.X Go.Eng Go.Seq
theorem pieces_cut (c:UInt8):∀ s:List UInt8,pieces c s = (cutL c s).1 :: (if (cutL c s).2.2 then pieces c (cutL c s).2.1 else [])
 | []=>rfl
 | x :: s=>by
  by_cases h:x = c
  ·rw [show pieces c (x :: s) = [] :: pieces c s from if_pos h,show cutL c (x :: s) = ([],s,true) from if_pos h]
   rfl
  ·rw [show cutL c (x :: s) = (x :: (cutL c s).1,(cutL c s).2.1,(cutL c s).2.2) from if_neg h,show pieces c (x :: s) = (match pieces c s with | p :: ps=>(x :: p) :: ps | []=>[[x]]) from if_neg h,pieces_cut c s]
noncomputable def listR:List (List UInt8)→List EID→Int→List EID × Fault
 | [],out,_=>(out,⟨0,0⟩)
 | p :: ps,out,at'=>if out.length = 20 then ([],⟨5,at'⟩) else if (finR (refP id p)).2 ≠ 0 then ([],⟨(finR (refP id p)).2,at'⟩) else listR ps (out++[(finR (refP id p)).1]) (at' + (p.length + 1))
def mkE (x:Int × Int × Int):EID:=⟨x.1,x.2.1,x.2.2⟩
theorem listF_eq:∀ (ps:List (List UInt8)) (o:List (Int × Int × Int)) (at':Int),(∀ p ∈ ps,p.length < 100000) →
  (listF parseF ps o at').map (fun r=>((r.1.map fun x=>(⟨x.1,x.2.1,x.2.2⟩:EID)),(⟨r.2.1,r.2.2⟩:Fault))) = some (listR ps (o.map mkE) at')
 | [],o,at',h=>rfl
 | p :: ps,o,at',h=>by
  have hp:=h p (by simp)
  have e:parseF p = some ((finR (refP id p)).1.Low,(finR (refP id p)).1.High,(finR (refP id p)).1.Service,(finR (refP id p)).2):=by
   unfold parseF
   rw [if_pos hp,(parse_ref (by omega)).1]
   rfl
  unfold listF listR
  rw [e]
  simp only [Option.bind_some,List.length_map]
  by_cases h20:o.length = 20
  ·rw [if_pos h20,if_pos h20]; rfl
  ·rw [if_neg h20,if_neg h20]
   by_cases he:(finR (refP id p)).2 ≠ 0
   ·rw [if_pos he,if_pos he]; rfl
   ·rw [if_neg he,if_neg he,listF_eq ps _ _ (fun q hq=>h q (by simp [hq]))]
    simp [mkE]
noncomputable def listV (s:List UInt8):List EID × Fault:=if s = [] then ([],⟨0,0⟩) else listR (pieces 44 s) [] 0
theorem list_eq {s:List UInt8} (hs:s.length < 100000):eid_List s = some (listV s):=by
 unfold eid_List listV
 rw [if_pos hs]
 by_cases h:s = []
 ·rw [if_pos h,if_pos h]
 ·rw [if_neg h,if_neg h]
  exact listF_eq _ _ _ (fun p hp=>Nat.lt_of_le_of_lt ((pieces_len 44 s).2.2 p hp) hs)
theorem listR_eq {s:List UInt8} (hs:s.length < 100000):packhorseref05_List s = some (listV s):=by
 refine W.eq ?_
 unfold packhorseref05_List
 refine W_loop (fun st=>(0 ≤ st.2.1∧st.1.length ≤ 20)∧(st.2.2.1 = true→st.2.1 ≤ (s.length:Int)∧listV s = listR (pieces 44 (s.drop st.2.1.toNat)) st.1 st.2.1)∧(st.2.2.1 = false→listV s = (st.1,⟨0,0⟩)))
  (fun st=>if st.2.2.1 then s.length + 1 - st.2.1.toNat else 0) ?_ ?_
 ·rintro ⟨out,at',more,f⟩ ⟨⟨i1,i2⟩,i3,i4⟩
  dsimp only at i1 i2 i3 i4 ⊢
  cases more with
  | false =>
   refine W_brF (W_done (W_ret ?_))
   exact (i4 rfl).symm
  | true =>
   obtain ⟨i5,i6⟩:=i3 rfl
   refine W_brT ?_
   rw [pieces_cut] at i6
   unfold listR at i6
   refine W_breq (fun h=>W_done (W_ret ?_)) (fun h=>?_)
   ·rw [i6,if_pos (by omega)]
   rw [if_neg (by omega)] at i6
   have hsl:slc s at' (s.length:Int) = some (s.drop at'.toNat):=by
    unfold slc
    rw [if_pos ⟨by omega,by omega,by omega⟩,Int.toNat_natCast,List.take_length]
   refine W_eq hsl ?_
   have hdl:(s.drop at'.toNat).length = s.length - at'.toNat:=List.length_drop
   refine W_eq (cut_w 44 (by omega)) ?_
   obtain ⟨q1,q2,q3⟩:=cutL_split 44 (s.drop at'.toNat)
   generalize cutL 44 (s.drop at'.toNat) = pqd at i6 q1 q2 q3 ⊢
   obtain ⟨p,q,d⟩:=pqd
   dsimp only at i6 q1 q2 q3 ⊢
   have hl:=congrArg List.length q1
   rw [List.length_append] at hl
   have hpl:p.length ≤ s.length:=by omega
   refine W_eq (parse_ref (by omega)).2 ?_
   generalize finR (refP id p) = r at i6 ⊢
   obtain ⟨e,err⟩:=r
   dsimp only at i6 ⊢
   refine W_brne (fun h2=>W_done (W_ret ?_)) (fun h2=>?_)
   ·rw [i6,if_pos h2]
   rw [if_neg (by omega)] at i6
   refine W_app (by simp; omega) ?_
   refine W_op fun a ha=>?_
   refine W_op fun b hb=>?_
   have hbb:b = at' + ((p.length:Int) + 1):=by omega
   refine W_next ⟨⟨⟨by show (0:Int) ≤ b; omega,by simp; omega⟩,?_,?_⟩,?_⟩
   ·intro hd
    dsimp only at hd ⊢
    subst hd
    rw [if_pos rfl] at q1 i6 hl
    rw [List.length_cons] at hl
    refine ⟨by omega,?_⟩
    have:s.drop b.toNat = q:=by
     rw [show b.toNat = at'.toNat + (p.length + 1) by omega,← List.drop_drop,q1]
     simp
    rw [this,i6,hbb]
   ·intro hd
    dsimp only at hd ⊢
    subst hd
    rw [i6]
    rfl
   ·dsimp only
    cases d with
    | false=>simp; omega
    | true=>rw [if_pos rfl,List.length_cons] at hl; simp; omega
 ·refine ⟨⟨by simp,by simp⟩,fun h=>⟨by simp,?_⟩,fun h=>?_⟩
  ·have:¬ s = []:=by simpa using h
   unfold listV
   rw [if_neg this]
   rfl
  ·have:s = []:=by simpa using h
   unfold listV
   rw [if_pos this]
theorem listR_len:∀ (ps:List (List UInt8)) (o:List EID) (at':Int),o.length ≤ 20→(listR ps o at').1.length ≤ 20
 | [],o,at',h=>h
 | p :: ps,o,at',h=>by
  unfold listR
  split
  ·simp
  ·split
   ·simp
   ·exact listR_len ps _ _ (by simp; omega)
theorem listV_len (s:List UInt8):(listV s).1.length ≤ 20:=by
 unfold listV
 split
 ·simp
 ·exact listR_len _ _ _ (by simp)
theorem text_both (e:EID):∃ r,eid_Text e = some r∧packhorseref05_Text e = some r:=by
 by_cases h:OKE e
 ·exact ⟨_,text_w h,textR_w h⟩
 ·refine ⟨([],2),W.eq ?_,W.eq ?_⟩
  ·unfold eid_Text
   refine W_call (check_w e) fun x hx=>?_
   rcases hx with ⟨ho,_⟩ | ⟨_,rfl⟩
   ·exact absurd ho h
   ·exact W_brT (W_ret rfl)
  ·unfold packhorseref05_Text
   refine W_call (checkR_w e) fun x hx=>?_
   rcases hx with ⟨ho,_⟩ | ⟨_,rfl⟩
   ·exact absurd ho h
   ·exact W_brT (W_ret rfl)
theorem texts_w (e:EID) (s l:List UInt8):packhorselaw05_EidTexts (e,s,l) = some true:=by
 refine W.eq ?_
 unfold packhorselaw05_EidTexts
 refine W_brd (fun _=>W_eq awake_w (W_ret rfl)) fun h1=>?_
 refine W_brd (fun _=>W_eq awake_w (W_ret rfl)) fun h2=>?_
 refine W_call (check_w e) fun x hx=>?_
 refine W_call (checkR_w e) fun y hy=>?_
 refine W_brne (fun h=>?_) fun h=>?_
 ·exact absurd (by rcases hx with ⟨o,q⟩ | ⟨o,q⟩ <;> rcases hy with ⟨o',q'⟩ | ⟨o',q'⟩ <;> first | omega | exact absurd o o' | exact absurd o' o) h
 obtain ⟨⟨t1,t2⟩,ht1,ht2⟩:=text_both e
 obtain ⟨⟨p1,p2⟩,hp1,hp2⟩:∃ r,eid_Parse s = some r∧packhorseref05_Parse s = some r:=⟨_,(parse_ref (by omega)).1,(parse_ref (by omega)).2⟩
 obtain ⟨⟨r1,r2⟩,hl1,hl2,hl⟩:∃ r,eid_List l = some r∧packhorseref05_List l = some r∧r.1.length ≤ 20:=⟨_,list_eq (by omega),listR_eq (by omega),listV_len l⟩
 refine W_eq ht1 (W_eq ht2 (W_eq hp1 (W_eq hp2 (W_eq hl1 (W_eq hl2 ?_)))))
 dsimp only at hl ⊢
 rw [show (t1 == t1) = true by simp,show (t2 == t2) = true by simp,show (p1.Low == p1.Low && (p1.High == p1.High && p1.Service == p1.Service)) = true by simp,show (p2 == p2) = true by simp]
 refine W_brT (W_brT (W_brT (W_brT ?_)))
 refine W_eq (same_w rfl (Nat.le_trans hl (by decide))) ?_
 rw [show (r2.Err == r2.Err && r2.At == r2.At) = true by simp]
 refine W_brT (W_brT ?_)
 exact W_eq awake_w (W_ret rfl)
end Go.Proofs.YtjcbpfhlgebgdaaDoor
