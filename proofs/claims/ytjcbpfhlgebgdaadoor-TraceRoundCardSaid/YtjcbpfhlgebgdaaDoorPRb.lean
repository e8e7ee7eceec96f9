import Derived.Test.YtjcbpfhlgebgdaaDoorXL
import Derived.Test.YtjcbpfhlgebgdaaDoorP6r
import Derived.Test.YtjcbpfhlgebgdaaDoorXTx
import Derived.Test.YtjcbpfhlgebgdaaDoorP22v
set_option linter.unusedSimpArgs false
set_option linter.unusedVariables false
namespace Go.Proofs.YtjcbpfhlgebgdaaDoor
open Go.X Go.Eng
def flags (k:Nat):Int:=(if k ≤ 10∧k ≠ 5 then 1 else 0) + (if k = 6 ∨ k = 7 ∨ k = 10 ∨ k = 11 ∨ k = 12 ∨ k = 13 then 2 else 0) + (if k = 12 then 4 else 0)
set_option maxRecDepth 100000 in
theorem face_all:∀ k ∈ [1,2,3,4,5,6,7,8,9,10,11,12,13,14,15],tbl1 .i64 0 (0 + k * 2 + 1) = some (flags k):=by
 intro k hk
 simp only [List.mem_cons,List.not_mem_nil,or_false] at hk
 rcases hk with rfl | rfl | rfl | rfl | rfl | rfl | rfl | rfl | rfl | rfl | rfl | rfl | rfl | rfl | rfl <;> kernel_rfl
theorem face_w {k:Int} (h1:1 ≤ k) (h2:k ≤ 15):tbl1 .i64 0 (0 + k.toNat * 2 + 1) = some (flags k.toNat):=by
 refine face_all k.toNat ?_
 simp only [List.mem_cons,List.not_mem_nil,or_false]
 omega
theorem bits_all:∀ k ∈ [1,2,3,4,5,6,7,8,9,10,11,12,13,14,15],(bitI .and .i64 (flags k) 1 != (0:Int)) = decide (k ≤ 10∧k ≠ 5)∧(bitI .and .i64 (flags k) 2 != (0:Int)) = decide (k = 6 ∨ k = 7 ∨ k = 10 ∨ k = 11 ∨ k = 12 ∨ k = 13)∧(bitI .and .i64 (flags k) 4 != (0:Int)) = decide (k = 12):=by
 decide +kernel
def okKind (k:Int):Prop:=1 ≤ k∧k ≤ 15
def okOther (o:Outc):Prop:=((o.Kind = 6 ∨ o.Kind = 7 ∨ o.Kind = 10 ∨ o.Kind = 11 ∨ o.Kind = 12 ∨ o.Kind = 13)∧((1 ≤ o.Other∧o.Other ≤ 16∧o.Other ≠ o.Node) ∨ (o.Kind = 12∧o.Other = 0))) ∨
 (¬ (o.Kind = 6 ∨ o.Kind = 7 ∨ o.Kind = 10 ∨ o.Kind = 11 ∨ o.Kind = 12 ∨ o.Kind = 13)∧o.Other = 0)
def okName (o:Outc):Prop:=((o.Kind ≤ 10∧o.Kind ≠ 5)∧okID o.ID) ∨ (¬ (o.Kind ≤ 10∧o.Kind ≠ 5)∧o.ID.Node = 0∧o.ID.Seq = 0∧o.ID.Off = 0)
def OKO (o:Outc):Prop:=okKind o.Kind∧(0 ≤ o.Tick∧o.Tick ≤ 1099511627776∧1 ≤ o.Node∧o.Node ≤ 16)∧okName o∧okOther o
def ONE (o:Outc) (r:Int):Prop:=(r = 7∧¬ okKind o.Kind) ∨ (r = 2∧okKind o.Kind∧¬ OKO o) ∨ (r = 0∧OKO o)
theorem ONE.det {o:Outc} {r r':Int} (h:ONE o r) (h':ONE o r'):r = r':=by
 rcases h with ⟨rfl,a⟩ | ⟨rfl,a,b⟩ | ⟨rfl,a⟩ <;> rcases h' with ⟨rfl,c⟩ | ⟨rfl,c,d⟩ | ⟨rfl,c⟩ <;> first | rfl | exact absurd c a | exact absurd a c | exact absurd c b | exact absurd a d | exact absurd c.1 a | exact absurd a.1 c
set_option maxHeartbeats 4000000 in
theorem one_s (o:Outc):W (trace_one o) (ONE o):=by
 unfold trace_one
 refine W_if (fun h=>W_ret (.inl ⟨rfl,fun k=>by unfold okKind at k; omega⟩)) fun k1=>?_
 refine W_if (fun h=>W_ret (.inl ⟨rfl,fun k=>by unfold okKind at k; omega⟩)) fun k2=>?_
 have hk:okKind o.Kind:=by unfold okKind; omega
 refine W_brin (by omega) (by omega) ?_
 refine W_eq (face_w (by omega) (by omega)) ?_
 obtain ⟨b1,b2,b3⟩:=bits_all o.Kind.toNat (by simp only [List.mem_cons,List.not_mem_nil,or_false]; omega)
 rw [b1,b2,b3]
 clear b1 b2 b3
 refine W_brd (fun hu=>?_) (fun hu=>?_)
 ·refine W_call (checkID_s o.ID) fun r hr=>?_
  have hr':(r = 0∧okID o.ID) ∨ (r = 2∧¬ okID o.ID):=hr
  have hname:r = 0→okName o:=fun h=>by
   rcases hr with ⟨_,q⟩ | ⟨q,_⟩
   ·exact .inl ⟨by omega,q⟩
   ·omega
  have hbad:¬ r = 0→OKO o→False:=fun h q=>by
   rcases hr with ⟨q1,_⟩ | ⟨_,q1⟩
   ·exact h q1
   ·rcases q.2.2.1 with ⟨_,q2⟩ | ⟨q2,_⟩
    ·exact q1 q2
    ·omega
  have hr2:r = 0 ∨ r = 2:=by omega
  clear hr hr'
  refine W_brd (fun hp=>?_) (fun hp=>?_) <;> (repeat' (first | (refine W_brnot ?_) | refine W_if ?_ ?_ <;> intro _))
  all_goals first
   | exact W_ret (.inr (.inr ⟨rfl,hk,by omega,hname (by omega),by unfold okOther; omega⟩))
   | exact W_ret (.inr (.inl ⟨rfl,hk,fun h=>by
     obtain ⟨_,h1,h2,h3⟩:=h
     unfold okOther at h3
     omega⟩))
   | exact W_ret (.inr (.inl ⟨rfl,hk,fun h=>hbad (by omega) h⟩))
 ·have hname:(o.ID.Node = 0∧o.ID.Seq = 0∧o.ID.Off = 0)→okName o:=fun h=>.inr ⟨by omega,h⟩
  have hbad:¬ (o.ID.Node = 0∧o.ID.Seq = 0∧o.ID.Off = 0)→OKO o→False:=fun h q=>by
   rcases q.2.2.1 with ⟨q2,_⟩ | ⟨_,q2⟩
   ·omega
   ·exact h q2
  refine W_brd (fun hp=>?_) (fun hp=>?_) <;> (repeat' (first | (refine W_brnot ?_) | refine W_if ?_ ?_ <;> intro _))
  all_goals first
   | exact W_ret (.inr (.inr ⟨rfl,hk,by omega,hname (by omega),by unfold okOther; omega⟩))
   | exact W_ret (.inr (.inl ⟨rfl,hk,fun h=>by
     obtain ⟨_,h1,h2,h3⟩:=h
     unfold okOther at h3
     omega⟩))
   | exact W_ret (.inr (.inl ⟨rfl,hk,fun h=>hbad (by omega) h⟩))
structure OkT (l:List Outc):Prop where
 one:∀ o ∈ l,OKO o
 asc:∀ (i:Nat) x y,l[i]? = some x→l[i + 1]? = some y→x.Tick ≤ y.Tick
def BadT (l:List Outc) (i:Nat) (e:Int):Prop:=∃ x,l[i]? = some x∧OkT (l.take i) ∧
 ((e ≠ 0∧ONE x e∧¬ OKO x) ∨ (e = 19∧OKO x∧∃ y,0 < i∧l[i - 1]? = some y∧x.Tick < y.Tick))
def CT (l:List Outc) (r:Int × Int):Prop :=
 (5000 < l.length∧r = (5,0)) ∨ (l.length ≤ 5000∧OkT l∧r = (0,0)) ∨ (l.length ≤ 5000∧∃ i:Nat,r.2 = i∧BadT l i r.1)
theorem okT_snoc {l:List Outc} {i:Nat} {x:Outc} (hx:l[i]? = some x):OkT (l.take (i + 1)) ↔ OkT (l.take i)∧OKO x∧∀ y,0 < i→l[i - 1]? = some y→y.Tick ≤ x.Tick:=by
 have e:l.take (i + 1) = l.take i++[x]:=by rw [List.take_add_one,hx]; rfl
 have hil:=(List.getElem?_eq_some_iff.1 hx).1
 constructor
 ·rintro ⟨h1,h2⟩
  refine ⟨⟨fun o ho=>h1 o (by rw [e]; simp [ho]),fun j a b ha hb=>?_⟩,h1 x (by rw [e]; simp),fun y hi hy=>?_⟩
  ·rw [List.getElem?_take] at ha hb
   split at hb
   ·refine h2 j a b ?_ ?_
    ·rw [List.getElem?_take,if_pos (by omega)]; split at ha <;> first | exact ha | cases ha
    ·rw [List.getElem?_take,if_pos (by omega)]; exact hb
   ·cases hb
  ·refine h2 (i - 1) y x ?_ ?_
   ·rw [List.getElem?_take,if_pos (by omega)]; exact hy
   ·rw [show i - 1 + 1 = i from by omega,List.getElem?_take,if_pos (by omega)]; exact hx
 ·rintro ⟨⟨h1,h2⟩,h3,h4⟩
  refine ⟨fun o ho=>?_,fun j a b ha hb=>?_⟩
  ·rw [e] at ho
   rcases List.mem_append.1 ho with ho | ho
   ·exact h1 o ho
   ·simp at ho; subst ho; exact h3
  ·rw [List.getElem?_take] at ha hb
   split at hb
   case isFalse=>cases hb
   rename_i hj
   rw [if_pos (by omega)] at ha
   by_cases hji:j + 1 = i
   ·subst hji
    rw [hx] at hb; cases hb
    exact h4 a (by omega) ha
   ·refine h2 j a b ?_ ?_
    ·rw [List.getElem?_take,if_pos (by omega)]; exact ha
    ·rw [List.getElem?_take,if_pos (by omega)]; exact hb
theorem OkT.take {l:List Outc} (h:OkT l) (i:Nat):OkT (l.take i):=by
 refine ⟨fun o ho=>h.one o (List.mem_of_mem_take ho),fun j a b ha hb=>?_⟩
 rw [List.getElem?_take] at ha hb
 split at hb
 ·rw [if_pos (by omega)] at ha
  exact h.asc j a b ha hb
 ·cases hb
theorem BadT.no {l:List Outc} {i:Nat} {e:Int} (h:BadT l i e) {k:Nat} (hk:i < k):¬ OkT (l.take k):=by
 obtain ⟨x,hx,_,h⟩:=h
 intro hv
 have hv':=hv.take (i + 1)
 rw [List.take_take,Nat.min_eq_left (by omega)] at hv'
 obtain ⟨h1,h2,h3⟩:=(okT_snoc hx).1 hv'
 rcases h with ⟨_,_,h⟩ | ⟨_,_,y,h,hy,hc⟩
 ·exact h h2
 ·have:=h3 y h hy; omega
theorem CT.det {l:List Outc} {r r':Int × Int} (h:CT l r) (h':CT l r'):r = r':=by
 have bad:∀ {i:Nat} {e:Int},BadT l i e→¬ OkT l:=fun {i e} hb hv=>by
  obtain ⟨x,hx,_⟩:=id hb
  have hil:=(List.getElem?_eq_some_iff.1 hx).1
  exact hb.no (k:=l.length) hil (by rw [List.take_length]; exact hv)
 rcases h with ⟨h1,rfl⟩ | ⟨h1,h2,rfl⟩ | ⟨h1,i,hi,hb⟩ <;> rcases h' with ⟨k1,rfl⟩ | ⟨k1,k2,rfl⟩ | ⟨k1,j,hj,kb⟩
 ·rfl
 ·omega
 ·omega
 ·omega
 ·rfl
 ·exact absurd h2 (bad kb)
 ·omega
 ·exact absurd k2 (bad hb)
 ·have hij:i = j:=by
   rcases Nat.lt_trichotomy i j with q | q | q
   ·obtain ⟨x,_,hv,_⟩:=id kb; exact absurd hv (hb.no q)
   ·exact q
   ·obtain ⟨x,_,hv,_⟩:=id hb; exact absurd hv (kb.no q)
  subst hij
  obtain ⟨x,hx,_,h⟩:=hb
  obtain ⟨x',hx',_,k⟩:=kb
  rw [hx] at hx'; cases hx'
  have he:r.1 = r'.1:=by
   rcases h with ⟨a1,a2,a3⟩ | ⟨a1,a2,_⟩ <;> rcases k with ⟨b1,b2,b3⟩ | ⟨b1,b2,_⟩
   ·exact a2.det b2
   ·exact absurd b2 a3
   ·exact absurd a2 b3
   ·omega
  exact Prod.ext he (hi.trans hj.symm)
theorem CT.ok {l:List Outc} {n:Int} (h:CT l (0,n)):l.length ≤ 5000∧OkT l:=by
 rcases h with ⟨_,h⟩ | ⟨h1,h2,_⟩ | ⟨h1,i,hi,x,hx,hv,h⟩
 ·cases h
 ·exact ⟨h1,h2⟩
 ·dsimp only at h
  rcases h with ⟨h,_⟩ | ⟨h,_⟩
  ·exact absurd rfl h
  ·cases h
theorem ONE.ne {x:Outc} {r:Int} (h:ONE x r) (hr:r ≠ 0):¬ OKO x:=by
 rcases h with ⟨_,h⟩ | ⟨_,_,h⟩ | ⟨h,_⟩
 ·exact fun q=>h q.1
 ·exact h
 ·exact absurd h hr
theorem ONE.eq {x:Outc} (h:ONE x 0):OKO x:=by
 rcases h with ⟨h,_⟩ | ⟨h,_,_⟩ | ⟨_,h⟩
 ·cases h
 ·cases h
 ·exact h
theorem check_s (l:List Outc):W (trace_Check l) (CT l):=by
 unfold trace_Check
 refine W_if (fun h=>W_ret (.inl ⟨by omega,rfl⟩)) fun hlen=>?_
 have hlen':l.length ≤ 5000:=by omega
 refine W_loop (fun i:Int=>0 ≤ i∧i ≤ (l.length:Int)∧OkT (l.take i.toNat)) (fun i=>l.length - i.toNat) ?_ ⟨by omega,by omega,⟨by simp,by simp⟩⟩
 rintro i ⟨i1,i2,i3⟩
 refine W_if (fun hi=>?_) fun hi=>?_
 rotate_left
 ·refine W_done (W_ret (.inr (.inl ⟨hlen',?_,rfl⟩)))
  rwa [List.take_of_length_le (by omega)] at i3
 refine W_idx (by omega) (by omega) fun x hx=>?_
 refine W_call (one_s x) fun e he=>?_
 refine W_if (fun h=>W_done (W_ret (.inr (.inr ⟨hlen',i.toNat,by dsimp only; omega,x,hx,i3,.inl ⟨h,he,he.ne h⟩⟩)))) fun h=>?_
 have h0:e = 0:=Classical.byContradiction fun q=>h q
 subst h0
 have hok:=he.eq
 refine W_if (fun h0=>?_) fun h0=>?_
 ·refine W_op fun k hk=>?_
  refine W_idx (by omega) (by omega) fun y hy=>?_
  have hy':l[i.toNat - 1]? = some y:=by rw [← hy]; congr 1; omega
  refine W_if (fun hlt=>W_done (W_ret (.inr (.inr ⟨hlen',i.toNat,by dsimp only; omega,x,hx,i3,.inr ⟨rfl,hok,y,by omega,hy',hlt⟩⟩)))) fun hlt=>?_
  refine W_op fun j hj=>W_next ⟨⟨by omega,by omega,?_⟩,by omega⟩
  rw [show j.toNat = i.toNat + 1 from by omega]
  exact (okT_snoc hx).2 ⟨i3,hok,fun z _ hz=>by rw [hy'] at hz; cases hz; omega⟩
 ·refine W_op fun j hj=>W_next ⟨⟨by omega,by omega,?_⟩,by omega⟩
  rw [show j.toNat = i.toNat + 1 from by omega]
  exact (okT_snoc hx).2 ⟨i3,hok,fun z hz _=>by omega⟩
open Go Go.Eng Go.RowKit Go.X Go.Seq
theorem cat_s {s t:List UInt8} (h:s.length + t.length ≤ 100000):catS s t = some (s++t):=by
 unfold catS
 rw [if_pos (Nat.le_trans h (by decide))]
theorem dec_len:∀ (k:Nat) (n:Int),0 ≤ n→n < 10 ^ (k + 1)→(dec n).length ≤ k + 1
 | 0,n,h0,h1=>by
  unfold dec
  rw [Go.Lib.decDigits,dif_pos (by omega)]
  simp
 | k + 1,n,h0,h1=>by
  unfold dec
  by_cases h:n.toNat < 10
  ·rw [Go.Lib.decDigits,dif_pos h]; simp
  ·rw [Go.Lib.decDigits,dif_neg h]
   have e:n.toNat / 10 = (n / 10).toNat:=by omega
   have:=dec_len k (n / 10) (by omega) (by rw [Int.pow_succ] at h1; omega)
   unfold dec at this
   rw [e,List.length_append]
   simp; omega
theorem dec_len20 {n:Int} (h0:0 ≤ n) (h1:n ≤ 9223372036854775807):(dec n).length ≤ 20:=dec_len 19 n h0 (by omega)
theorem itoa_dec {n:Int} (h0:0 ≤ n) (h1:n ≤ 9223372036854775807):strconv_Itoa n = some (dec n):=by
 unfold strconv_Itoa itoaX
 rw [if_pos ⟨by omega,h1⟩]
 unfold Go.Lib.itoa dec
 rw [if_neg (by omega)]
theorem fu_dec {n:Int} (h0:0 ≤ n) (h1:n < 18446744073709551616):strconv_FormatUint (n,10) = some (dec n):=by
 unfold strconv_FormatUint dec
 dsimp only
 rw [if_pos ⟨h0,h1,rfl⟩]
def keyT (d:ID):List UInt8:=dec d.Node++[46]++dec d.Seq++[46]++dec d.Off
theorem keyT_len {d:ID} (h:okID d) (hs:0 ≤ d.Seq):(keyT d).length ≤ 62:=by
 unfold okID at h
 have h1:=dec_len20 (n:=d.Node) (by omega) (by omega)
 have h2:=dec_len20 (n:=d.Seq) hs (by omega)
 have h3:=dec_len20 (n:=d.Off) (by omega) (by omega)
 unfold keyT
 simp only [List.length_append,List.length_cons,List.length_nil]
 omega
theorem key_w {d:ID} (h:okID d) (hs:0 ≤ d.Seq):bundle_Key d = some (keyT d,0):=by
 have hc:bundle_CheckID d = some 0:=by
  obtain ⟨r,e,⟨rfl,_⟩ | ⟨_,hn⟩⟩:=checkID_s d
  ·exact e
  ·exact absurd h hn
 have ho:okID d:=h
 unfold okID at h
 have h1:=dec_len20 (n:=d.Node) (by omega) (by omega)
 have h2:=dec_len20 (n:=d.Seq) hs (by omega)
 have h3:=dec_len20 (n:=d.Off) (by omega) (by omega)
 unfold bundle_Key
 rw [hc]
 simp only [Option.bind_some]
 rw [show ((0:Int) != 0) = false from rfl]
 show (strconv_Itoa d.Node).bind _ = _
 rw [itoa_dec (by omega) (by omega)]
 simp only [Option.bind_some]
 rw [cat_s (by simp; omega)]
 simp only [Option.bind_some]
 rw [fu_dec hs (by omega)]
 simp only [Option.bind_some]
 rw [cat_s (by simp; omega)]
 simp only [Option.bind_some]
 rw [cat_s (by simp; omega)]
 simp only [Option.bind_some]
 rw [itoa_dec (by omega) (by omega)]
 simp only [Option.bind_some]
 rw [cat_s (by simp; omega)]
 rfl
def kws:List (List UInt8):=[([]:List UInt8),([97,99,99,101,112,116,101,100]:List UInt8),([114,97,116,101,45,108,105,109,105,116,101,100]:List UInt8),([102,111,114,101,99,97,115,116,45,102,117,108,108]:List UInt8),([116,111,111,45,108,97,114,103,101]:List UInt8),([109,97,108,102,111,114,109,101,100]:List UInt8),([116,111,111,107]:List UInt8),([104,97,110,100,101,100]:List UInt8),([100,101,108,105,118,101,114,101,100]:List UInt8),([101,120,112,105,114,101,100]:List UInt8),([114,101,102,117,115,101,100]:List UInt8),([115,116,97,108,101]:List UInt8),([103,97,114,98,108,101,100]:List UInt8),([111,118,101,114,114,117,110]:List UInt8),([99,114,97,115,104,101,100]:List UInt8),([114,101,115,116,97,114,116,101,100]:List UInt8)]
noncomputable def kw (k:Int):List UInt8:=kws.getD k.toNat []
set_option maxRecDepth 100000 in
theorem faceA_all:∀ k ∈ [1,2,3,4,5,6,7,8,9,10,11,12,13,14,15],tblA .Face 0 (k * 2) 2 = some ⟨kws.getD k [],flags k⟩:=by
 intro k hk
 simp only [List.mem_cons,List.not_mem_nil,or_false] at hk
 rcases hk with rfl | rfl | rfl | rfl | rfl | rfl | rfl | rfl | rfl | rfl | rfl | rfl | rfl | rfl | rfl <;> kernel_rfl
theorem mem15 {k:Int} (h:okKind k):k.toNat ∈ [1,2,3,4,5,6,7,8,9,10,11,12,13,14,15]:=by
 unfold okKind at h
 simp only [List.mem_cons,List.not_mem_nil,or_false]
 omega
theorem faceA_w {k:Int} (h:okKind k):tblA .Face 0 (k.toNat * 2) 2 = some ⟨kw k,flags k.toNat⟩:=faceA_all _ (mem15 h)
theorem kw_all:∀ k ∈ [1,2,3,4,5,6,7,8,9,10,11,12,13,14,15],(kws.getD k []).length ≤ 20∧bareB (kws.getD k []) = true:=by
 decide +kernel
theorem kw_len {k:Int} (h:okKind k):(kw k).length ≤ 20:=(kw_all _ (mem15 h)).1
theorem kw_bare {k:Int} (h:okKind k):bareB (kw k) = true:=(kw_all _ (mem15 h)).2
noncomputable def wds (o:Outc):List (List UInt8 × List UInt8) :=
 [([],dec o.Tick),([],110 :: dec o.Node),([],kw o.Kind)]++(if o.Kind ≤ 10∧o.Kind ≠ 5 then [([105,100],keyT o.ID)] else [])++(if o.Other ≠ 0 then [([97,116],dec o.Other)] else [])
def mkW (x:List UInt8 × List UInt8):Word:=⟨0,x.1,x.2⟩
def ivs (o:Outc):List IV :=
 [.int 184 o.Tick,.int 185 o.Node,.int 186 o.Kind]++(if o.Kind ≤ 10∧o.Kind ≠ 5 then [.id 188 o.ID] else [])++(if o.Other ≠ 0 then [.int 189 o.Other] else [])
theorem tw_tick {n:Int} (h0:0 ≤ n) (h1:n ≤ 9223372036854775807):trace_word (.int 184 n) = some (mkW ([],dec n)):=by
 rw [trace_word]
 rw [if_pos rfl,itoa_dec h0 h1]; rfl
theorem tw_node {n:Int} (h0:0 ≤ n) (h1:n ≤ 9223372036854775807):trace_word (.int 185 n) = some (mkW ([],110 :: dec n)):=by
 rw [trace_word]
 rw [if_neg (by decide),if_pos rfl,itoa_dec h0 h1]; rfl
theorem tw_kind {n:Int} (h:okKind n):trace_word (.int 186 n) = some (mkW ([],kw n)):=by
 have h':=h
 unfold okKind at h'
 rw [trace_word]
 rw [if_neg (by decide),if_neg (by decide),if_pos rfl,if_pos ⟨by omega,by omega⟩,faceA_w h]
 have:=kw_len h
 simp only [Option.bind_some]
 rw [if_pos (by omega)]; rfl
theorem tw_other {n:Int} (h0:0 ≤ n) (h1:n ≤ 9223372036854775807):trace_word (.int 189 n) = some (mkW ([97,116],dec n)):=by
 rw [trace_word]
 rw [if_neg (by decide),if_neg (by decide),if_neg (by decide),if_pos rfl,itoa_dec h0 h1]; rfl
theorem tw_name {d:ID} (h:okID d) (hs:0 ≤ d.Seq):trace_word (.id 188 d) = some (mkW ([105,100],keyT d)):=by
 rw [trace_word]
 have:=keyT_len h hs
 rw [if_pos rfl,key_w h hs]
 simp only [Option.bind_some]
 rw [if_pos ⟨trivial,by omega⟩]; rfl
theorem wloop (fs:List IV) (ws:List Word) (hl:fs.length = ws.length) (hb:fs.length ≤ 1000) (h:∀ (i:Nat) x,fs[i]? = some x→∃ w,ws[i]? = some w∧trace_word x = some w)
  (F:List Word × Int→Option (Step (List Word × Int) (List Word))) (hF:∀ l i,F (l,i) = br (decide (i < (fs.length:Int))) ((idx fs i).bind fun x=>(trace_word x).bind fun y=>(app 40 l ([y]:List Word)).bind fun z=>(addI .i64 i 1).bind fun j=>some (.next (z,j))) (some (.done l))) :
  iter F (([]:List Word),(0:Int)) = some ws:=by
 refine W.eq (W_iter (fun s=>0 ≤ s.2∧s.2 ≤ (fs.length:Int)∧s.1 = ws.take s.2.toNat) (fun s=>fs.length - s.2.toNat) ?_ ⟨Int.le_refl _,by simp,by simp⟩)
 rintro ⟨l,i⟩ ⟨h0,h1,h2⟩
 dsimp only at h0 h1 h2
 rw [hF]
 refine W_if (fun hi=>?_) fun hi=>?_
 ·refine W_idx h0 hi fun x hx=>?_
  obtain ⟨w,hw,ht⟩:=h i.toNat x hx
  refine W_eq ht ?_
  have hll:l.length ≤ 1000:=by rw [h2,List.length_take]; omega
  refine W_app (by simp; omega) ?_
  refine W_op fun j hj=>?_
  refine W_next ⟨⟨by dsimp only; omega,by dsimp only; omega,?_⟩,by dsimp only; omega⟩
  dsimp only
  rw [show j.toNat = i.toNat + 1 from by omega,List.take_add_one,hw,h2]
  rfl
 ·refine W_done ?_
  have:i = (fs.length:Int):=by omega
  rw [h2,this,hl]
  simp
theorem oko_ranges {o:Outc} (h:OKO o):okKind o.Kind∧0 ≤ o.Tick∧o.Tick ≤ 1099511627776∧1 ≤ o.Node∧o.Node ≤ 16∧0 ≤ o.Other∧o.Other ≤ 16∧(o.Kind ≤ 10∧o.Kind ≠ 5→okID o.ID):=by
 obtain ⟨h1,h2,h3,h4⟩:=h
 refine ⟨h1,h2.1,h2.2.1,h2.2.2.1,h2.2.2.2,?_,?_,fun hk=>?_⟩
 ·unfold okOther at h4; omega
 ·unfold okOther at h4; omega
 ·rcases h3 with ⟨_,h⟩ | ⟨h,_⟩
  ·exact h
  ·exact absurd hk h
theorem ivs_wds {o:Outc} (h:OKO o) (hs:0 ≤ o.ID.Seq):(ivs o).length = ((wds o).map mkW).length∧∀ (i:Nat) x,(ivs o)[i]? = some x→∃ w,((wds o).map mkW)[i]? = some w∧trace_word x = some w:=by
 obtain ⟨h1,h2,h3,h4,h5,h6,h7,h8⟩:=oko_ranges h
 have t0:=tw_tick h2 (by omega)
 have t1:=tw_node (n:=o.Node) (by omega) (by omega)
 have t2:=tw_kind h1
 have t4:=tw_other h6 (by omega)
 unfold ivs wds
 by_cases hk:o.Kind ≤ 10∧o.Kind ≠ 5
 ·have t3:=tw_name (h8 hk) hs
  simp only [if_pos hk]
  by_cases ho:o.Other ≠ 0
  ·simp only [if_pos ho]
   refine ⟨rfl,fun i x hx=>?_⟩
   match i,hx with
   | 0,hx=>cases hx; exact ⟨_,rfl,t0⟩
   | 1,hx=>cases hx; exact ⟨_,rfl,t1⟩
   | 2,hx=>cases hx; exact ⟨_,rfl,t2⟩
   | 3,hx=>cases hx; exact ⟨_,rfl,t3⟩
   | 4,hx=>cases hx; exact ⟨_,rfl,t4⟩
   | n + 5,hx=>simp at hx
  ·simp only [if_neg ho]
   refine ⟨rfl,fun i x hx=>?_⟩
   match i,hx with
   | 0,hx=>cases hx; exact ⟨_,rfl,t0⟩
   | 1,hx=>cases hx; exact ⟨_,rfl,t1⟩
   | 2,hx=>cases hx; exact ⟨_,rfl,t2⟩
   | 3,hx=>cases hx; exact ⟨_,rfl,t3⟩
   | n + 4,hx=>simp at hx
 ·simp only [if_neg hk]
  by_cases ho:o.Other ≠ 0
  ·simp only [if_pos ho]
   refine ⟨rfl,fun i x hx=>?_⟩
   match i,hx with
   | 0,hx=>cases hx; exact ⟨_,rfl,t0⟩
   | 1,hx=>cases hx; exact ⟨_,rfl,t1⟩
   | 2,hx=>cases hx; exact ⟨_,rfl,t2⟩
   | 3,hx=>cases hx; exact ⟨_,rfl,t4⟩
   | n + 4,hx=>simp at hx
  ·simp only [if_neg ho]
   refine ⟨rfl,fun i x hx=>?_⟩
   match i,hx with
   | 0,hx=>cases hx; exact ⟨_,rfl,t0⟩
   | 1,hx=>cases hx; exact ⟨_,rfl,t1⟩
   | 2,hx=>cases hx; exact ⟨_,rfl,t2⟩
   | n + 3,hx=>simp at hx
theorem ivs_len (o:Outc):(ivs o).length ≤ 1000:=by
 unfold ivs; split <;> split <;> simp
theorem app_s {α:Type} {n:Nat} {l m:List α} (h:(l.length + m.length) * n ≤ 140737488355328):app n l m = some (l++m):=by unfold app; rw [if_pos h]
theorem row_w {o:Outc} (h:OKO o) (hs:0 ≤ o.ID.Seq):trace_row o = some ((wds o).map mkW):=by
 obtain ⟨q1,q2⟩:=ivs_wds h hs
 have q3:=ivs_len o
 obtain ⟨h1,h2,h3,h4,h5,h6,h7,h8⟩:=oko_ranges h
 have hb:=(bits_all _ (mem15 h1)).1
 have hin:inB o.Kind 16 = true:=by unfold okKind at h1; unfold inB; simp; omega
 have hk':(decide (o.Kind.toNat ≤ 10∧o.Kind.toNat ≠ 5)) = decide (o.Kind ≤ 10∧o.Kind ≠ 5):=by
  unfold okKind at h1
  exact decide_eq_decide.2 (by omega)
 unfold trace_row
 rw [hin,Nat.zero_add,faceA_w h1]
 simp only [br,cond_true,Option.bind_some]
 rw [hb,hk']
 unfold ivs at q1 q2 q3
 by_cases hk:o.Kind ≤ 10∧o.Kind ≠ 5
 ·rw [decide_eq_true hk]
  simp only [if_pos hk] at q1 q2 q3
  simp only [cond_true]
  rw [app_s (by simp)]
  simp only [Option.bind_some]
  by_cases ho:o.Other ≠ 0
  ·rw [show (o.Other != 0) = true from bne_iff_ne.2 ho]
   simp only [if_pos ho] at q1 q2 q3
   simp only [cond_true]
   rw [app_s (by simp)]
   simp only [Option.bind_some]
   rw [wloop _ _ q1 q3 q2 _ (fun l i=>rfl)]
   rfl
  ·have ho':o.Other = 0:=Decidable.not_not.1 ho
   rw [show (o.Other != 0) = false from by rw [ho']; rfl]
   simp only [if_neg ho,List.append_nil] at q1 q2 q3
   simp only [cond_false]
   rw [wloop _ _ q1 q3 q2 _ (fun l i=>rfl)]
   rfl
 ·rw [decide_eq_false hk]
  simp only [if_neg hk,List.append_nil] at q1 q2 q3
  simp only [cond_false]
  by_cases ho:o.Other ≠ 0
  ·rw [show (o.Other != 0) = true from bne_iff_ne.2 ho]
   simp only [if_pos ho] at q1 q2 q3
   simp only [cond_true]
   rw [app_s (by simp)]
   simp only [Option.bind_some]
   rw [wloop _ _ q1 q3 q2 _ (fun l i=>rfl)]
   rfl
  ·have ho':o.Other = 0:=Decidable.not_not.1 ho
   rw [show (o.Other != 0) = false from by rw [ho']; rfl]
   simp only [if_neg ho,List.append_nil] at q1 q2 q3
   simp only [cond_false]
   rw [wloop _ _ q1 q3 q2 _ (fun l i=>rfl)]
   rfl
end Go.Proofs.YtjcbpfhlgebgdaaDoor
