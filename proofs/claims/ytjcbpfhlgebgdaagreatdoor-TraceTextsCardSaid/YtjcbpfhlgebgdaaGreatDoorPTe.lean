import Derived.Test.YtjcbpfhlgebgdaaGreatDoorPTb
import Derived.Test.YtjcbpfhlgebgdaaGreatDoorP3r
open Option renaming bind_some -> zvM
open List renaming length_append -> zvN
set_option linter.unusedSimpArgs false
set_option linter.unusedVariables false
namespace Go.Proofs.YtjcbpfhlgebgdaaGreatDoor
open Go Go.Eng Go.RowKit Go.X Go.Seq
instance {a b:List UInt8}:BP (a == b) (a = b):=⟨fun h=>eq_of_beq h,fun h q=>by rw [q,beq_self_eq_true] at h; cases h⟩
theorem zq4 (w:List UInt8 × List UInt8):wdB (mkW w) = wT w:=by
 unfold wdB mkW wT
 split <;> simp
theorem zix:∀ ws:List (List UInt8 × List UInt8),lnB false (ws.map mkW) = if ws = [] then [] else 32 :: yB ws
 | []=>rfl
 | w :: ws=>by
  rw [List.map_cons,lnB,zix ws,zq4,if_neg (List.cons_ne_nil _ _),yB]
  simp
theorem zsV (ws:List (List UInt8 × List UInt8)):lnB true (ws.map mkW) = yB ws:=by
 cases ws with
 | nil=>rfl
 | cons w ws =>
  rw [List.map_cons,lnB,zix,zq4,yB]
  simp
noncomputable def ziy (o:Outc):List UInt8:=yB (wds o)++[10]
noncomputable def Zx (l:List Outc):List UInt8:=l.flatMap ziy
theorem zaS (o:Outc):yB (wds o) = dec o.Tick++[32,110]++dec o.Node++[32]++kw o.Kind++(if o.Kind <= 10/\o.Kind ≠ 5 then [32,105,100,61]++keyT o.ID else [])++(if o.Other ≠ 0 then [32,97,116,61]++dec o.Other else []):=by
 unfold wds
 by_cases h1:o.Kind <= 10/\o.Kind ≠ 5 <;> by_cases h2:o.Other ≠ 0 <;>
  simp [h1,h2,yB,wT]
theorem zdH {o:Outc} (h:OKO o) (hs:0 <= o.ID.Seq):(yB (wds o)).length <= 199:=by
 obtain ⟨h1,h2,h3,h4,h5,h6,h7,h8⟩:=Qp h
 rw [zaS]
 have a1:=qb (n:=o.Tick) h2 (by omega)
 have a2:=qb (n:=o.Node) (by omega) (by omega)
 have a3:=zm4 h1
 have a4:=qb (n:=o.Other) (by omega) (by omega)
 by_cases k1:o.Kind <= 10/\o.Kind ≠ 5
 ·have a5:=zdG (h8 k1) hs
  rw [if_pos k1]
  split <;> simp only [zvN,List.length_cons,List.length_nil] <;> omega
 ·rw [if_neg k1]
  split <;> simp only [zvN,List.length_cons,List.length_nil] <;> omega
theorem zud (o:Outc):(wds o).map mkW ≠ []:=by unfold wds; simp
theorem zq5 (o:Outc):(wds o).length <= 5:=by unfold wds; split <;> split <;> simp
theorem zuY:∀ (l:List Outc) (acc:List UInt8),(∀ o ∈ l,OKO o/\0 <= o.ID.Seq)->acc.length + l.length * 200 <= 1000000000->txF yC l acc = some (acc++Zx l)
 | [],acc,_,_=>by simp [txF,Zx]
 | o :: l,acc,h,hl=>by
  obtain ⟨ho,hs⟩:=h o (List.mem_cons_self ..)
  have hw:=zdH ho hs
  have h5:=zq5 o
  rw [txF,ztI ho hs]
  simp only [zvM]
  rw [zsV]
  simp only [List.length_cons] at hl
  rw [if_pos ⟨zud o,by rw [List.length_map]; omega,by simp only [zvN,List.length_cons,List.length_nil]; omega⟩]
  rw [zuY l _ (fun x hx=>h x (List.mem_cons_of_mem _ hx)) (by simp only [zvN,List.length_cons,List.length_nil]; omega)]
  simp [Zx,ziy]
def TX (l:List Outc) (r:List UInt8 × Int):Prop:=(∃ e n,CT l (e,n)/\e ≠ 0/\r = ([],e)) ∨ ((∃ n,CT l (0,n))/\((20000 < (Zx l).length/\r = ([],4)) ∨ (¬ 20000 < (Zx l).length/\r = (Zx l,0))))
theorem TX.det {l:List Outc} {r r':List UInt8 × Int} (h:TX l r) (h':TX l r'):r = r':=by
 rcases h with ⟨e,n,h1,h2,rfl⟩ | ⟨⟨n,h1⟩,h2⟩ <;> rcases h' with ⟨e',n',h1',h2',rfl⟩ | ⟨⟨n',h1'⟩,h2'⟩
 ·have:=h1.det h1'; cases this; rfl
 ·have:=h1.det h1'; cases this; exact absurd rfl h2
 ·have:=h1'.det h1; cases this; exact absurd rfl h2'
 ·rcases h2 with ⟨a,rfl⟩ | ⟨a,rfl⟩ <;> rcases h2' with ⟨b,rfl⟩ | ⟨b,rfl⟩ <;> first | rfl | exact absurd a b | exact absurd b a
theorem zlv (l:List Outc):W (qa l) fun e=>∃ n,CT l (e,n):=by
 unfold qa
 refine qM (zsO l) fun r hr=>?_
 obtain ⟨e,n⟩:=r
 exact zx ⟨n,hr⟩
theorem zq6 (l:List Outc) (hl:l.length <= 100000) (hs:∀ o ∈ l,0 <= o.ID.Seq):W (qo l) (TX l):=by
 unfold qo
 rw [if_pos hl]
 refine qM (zlv l) ?_
 rintro e ⟨n,hc⟩
 by_cases he:e = 0
 ·subst he
  rw [if_pos rfl]
  have ok:=hc.ok
  rw [zuY l [] (fun o ho=>⟨ok.2.one o ho,hs o ho⟩) (by simp; omega)]
  simp only [zvM,List.nil_append]
  refine zx (.inr ⟨⟨n,hc⟩,?_⟩)
  by_cases h:20000 < (Zx l).length
  ·exact .inl ⟨h,if_pos h⟩
  ·exact .inr ⟨h,if_neg h⟩
 ·rw [if_neg he]
  exact zx (.inl ⟨e,n,hc,he,rfl⟩)
theorem ztJ {n:Int} (h0:0 <= n) (h1:n < 10):Y7 ([IntKind.wrap .u8 (48 + n)]:List Int) = some [UInt8.ofNat (48 + n.toNat)]:=by
 rcases (by omega:n = 0 ∨ n = 1 ∨ n = 2 ∨ n = 3 ∨ n = 4 ∨ n = 5 ∨ n = 6 ∨ n = 7 ∨ n = 8 ∨ n = 9) with rfl | rfl | rfl | rfl | rfl | rfl | rfl | rfl | rfl | rfl <;> rfl
theorem zq7 (n:Int):dec n ≠ []:=by
 obtain ⟨_,c,l,h,_⟩:=zcp (n.toNat + 1) n.toNat (by omega)
 unfold dec
 rw [h]; simp
theorem zae {n:Int} (h0:0 <= n) (h1:n <= 9223372036854775807):zl n = some (dec n):=by
 have h20:=qb h0 h1
 refine W.eq ?_
 unfold zl
 refine Qg (fun s:Int × List UInt8=>0 <= s.1/\s.1 <= 9223372036854775807/\s.2.length <= 20/\((s.2 = []/\s.1 = n) ∨ (s.2 ≠ []/\s.1 = 0/\s.2 = dec n) ∨ (0 < s.1/\dec s.1++s.2 = dec n))) (fun s=>s.1.toNat * 2 + (if s.2 = [] then 1 else 0)) ?_ ⟨h0,h1,by simp,.inl ⟨rfl,rfl⟩⟩
 rintro ⟨m,out⟩ ⟨i1,i2,i3,i4⟩
 dsimp only at i1 i2 i3 i4 ⊢
 have step:∀ m:Int,0 <= m->(0 < m ∨ out = [])->dec m++out = dec n->(m < 10->[UInt8.ofNat (48 + (m % 10).toNat)]++out = dec n)/\(¬ m < 10->dec (m / 10)++([UInt8.ofNat (48 + (m % 10).toNat)]++out) = dec n):=by
  intro m hm _ hd
  refine ⟨fun h=>?_,fun h=>?_⟩
  ·rw [<- hd]
   unfold dec
   rw [zgw (by omega),show (m % 10).toNat = m.toNat from by omega]
  ·rw [<- hd]
   unfold dec
   rw [zoj (n:=m.toNat) (by omega),show (m / 10).toNat = m.toNat / 10 from by omega,show (m % 10).toNat = m.toNat % 10 from by omega,List.append_assoc]
 refine yn (fun hm=>?_) fun hm=>?_
 ·have hd:dec m++out = dec n:=by
   rcases i4 with ⟨a,b⟩ | ⟨_,b,_⟩ | ⟨_,b⟩
   ·rw [a,b,List.append_nil]
   ·omega
   ·exact b
  have hlen:(dec m).length + out.length <= 20:=by rw [<- zvN,hd]; exact h20
  have hne:1 <= (dec m).length:=List.length_pos_iff.2 (zq7 m)
  obtain ⟨s1,s2⟩:=step m (by omega) (.inl hm) hd
  refine zr6 (by omega) (by omega) ?_
  rintro _ rfl
  refine ZW fun x hx=>?_
  subst hx
  refine yL (ztJ (by omega) (by omega)) ?_
  refine Qj (by simp; omega) ?_
  refine zt0 (by omega) (by omega) (by omega) ?_
  rintro _ rfl
  refine qn ⟨⟨by dsimp only; omega,by dsimp only; omega,by simp; omega,?_⟩,?_⟩
  ·dsimp only
   by_cases h:m < 10
   ·exact .inr (.inl ⟨by simp,by omega,s1 h⟩)
   ·exact .inr (.inr ⟨by omega,s2 h⟩)
  ·dsimp only
   rw [if_neg (by simp)]
   split <;> omega
 ·have hm0:m = 0:=by omega
  subst hm0
  refine yn (fun ho=>?_) fun ho=>?_
  ·subst ho
   have hd:dec 0++[] = dec n:=by
    rcases i4 with ⟨_,b⟩ | ⟨a,_⟩ | ⟨a,_⟩
    ·rw [<- b,List.append_nil]
    ·exact absurd rfl a
    ·omega
   obtain ⟨s1,_⟩:=step 0 (by omega) (.inr rfl) hd
   refine zr6 (by omega) (by omega) ?_
   rintro _ rfl
   refine ZW fun x hx=>?_
   subst hx
   refine yL (ztJ (by omega) (by omega)) ?_
   refine Qj (by simp) ?_
   refine zt0 (by omega) (by omega) (by omega) ?_
   rintro _ rfl
   refine qn ⟨⟨by dsimp only; omega,by dsimp only; omega,by simp,?_⟩,?_⟩
   ·exact .inr (.inl ⟨by simp,by omega,s1 (by omega)⟩)
   ·simp
  ·refine yK (zx ?_)
   rcases i4 with ⟨a,_⟩ | ⟨_,_,a⟩ | ⟨a,_⟩
   ·exact absurd a ho
   ·exact a
   ·omega
theorem ziz:∀ k ∈ [1,2,3,4,5,6,7,8,9,10,11,12,13,14,15],kws[k]? = some (kws.getD k []):=by decide +kernel
theorem zox:zU () = some kws:=rfl
theorem zue {k:Int} (h:yS k):idx kws k = some (kw k):=by
 have:=ziz _ (ziw h)
 unfold yS at h
 unfold idx kw
 rw [if_pos (by omega)]
 exact this
theorem zlw {o:Outc} (h:OKO o) (hs:0 <= o.ID.Seq):z7 o = some (yB (wds o)):=by
 obtain ⟨h1,h2,h3,h4,h5,h6,h7,h8⟩:=Qp h
 have a1:=qb (n:=o.Tick) h2 (by omega)
 have a2:=qb (n:=o.Node) (by omega) (by omega)
 have a3:=zm4 h1
 have a4:=qb (n:=o.Other) (by omega) (by omega)
 refine W.eq ?_
 unfold z7
 refine yL (zae h2 (by omega)) ?_
 refine Qj (by simp; omega) ?_
 refine yL (zae (by omega) (by omega)) ?_
 refine Qj (by simp; omega) ?_
 refine Qj (by simp; omega) ?_
 refine yL zox ?_
 refine yL (zue h1) ?_
 refine Qj (by simp; omega) ?_
 refine yL (zlt o.Kind) ?_
 refine zhA (fun hk=>?_) fun hk=>?_
 ·have hk':o.Kind <= 10/\o.Kind ≠ 5:=⟨hk.2.1,hk.2.2⟩
  have hid:=h8 hk'
  have hid':=hid
  unfold Yn at hid'
  have b1:=qb (n:=o.ID.Node) (by omega) (by omega)
  have b2:=qb (n:=o.ID.Seq) hs (by omega)
  have b3:=qb (n:=o.ID.Off) (by omega) (by omega)
  refine Qj (by simp; omega) ?_
  refine yL (zae (by omega) (by omega)) ?_
  refine Qj (by simp; omega) ?_
  refine Qj (by simp; omega) ?_
  have ew:Go.IntKind.wrap .i64 o.ID.Seq = o.ID.Seq:=by
   rw [IntKind.wrap_i64]; omega
  rw [ew]
  refine yL (zae hs (by omega)) ?_
  refine Qj (by simp; omega) ?_
  refine Qj (by simp; omega) ?_
  refine yL (zae (by omega) (by omega)) ?_
  refine Qj (by simp; omega) ?_
  refine yn (fun ho=>?_) fun ho=>?_
  ·refine Qj (by simp; omega) ?_
   refine yL (zae (by omega) (by omega)) ?_
   refine Qj (by simp; omega) ?_
   refine zx ?_
   rw [zaS,if_pos hk',if_pos (by omega)]
   simp [keyT]
  ·refine zx ?_
   rw [zaS,if_pos hk',if_neg (by omega)]
   simp [keyT]
 ·have hk':¬ (o.Kind <= 10/\o.Kind ≠ 5):=fun q=>hk ⟨by unfold yS at h1; omega,q.1,q.2⟩
  refine yn (fun ho=>?_) fun ho=>?_
  ·refine Qj (by simp; omega) ?_
   refine yL (zae (by omega) (by omega)) ?_
   refine Qj (by simp; omega) ?_
   refine zx ?_
   rw [zaS,if_neg hk',if_pos (by omega)]
   simp
  ·refine zx ?_
   rw [zaS,if_neg hk',if_neg (by omega)]
   simp
theorem zm5 {l:List Outc} {i:Nat} {x:Outc} (hx:l[i]? = some x):Zx (l.take (i + 1)) = Zx (l.take i)++ziy x:=by
 unfold Zx
 rw [List.take_add_one,hx,List.flatMap_append]
 simp
theorem zq8 (l:List Outc) (i:Nat):(Zx (l.take i)).length <= (Zx l).length:=by
 have:Zx l = Zx (l.take i)++Zx (l.drop i):=by
  unfold Zx
  rw [<- List.flatMap_append,List.take_append_drop]
 rw [this,zvN]
 omega
theorem zsW (l:List Outc) (hs:∀ o ∈ l,0 <= o.ID.Seq):W (z8 l) (TX l):=by
 unfold z8
 refine qM (zq0 l) ?_
 rintro ⟨e,n⟩ hc
 dsimp only
 refine yn (fun he=>zx (.inl ⟨e,n,hc,he,rfl⟩)) fun he=>?_
 have he0:e = 0:=Classical.byContradiction fun q=>he q
 subst he0
 have ok:=hc.ok
 refine Qg (fun s:List UInt8 × Int=>0 <= s.2/\s.2 <= (l.length:Int)/\s.1 = Zx (l.take s.2.toNat)/\s.1.length <= 20000) (fun s=>l.length - s.2.toNat) ?_ ⟨by simp,by simp,by simp [Zx],by simp⟩
 rintro ⟨out,i⟩ ⟨i1,i2,i3,i4⟩
 dsimp only at i1 i2 i3 i4 ⊢
 refine yn (fun hi=>?_) fun hi=>?_
 ·refine Zj (by omega) (by omega) fun x hx=>?_
  have hm:=List.mem_of_getElem? hx
  have hw:=zdH (ok.2.one x hm) (hs x hm)
  refine yL (zlw (ok.2.one x hm) (hs x hm)) ?_
  refine Qj (by omega) ?_
  refine Qj (by simp; omega) ?_
  have e:out++yB (wds x)++[10] = Zx (l.take (i.toNat + 1)):=by
   rw [zm5 hx,i3,ziy,List.append_assoc]
  refine yn (fun hb=>yK (zx (.inr ⟨⟨n,hc⟩,.inl ⟨?_,rfl⟩⟩))) fun hb=>?_
  ·have:=zq8 l (i.toNat + 1)
   rw [<- e] at this
   omega
  ·refine ZW fun j hj=>qn ⟨⟨by dsimp only; omega,by dsimp only; omega,?_,by dsimp only; omega⟩,by dsimp only; omega⟩
   dsimp only
   rw [show j.toNat = i.toNat + 1 from by omega,e]
 ·refine yK (zx (.inr ⟨⟨n,hc⟩,?_⟩))
  rw [List.take_of_length_le (by omega)] at i3
  subst i3
  exact .inr ⟨by omega,rfl⟩
open Go Go.Eng Go.RowKit Go.X Go.Seq
theorem zjw:∀ (a b:List UInt8) (c:Nat) (v:Int),(rdF a c v).2.2 = []->rdF (a++b) c v = rdF b (rdF a c v).2.1 (rdF a c v).1
 | [],b,c,v,_=>rfl
 | x :: a,b,c,v,h=>by
  by_cases hx:48 <= x.toNat/\x.toNat <= 57/\c <= 13
  ·rw [zao hx] at h
   rw [List.cons_append,zao hx,zao hx]
   exact zjw a b _ _ h
  ·rw [Yu hx] at h
   cases h
theorem zq9:∀ (k n:Nat),n < k->n < 10000000000000->rdF (Go.Lib.decDigits n) 0 0 = ((n:Int),(Go.Lib.decDigits n).length,[])
 | 0,n,h,_=>by omega
 | k + 1,n,h,hn=>by
  have one:∀ (d c:Nat) (v:Int),d < 10->c <= 13->0 <= v->v <= 1000000000000->rdF [UInt8.ofNat (48 + d)] c v = (10 * v + d,c + 1,[]):=by
   intro d c v hd hc hv hv2
   have e:(UInt8.ofNat (48 + d)).toNat = 48 + d:=by rw [UInt8.toNat_ofNat']; omega
   rw [zao ⟨by omega,by omega,hc⟩,e,YM (n:=10 * v) (by omega) (by omega),YM (by omega) (by omega)]
   show ((_:Int),_,_) = _
   congr 1
   omega
  by_cases h10:n < 10
  ·rw [zgw h10,one n 0 0 h10 (by omega) (by omega) (by omega)]
   simp
  ·have ih:=zq9 k (n / 10) (by omega) (by omega)
   have hl:(Go.Lib.decDigits (n / 10)).length <= 13:=by
    have:=zfP 12 ((n / 10:Nat):Int) (by omega) (by omega)
    unfold dec at this
    rwa [Int.toNat_natCast] at this
   rw [zoj h10,zjw _ _ _ _ (by rw [ih]),ih]
   dsimp only
   rw [one (n % 10) _ _ (by omega) (by omega) (by omega) (by omega)]
   simp only [zvN,List.length_cons,List.length_nil,Prod.mk.injEq,and_true]
   omega
theorem zsX {l:List UInt8} (h:zdE l) (c:Nat) (v:Int):rdF l c v = (v,c,l):=by
 cases l with
 | nil=>rfl
 | cons x l =>
  have:=h x rfl
  exact Yu (by omega)
theorem zgM {k:Nat} {n:Int} (h0:0 <= n) (h1:n < 10000000000000) {rest:List UInt8} (hr:zdE rest) {p:List Int} (hp:p.getD k 0 = 0):Yv k (dec n++rest) p = some (rest,p.set k n):=by
 have e:rdF (dec n++rest) 0 0 = (n,(dec n).length,rest):=by
  have h:=zq9 (n.toNat + 1) n.toNat (by omega) (by omega)
  rw [Int.toNat_of_nonneg h0] at h
  unfold dec
  rw [zjw _ _ _ _ (by rw [h]),h]
  exact zsX hr _ _
 have hl:(dec n).length <= 13:=zfP 12 n h0 (by omega)
 have hpos:1 <= (dec n).length:=List.length_pos_iff.2 (zq7 n)
 unfold Yv
 rw [hp,e]
 dsimp only
 rw [if_neg]
 rintro (h | h | ⟨h,h2⟩)
 ·omega
 ·omega
 ·obtain ⟨_,c,l,g2,g3,g4⟩:=zcp (n.toNat + 1) n.toNat (by omega)
  have hd:dec n = c :: l:=g2
  rw [hd] at h2 h
  simp only [List.cons_append,List.head?_cons,Option.some.injEq] at h2
  by_cases hn:1 <= n.toNat
  ·exact g4 hn h2
  ·have:n = 0:=by omega
   subst this
   rw [show dec 0 = [48] from by unfold dec; exact zgw (by decide)] at hd
   cases hd
   simp at h
theorem ze1 {d:ID} (h:Yn d) (hs:0 <= d.Seq):zy (keyT d) = some (d,0):=by
 have hl:=zdG h hs
 have hc:zd d = some 0:=by
  obtain ⟨r,e,⟨rfl,_⟩ | ⟨_,hn⟩⟩:=zcV d
  ·exact e
  ·exact absurd h hn
 unfold Yn at h
 have dot:∀ l:List UInt8,zdE (46 :: l):=fun l c hc=>by cases hc; exact .inl (by decide)
 have e:rkF 0 (keyT d) [0,0,0] = some ([],[d.Node,d.Seq,d.Off]):=by
  unfold keyT
  rw [rk0]
  simp only [List.append_assoc,List.cons_append,List.nil_append]
  rw [zgM (by omega) (by omega) (dot _) rfl]
  simp only [zvM]
  rw [rk1,Q3,if_pos (by decide)]
  simp only [zvM]
  rw [zgM hs (by omega) (dot _) rfl]
  simp only [zvM]
  rw [rk2,Q3,if_pos (by decide)]
  simp only [zvM]
  have:=zgM (k:=2) (n:=d.Off) (rest:=[]) (by omega) (by omega) (fun c h=>by cases h) (p:=([0,0,0].set 0 d.Node).set 1 d.Seq) rfl
  rw [List.append_nil] at this
  exact this
 unfold zy
 rw [if_pos (by omega),e]
 have w1:wrap64 d.Node = d.Node:=IntWalk.wrap64_in _ (by omega)
 have w2:wrap64 d.Off = d.Off:=IntWalk.wrap64_in _ (by omega)
 unfold zku
 dsimp only
 rw [if_neg (by simp),w1,w2,hc]
 rfl
theorem zra {d:ID} (h:Yn d) (hs:0 <= d.Seq):ym (keyT d) = some (d,0):=by
 have hl:=zdG h hs
 obtain ⟨r,h1,h2⟩:=zbT (keyT d) (by omega)
 rw [ze1 h hs] at h2
 cases h2
 exact h1
theorem zjx:∀ (l:List UInt8) (k:Nat) (p d:List Int),(∀ x ∈ p,0 <= x)->∀ p' d',pkF l k p d = some (p',d')->∀ x ∈ p',0 <= x
 | [],k,p,d,h,p',d',e=>by cases e; exact h
 | c :: l,k,p,d,h,p',d',e=>by
  by_cases h46:c.toNat = 46
  ·rw [zfN h46] at e
   split at e
   ·cases e
   ·exact zjx l _ p d h p' d' e
  ·by_cases hc:48 <= c.toNat/\c.toNat <= 57
   ·rw [zaR hc] at e
    split at e
    ·cases e
    ·refine zjx l k _ _ (fun x hx=>?_) p' d' e
     rcases List.mem_or_eq_of_mem_set hx with hx | hx
     ·exact h x hx
     ·rw [hx,IntKind.wrap_u64]; omega
   ·rw [zfO (by omega) h46] at e
    cases e
theorem zoy {s:List UInt8} {r:ID × Int} (h:ym s = some r):0 <= r.1.Seq:=by
 unfold ym at h
 split at h
 ·have hp:=zjx s 0 [0,0,0] [0,0,0] (by simp)
  generalize pkF s 0 [0,0,0] [0,0,0] = o at h hp
  match o,h,hp with
  | none,h,_=>cases h; exact Int.le_refl _
  | some (p,d),h,hp =>
   have hq:=hp p d rfl
   match p,h,hq with
   | [p0,p1,p2],h,hq =>
    have h1:0 <= p1:=hq p1 (by simp)
    have h':((zX (d,0)).bind fun z=>if z then some (⟨0,0,0⟩,3) else (zm ⟨wrap64 p0,p1,wrap64 p2⟩).bind fun e=>if e ≠ 0 then some (⟨0,0,0⟩,e) else some (⟨wrap64 p0,p1,wrap64 p2⟩,0)) = some r:=h
    obtain ⟨z,_,h'⟩:=Option.bind_eq_some_iff.1 h'
    split at h'
    ·cases h'; exact Int.le_refl _
    ·obtain ⟨e,_,h'⟩:=Option.bind_eq_some_iff.1 h'
     split at h'
     ·cases h'; exact Int.le_refl _
     ·cases h'; exact h1
   | [],h,_=>cases h
   | [_],h,_=>cases h
   | [_,_],h,_=>cases h
   | _ :: _ :: _ :: _ :: _,h,_=>cases h
 ·cases h
noncomputable def QJ:List Face:=(zjW .Face 0 2 16 (0)).getD []
theorem zoz:zjW .Face 0 2 16 (0) = some QJ:=by kernel_rfl
theorem ze2:QJ.map (·.word) = kws:=by kernel_rfl
theorem zpx:kws.Nodup:=by decide +kernel
theorem zoA:kws.length = 16:=by decide +kernel
theorem zm6:QJ.length = 16:=by
 have:=congrArg List.length ze2
 rwa [List.length_map,zoA] at this
def mt (x:Word) (f:Face):Prop:=f.word ≠ []/\f.word = x.Text
theorem zoB (x:Word):W (zS QJ x) fun r=>r.2 = x/\-1 <= r.1/\r.1 <= 15 /\
  ((r.1 = -1/\∀ f ∈ QJ,¬ mt x f) ∨ ∃ f,0 <= r.1/\QJ[r.1.toNat]? = some f/\mt x f):=by
 have h16:=zm6
 unfold zS
 refine Qg (fun s=>0 <= s.1/\s.1 <= (QJ.length:Int)/\s.2 = x/\∀ (j:Nat) d,j < s.1.toNat->QJ[j]? = some d->¬ mt x d) (fun s=>QJ.length - s.1.toNat) ?_ ⟨by simp,by simp,rfl,by simp⟩
 rintro ⟨i,y⟩ ⟨i1,i2,i3,i4⟩
 dsimp only at i1 i2 i3 i4 ⊢
 subst i3
 refine yn (fun hi=>?_) fun hi=>?_
 ·refine Zj i1 (by omega) fun f hf=>?_
  have hq:W (yP f y) fun r=>r.2 = y/\(r.1 = true ↔ mt y f):=by
   unfold yP mt
   refine yn (fun h=>zx ⟨rfl,?_⟩) fun h=>zx ⟨rfl,?_⟩
   ·dsimp only
    rw [beq_iff_eq]
    exact ⟨fun e=>⟨h,e⟩,fun e=>e.2⟩
   ·exact ⟨fun e=>(by cases e),fun e=>absurd e.1 h⟩
  refine qM hq ?_
  rintro ⟨b,y'⟩ ⟨rfl,hb⟩
  dsimp only at hb ⊢
  refine zkv (fun h=>yK (zx ⟨rfl,by dsimp only; omega,by dsimp only; omega,.inr ⟨f,i1,hf,hb.1 h⟩⟩)) fun h=>?_
  refine ZW fun j hj=>qn ⟨⟨by dsimp only; omega,by dsimp only; omega,rfl,fun k d hk hd=>?_⟩,by dsimp only; omega⟩
  dsimp only at hk
  by_cases hki:k = i.toNat
  ·subst hki; rw [hf] at hd; cases hd
   exact fun q=>by rw [hb.2 q] at h; cases h
  ·exact i4 k d (by omega) hd
 ·refine yK (zx ⟨rfl,by dsimp only; omega,by dsimp only; omega,.inl ⟨rfl,fun c hc=>?_⟩⟩)
  obtain ⟨j,hj⟩:=List.mem_iff_getElem?.1 hc
  exact i4 j c (by have:=(List.getElem?_eq_some_iff.1 hj).1; omega) hj
theorem zm7 {k:Int} (h:yS k):kws[k.toNat]? = some (kw k):=ziz _ (ziw h)
theorem zuZ {k:Int} (h:yS k):kw k ≠ []:=(YL (zov h)).2.1
theorem zoC {i:Nat} {k:Int} (h:yS k) (hi:kws[i]? = some (kw k)):i = k.toNat:=by
 have h1:=List.getElem?_eq_some_iff.1 hi
 have h2:=List.getElem?_eq_some_iff.1 (zm7 h)
 obtain ⟨a1,a2⟩:=h1
 obtain ⟨b1,b2⟩:=h2
 exact (List.getElem_inj zpx).1 (a2.trans b2.symm)
theorem zrb {k:Int} (h:yS k) (x:Word) (hx:x.Text = kw k):zS QJ x = some (k,x):=by
 refine W.eq ((zoB x).mono ?_)
 rintro ⟨i,y⟩ ⟨h1,_,_,h2⟩
 dsimp only at h1 h2
 subst h1
 have hw:∀ j:Nat,kws[j]? = (QJ[j]?).map (·.word):=fun j=>by rw [<- ze2,List.getElem?_map]
 rcases h2 with ⟨_,hno⟩ | ⟨f,h0,hf,hm⟩
 ·have hk:=zm7 h
  rw [hw] at hk
  cases hq:QJ[k.toNat]? with
  | none=>rw [hq] at hk; cases hk
  | some f =>
   rw [hq] at hk
   have hk':f.word = kw k:=by simpa using hk
   exact absurd ⟨by rw [hk']; exact zuZ h,by rw [hk',hx]⟩ (hno f (List.mem_of_getElem? hq))
 ·have hk:=hw i.toNat
  rw [hf,Option.map_some,hm.2,hx] at hk
  have:=zoC h hk
  unfold yS at h
  have:i = k:=by omega
  rw [this]
theorem ziA (s:List UInt8):W (yb s) fun r=>0 <= r/\r <= 15/\((r = 0/\∀ (j:Nat) d,1 <= j->kws[j]? = some d->d ≠ s) ∨ (1 <= r/\kws[r.toNat]? = some s)):=by
 have h16:=zoA
 unfold yb
 refine yL zox ?_
 refine Qg (fun i:Int=>1 <= i/\i <= (kws.length:Int)/\∀ (j:Nat) d,1 <= j->j < i.toNat->kws[j]? = some d->d ≠ s) (fun i=>kws.length - i.toNat) ?_ ⟨by omega,by omega,fun j d h1 h2=>by omega⟩
 rintro i ⟨i1,i2,i4⟩
 refine yn (fun hi=>?_) fun hi=>?_
 ·refine Zj (by omega) (by omega) fun x hx=>?_
  refine yn (fun h=>yK (zx ⟨by omega,by omega,.inr ⟨i1,by rw [hx,h]⟩⟩)) fun h=>?_
  refine ZW fun j hj=>qn ⟨⟨by omega,by omega,fun k d h1 hk hd=>?_⟩,by omega⟩
  by_cases hki:k = i.toNat
  ·subst hki; rw [hx] at hd; cases hd; exact h
  ·exact i4 k d h1 (by omega) hd
 ·refine yK (zx ⟨by omega,by omega,.inl ⟨rfl,fun j d h1 hd=>?_⟩⟩)
  exact i4 j d h1 (by have:=(List.getElem?_eq_some_iff.1 hd).1; omega) hd
theorem zm8 {k:Int} (h:yS k):yb (kw k) = some k:=by
 refine W.eq ((ziA (kw k)).mono ?_)
 rintro r ⟨h1,h2,⟨_,hno⟩ | ⟨h0,hr⟩⟩
 ·have hk:=zm7 h
  unfold yS at h
  exact absurd rfl (hno k.toNat _ (by omega) hk)
 ·have:=zoC h hr
  unfold yS at h
  omega
open Go Go.Eng Go.RowKit Go.X Go.Seq
def kt (x:Word):List UInt8 × List UInt8:=(x.Key,x.Text)
theorem zrc {s:List UInt8} (hs:s.length <= 1001):yU s = some (zpo s):=zpp (by omega)
theorem zjy {s:List UInt8} (hs:s.length <= 1001):W (yx s) fun _=>True:=by
 unfold yx
 refine yL (zrc hs) ?_
 dsimp only
 exact zkv (fun _=>zx trivial) fun _=>zx trivial
theorem zel {n:Int} (h0:0 <= n) (h1:n <= 1125899906842624):yx (dec n) = some n:=by
 have:=qb h0 (by omega)
 refine W.eq ?_
 unfold yx
 refine yL (zrc (by omega)) ?_
 rw [zlh h0 h1]
 dsimp only
 refine zhB (zx ?_)
 rw [IntKind.wrap_i64]; omega
theorem zuf {s:List UInt8}:W (zZ (s,[110])) fun r=>r.length <= s.length:=by
 unfold zZ
 refine qM (R:=fun r=>r.length <= s.length) ?_ fun r hr=>zx hr
 unfold zk
 refine qM (R:=fun r=>r = true->1 <= s.length) ?_ fun r hr=>?_
 ·unfold zo
  refine yn (fun h=>?_) fun h=>zx (by simp)
  simp only [List.length_cons,List.length_nil] at h
  have e:slc s 0 (([110]:List UInt8).length:Int) = some ((s.take 1).drop 0):=by
   unfold slc; rw [if_pos ⟨by omega,by simp,by simp; omega⟩]; rfl
  refine yL e (zx fun _=>by omega)
 ·refine zkv (fun h=>?_) fun h=>zx (Nat.le_refl _)
  have:=hr h
  have e:slc s (([110]:List UInt8).length:Int) (s.length:Int) = some ((s.take s.length).drop 1):=by
   unfold slc; rw [if_pos ⟨by simp,by simp; omega,by simp⟩,Int.toNat_natCast]; rfl
  refine yL e (zx ?_)
  simp
theorem zug (s:List UInt8):zZ (110 :: s,[110]) = some s:=by
 have e1:slc (110 :: s) 0 (([110]:List UInt8).length:Int) = some [110]:=by
  unfold slc; rw [if_pos ⟨by omega,by simp,by simp; omega⟩]; rfl
 have e2:slc (110 :: s) (([110]:List UInt8).length:Int) ((110 :: s).length:Int) = some s:=by
  unfold slc; rw [if_pos ⟨by simp,by simp; omega,by simp⟩,Int.toNat_natCast]; simp
 refine W.eq ?_
 unfold zZ zk zo
 dsimp only
 refine qM (R:=fun r=>r = s) ?_ fun r hr=>zx hr
 refine qM (R:=fun r=>r = true) ?_ fun r hr=>?_
 ·refine yn (fun h=>yL e1 (zx (by simp))) fun h=>?_
  simp at h
  omega
 ·subst hr
  exact zap (yL e2 (zx rfl))
noncomputable def ocF (l_1:List Word):Int × Outc->Option (Yt (Int × Outc) Outc):=fun (x_2,x_3) =>
  br (decide (x_2 < (l_1.length:Int)))
   ((idx l_1 x_2).bind fun x_4 =>
   br (x_2 == (0:Int))
    ((yx x_4.Text).bind fun x_5 =>
    (zD .i64 x_2 (1:Int)).bind fun x_6 =>
    some (.next (x_6,(⟨x_5,x_3.Node,x_3.Kind,x_3.ID,x_3.Other⟩:Outc))))
    (br (x_2 == (1:Int))
     ((zZ (x_4.Text,([110]:List UInt8))).bind fun x_7 =>
     (yx x_7).bind fun x_8 =>
     (zD .i64 x_2 (1:Int)).bind fun x_9 =>
     some (.next (x_9,(⟨x_3.Tick,x_8,x_3.Kind,x_3.ID,x_3.Other⟩:Outc))))
     (br (x_2 == (2:Int))
      ((zjW .Face 0 2 16 (0)).bind fun x_10 =>
      (zS x_10 x_4).bind fun (x_11,x_12) =>
      (zD .i64 x_2 (1:Int)).bind fun x_13 =>
      some (.next (x_13,(⟨x_3.Tick,x_3.Node,x_11,x_3.ID,x_3.Other⟩:Outc))))
      (br (x_4.Key == ([105,100]:List UInt8))
       ((ym x_4.Text).bind fun (x_14,x_15) =>
       (zD .i64 x_2 (1:Int)).bind fun x_16 =>
       some (.next (x_16,(⟨x_3.Tick,x_3.Node,x_3.Kind,x_14,x_3.Other⟩:Outc))))
       (br (x_4.Key == ([97,116]:List UInt8))
        ((yx x_4.Text).bind fun x_17 =>
        (zD .i64 x_2 (1:Int)).bind fun x_18 =>
        some (.next (x_18,(⟨x_3.Tick,x_3.Node,x_3.Kind,x_3.ID,x_17⟩:Outc))))
        ((zD .i64 x_2 (1:Int)).bind fun x_19 =>
        some (.next (x_19,x_3))))))))
   (some (.done x_3))
theorem ze3 (l:List Word):yQ l = (qg (ocF l) ((0:Int),(⟨0,0,0,⟨0,0,0⟩,0⟩:Outc))).bind fun x=>some x:=rfl
theorem zpy {l:List Word} (h:zgE l):W (yQ l) fun o=>0 <= o.ID.Seq:=by
 rw [ze3]
 refine Qg (fun s=>0 <= s.1/\s.1 <= (l.length:Int)/\0 <= s.2.ID.Seq) (fun s=>l.length - s.1.toNat) ?_ ⟨by simp,by simp,Int.le_refl _⟩
 rintro ⟨i,o⟩ ⟨i1,i2,i3⟩
 dsimp only at i1 i2 i3 ⊢
 obtain ⟨hl,hx0⟩:=h
 unfold ocF
 dsimp only
 refine yn (fun hi=>?_) fun hi=>yK (zx i3)
 refine Zj (by omega) (by omega) fun x hx=>?_
 have hxl:=hx0 x (List.mem_of_getElem? hx)
 refine yn (fun _=>?_) fun _=>?_
 ·refine qM (zjy hxl.2) fun n _=>?_
  exact ZW fun j hj=>qn ⟨⟨by dsimp only; omega,by dsimp only; omega,i3⟩,by dsimp only; omega⟩
 refine yn (fun _=>?_) fun _=>?_
 ·refine qM zuf fun r hr=>?_
  refine qM (zjy (Nat.le_trans hr hxl.2)) fun n _=>?_
  exact ZW fun j hj=>qn ⟨⟨by dsimp only; omega,by dsimp only; omega,i3⟩,by dsimp only; omega⟩
 refine yn (fun _=>?_) fun _=>?_
 ·refine yL zoz ?_
  refine qM (zoB x) ?_
  rintro ⟨k,y⟩ _
  dsimp only
  exact ZW fun j hj=>qn ⟨⟨by dsimp only; omega,by dsimp only; omega,i3⟩,by dsimp only; omega⟩
 refine yn (fun _=>?_) fun _=>?_
 ·obtain ⟨r,hr,_⟩:=zbT x.Text (by omega)
  have hp:=zoy hr
  refine yL hr ?_
  obtain ⟨d,e⟩:=r
  dsimp only at hp ⊢
  exact ZW fun j hj=>qn ⟨⟨by dsimp only; omega,by dsimp only; omega,hp⟩,by dsimp only; omega⟩
 refine yn (fun _=>?_) fun _=>?_
 ·refine qM (zjy hxl.2) fun n _=>?_
  exact ZW fun j hj=>qn ⟨⟨by dsimp only; omega,by dsimp only; omega,i3⟩,by dsimp only; omega⟩
 ·exact ZW fun j hj=>qn ⟨⟨by dsimp only; omega,by dsimp only; omega,i3⟩,by dsimp only; omega⟩
theorem zm9 {i:Int} (h:0 <= i) (h2:i < 1000000):zD .i64 i 1 = some (i + 1):=Zo (by omega)
theorem zbd {l:List Word} {i:Int} {x:Word} (h0:0 <= i) (hx:l[i.toNat]? = some x):decide (i < (l.length:Int)) = true/\idx l i = some x:=by
 have:=(List.getElem?_eq_some_iff.1 hx).1
 refine ⟨decide_eq_true (by omega),?_⟩
 unfold idx
 rw [if_pos h0,hx]
theorem oc0 {l:List Word} {a:Outc} {x:Word} {n:Int} (hx:l[0]? = some x) (h:yx x.Text = some n):ocF l (0,a) = some (.next (1,⟨n,a.Node,a.Kind,a.ID,a.Other⟩)):=by
 obtain ⟨e1,e2⟩:=zbd (i:=0) (by omega) hx
 unfold ocF
 simp only [e1,e2,br,cond_true,zvM,beq_self_eq_true,h]
 rw [zm9 (by omega) (by omega)]; rfl
theorem oc1 {l:List Word} {a:Outc} {x:Word} {s:List UInt8} {n:Int} (hx:l[1]? = some x) (h1:x.Text = 110 :: s) (h:yx s = some n):ocF l (1,a) = some (.next (2,⟨a.Tick,n,a.Kind,a.ID,a.Other⟩)):=by
 obtain ⟨e1,e2⟩:=zbd (i:=1) (by omega) hx
 unfold ocF
 simp only [e1,e2,br,cond_true,zvM,beq_self_eq_true,h,h1,zug,show ((1:Int) == 0) = false from rfl,cond_false]
 rw [zm9 (by omega) (by omega)]; rfl
theorem oc2 {l:List Word} {a:Outc} {x:Word} {k:Int} (hx:l[2]? = some x) (hk:yS k) (h:x.Text = kw k):ocF l (2,a) = some (.next (3,⟨a.Tick,a.Node,k,a.ID,a.Other⟩)):=by
 obtain ⟨e1,e2⟩:=zbd (i:=2) (by omega) hx
 unfold ocF
 simp only [e1,e2,br,cond_true,zvM,beq_self_eq_true,zoz,zrb hk x h,show ((2:Int) == 0) = false from rfl,show ((2:Int) == 1) = false from rfl,cond_false]
 rw [zm9 (by omega) (by omega)]; rfl
theorem zvu {l:List Word} {a:Outc} {x:Word} {d:ID} {e:Int} {i:Int} (h3:3 <= i) (hi:i < 1000) (hx:l[i.toNat]? = some x) (hk:x.Key = [105,100]) (h:ym x.Text = some (d,e)):ocF l (i,a) = some (.next (i + 1,⟨a.Tick,a.Node,a.Kind,d,a.Other⟩)):=by
 obtain ⟨e1,e2⟩:=zbd (i:=i) (by omega) hx
 unfold ocF
 simp only [e1,e2,br,cond_true,zvM,hk,h,show (i == 0) = false from beq_false_of_ne (by omega),show (i == 1) = false from beq_false_of_ne (by omega),show (i == 2) = false from beq_false_of_ne (by omega),cond_false,beq_self_eq_true]
 rw [zm9 (by omega) (by omega)]; rfl
theorem zu0 {l:List Word} {a:Outc} {x:Word} {n:Int} {i:Int} (h3:3 <= i) (hi:i < 1000) (hx:l[i.toNat]? = some x) (hk:x.Key = [97,116]) (h:yx x.Text = some n):ocF l (i,a) = some (.next (i + 1,⟨a.Tick,a.Node,a.Kind,a.ID,n⟩)):=by
 obtain ⟨e1,e2⟩:=zbd (i:=i) (by omega) hx
 unfold ocF
 simp only [e1,e2,br,cond_true,zvM,hk,h,show (i == 0) = false from beq_false_of_ne (by omega),show (i == 1) = false from beq_false_of_ne (by omega),show (i == 2) = false from beq_false_of_ne (by omega),cond_false,beq_self_eq_true,show (([97,116]:List UInt8) == [105,100]) = false from rfl]
 rw [zm9 (by omega) (by omega)]; rfl
theorem zoD {l:List Word} {a:Outc} {i:Int} (h:(l.length:Int) <= i):ocF l (i,a) = some (.done a):=by
 unfold ocF
 simp only [show decide (i < (l.length:Int)) = false from decide_eq_false (by omega),br,cond_false]
theorem QT {σ ρ:Type} {F:σ->Option (Yt σ ρ)} {s s':σ} (h:F s = some (.next s')):qg F s = qg F s':=by rw [qk,h]
theorem zax {σ ρ:Type} {F:σ->Option (Yt σ ρ)} {s:σ} {r:ρ} (h:F s = some (.done r)):qg F s = some r:=by rw [qk,h]
theorem zaT {o p:Outc} (h1:o.Tick = p.Tick) (h2:o.Node = p.Node) (h3:o.Kind = p.Kind) (h4:o.ID = p.ID) (h5:o.Other = p.Other):o = p:=by
 cases o; cases p; simp_all
theorem zbv {l:List Word} {ws:List (List UInt8 × List UInt8)} (h:l.map kt = ws) {i:Nat} {k t:List UInt8} (hi:ws[i]? = some (k,t)):∃ x,l[i]? = some x/\x.Key = k/\x.Text = t:=by
 rw [<- h,List.getElem?_map] at hi
 cases hq:l[i]? with
 | none=>rw [hq] at hi; cases hi
 | some x =>
  rw [hq] at hi
  simp only [Option.map_some,Option.some.injEq] at hi
  exact ⟨x,rfl,congrArg Prod.fst hi,congrArg Prod.snd hi⟩
theorem zoE {o:Outc} (h:OKO o) (hk:¬ (o.Kind <= 10/\o.Kind ≠ 5)):o.ID = ⟨0,0,0⟩:=by
 obtain ⟨_,_,h3,_⟩:=h
 rcases h3 with ⟨a,_⟩ | ⟨_,a,b,c⟩
 ·exact absurd a hk
 ·rcases hd:o.ID with ⟨x,y,z⟩
  rw [hd] at a b c
  dsimp only at a b c
  rw [a,b,c]
theorem zbW {l:List Word} {o:Outc} (h:OKO o) (hs:0 <= o.ID.Seq) (hw:l.map kt = wds o):yQ l = some o:=by
 obtain ⟨h1,h2,h3,h4,h5,h6,h7,h8⟩:=Qp h
 have hlen:l.length = (wds o).length:=by rw [<- hw,List.length_map]
 have tick:=zel h2 (by omega)
 have node:=zel (n:=o.Node) (by omega) (by omega)
 have oth:=zel (n:=o.Other) h6 (by omega)
 rw [ze3]
 unfold wds at hw hlen
 have a0:∃ x,l[0]? = some x/\x.Key = []/\x.Text = dec o.Tick:=zbv hw rfl
 have a1:∃ x,l[1]? = some x/\x.Key = []/\x.Text = 110 :: dec o.Node:=zbv hw rfl
 have a2:∃ x,l[2]? = some x/\x.Key = []/\x.Text = kw o.Kind:=zbv hw rfl
 obtain ⟨x0,b0,_,c0⟩:=a0
 obtain ⟨x1,b1,_,c1⟩:=a1
 obtain ⟨x2,b2,_,c2⟩:=a2
 rw [QT (oc0 b0 (by rw [c0]; exact tick)),QT (oc1 b1 c1 node),QT (oc2 b2 h1 c2)]
 dsimp only
 by_cases hk:o.Kind <= 10/\o.Kind ≠ 5
 ·rw [if_pos hk] at hw hlen
  have a3:∃ x,l[(3:Int).toNat]? = some x/\x.Key = [105,100]/\x.Text = keyT o.ID:=zbv hw rfl
  obtain ⟨x3,b3,d3,c3⟩:=a3
  rw [QT (zvu (by omega) (by omega) b3 d3 (by rw [c3]; exact zra (h8 hk) hs))]
  by_cases ho:o.Other ≠ 0
  ·rw [if_pos ho] at hw hlen
   have a4:∃ x,l[((3:Int) + 1).toNat]? = some x/\x.Key = [97,116]/\x.Text = dec o.Other:=zbv hw rfl
   obtain ⟨x4,b4,d4,c4⟩:=a4
   rw [QT (zu0 (by omega) (by omega) b4 d4 (by rw [c4]; exact oth)),zax (zoD (by rw [hlen]; simp))]
   rfl
  ·rw [if_neg ho] at hw hlen
   rw [zax (zoD (by rw [hlen]; simp))]
   exact congrArg some (zaT rfl rfl rfl rfl (by dsimp only; omega))
 ·rw [if_neg hk] at hw hlen
  have hz:=zoE h hk
  by_cases ho:o.Other ≠ 0
  ·rw [if_pos ho] at hw hlen
   have a4:∃ x,l[(3:Int).toNat]? = some x/\x.Key = [97,116]/\x.Text = dec o.Other:=zbv hw rfl
   obtain ⟨x4,b4,d4,c4⟩:=a4
   rw [QT (zu0 (by omega) (by omega) b4 d4 (by rw [c4]; exact oth)),zax (zoD (by rw [hlen]; simp))]
   exact congrArg some (zaT rfl rfl rfl hz.symm rfl)
  ·rw [if_neg ho] at hw hlen
   rw [zax (zoD (by rw [hlen]; simp))]
   exact congrArg some (zaT rfl rfl rfl hz.symm (by dsimp only; omega))
theorem zsY {o p:Outc} (h:OKO o) (hs:0 <= o.ID.Seq) (h':OKO p) (hs':0 <= p.ID.Seq) (e:wds o = wds p):o = p:=by
 have hm:((wds o).map mkW).map kt = wds o:=by
  rw [List.map_map]
  have:kt ∘ mkW = id:=by funext x; rfl
  rw [this,List.map_id]
 have h1:=zbW h hs hm
 have h2:=zbW h' hs' (hm.trans e)
 rw [h1] at h2
 exact Option.some.inj h2
end Go.Proofs.YtjcbpfhlgebgdaaGreatDoor
