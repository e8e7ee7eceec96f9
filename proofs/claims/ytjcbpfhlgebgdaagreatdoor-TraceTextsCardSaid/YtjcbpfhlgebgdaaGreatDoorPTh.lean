import Derived.Test.YtjcbpfhlgebgdaaGreatDoorPTe
open List renaming length_append -> zvN
set_option linter.unusedSimpArgs false
set_option linter.unusedVariables false
namespace Go.Proofs.YtjcbpfhlgebgdaaGreatDoor
open Go Go.Eng Go.RowKit Go.X Go.Seq
noncomputable def rcF (w_1:List Word):Int × Outc × Outc->Option (Yt (Int × Outc × Outc) ((Bool × Outc × Outc) ⊕ (Outc × Outc))):=fun (i_12,x_13,x_14) =>
    br (decide (i_12 < (w_1.length:Int)))
     ((idx w_1 i_12).bind fun x_15 =>
     br (x_15.Key == ([105,100]:List UInt8))
      ((idx w_1 i_12).bind fun x_16 =>
      (zy x_16.Text).bind fun (x_17,x_18) =>
      br (x_18 != (0:Int))
       (some (.done (.inl (false,x_14,x_14))))
       ((zD .i64 i_12 (1:Int)).bind fun x_19 =>
       some (.next (x_19,x_13,(⟨x_14.Tick,x_14.Node,x_14.Kind,x_17,x_14.Other⟩:Outc)))))
      ((idx w_1 i_12).bind fun x_20 =>
      (zg x_20.Text).bind fun (x_21,x_22) =>
      br (!x_22)
       (some (.done (.inl (false,x_14,x_14))))
       ((zD .i64 i_12 (1:Int)).bind fun x_23 =>
       some (.next (x_23,x_13,(⟨x_14.Tick,x_14.Node,x_14.Kind,x_14.ID,Go.IntKind.wrap .i64 x_21⟩:Outc))))))
     (some (.done (.inr (x_13,x_14))))
theorem zbX (w_1:List Word):zH w_1 =
 br (decide ((w_1.length:Int) < (3:Int)))
  (some ((⟨(0:Int),(0:Int),(0:Int),(⟨(0:Int),(0:Int),(0:Int)⟩:ID),(0:Int)⟩:Outc),false))
  ((idx w_1 (1:Int)).bind fun x_2 =>
  br (x_2.Text == ([]:List UInt8))
   (some ((⟨(0:Int),(0:Int),(0:Int),(⟨(0:Int),(0:Int),(0:Int)⟩:ID),(0:Int)⟩:Outc),false))
   ((idx w_1 (0:Int)).bind fun x_3 =>
   (zg x_3.Text).bind fun (x_4,x_5) =>
   (idx w_1 (1:Int)).bind fun x_6 =>
   (slc x_6.Text (1:Int) (x_6.Text.length:Int)).bind fun x_7 =>
   (zg x_7).bind fun (x_8,x_9) =>
   (idx w_1 (2:Int)).bind fun x_10 =>
   (yb x_10.Text).bind fun x_11 =>
   (qg (rcF w_1) ((3:Int),(⟨(0:Int),(0:Int),(0:Int),(⟨(0:Int),(0:Int),(0:Int)⟩:ID),(0:Int)⟩:Outc),(⟨Go.IntKind.wrap .i64 x_4,Go.IntKind.wrap .i64 x_8,x_11,(⟨(0:Int),(0:Int),(0:Int)⟩:ID),(0:Int)⟩:Outc))).bind fun x_29 =>
   Sum.elim
    (fun (x_24,x_25,x_26) =>
    some (x_25,x_24))
    (fun (x_27,x_28) =>
    br x_5
     (some (x_28,x_9))
     (some (x_28,false))) x_29)):=rfl
theorem zjz {s:List UInt8} (hs:s.length <= 1001):zg s = some (zpo s):=by rw [zsz,zrc hs]
theorem zjA {l:List Word} (h:zgE l):W (zH l) fun r=>0 <= r.1.ID.Seq:=by
 rw [zbX]
 obtain ⟨hl,hx0⟩:=h
 refine yn (fun _=>zx (Int.le_refl _)) fun h3=>?_
 refine Zj (by omega) (by omega) fun x1 hx1=>?_
 refine yn (fun _=>zx (Int.le_refl _)) fun hne=>?_
 have hx1l:=hx0 x1 (List.mem_of_getElem? hx1)
 refine Zj (by omega) (by omega) fun x0 hx0'=>?_
 have hx0l:=hx0 x0 (List.mem_of_getElem? hx0')
 refine yL (zjz hx0l.2) ?_
 dsimp only
 refine Zj (by omega) (by omega) fun x1' hx1'=>?_
 rw [hx1] at hx1'; cases hx1'
 have hpos:1 <= x1.Text.length:=List.length_pos_iff.2 hne
 have e:slc x1.Text 1 (x1.Text.length:Int) = some ((x1.Text.take x1.Text.length).drop 1):=by
  unfold slc; rw [if_pos ⟨by omega,by omega,by omega⟩,Int.toNat_natCast]; rfl
 refine yL e ?_
 refine yL (zjz (by simp; omega)) ?_
 try dsimp only
 refine Zj (by omega) (by omega) fun x2 hx2=>?_
 refine qM (ziA x2.Text) fun k hk=>?_
 refine Qg (fun s:Int × Outc × Outc=>0 <= s.1/\s.1 <= (l.length:Int)/\0 <= s.2.1.ID.Seq/\0 <= s.2.2.ID.Seq) (fun s=>l.length - s.1.toNat) ?_ ⟨by simp,by dsimp only; omega,Int.le_refl _,Int.le_refl _⟩
 rintro ⟨i,o,p⟩ ⟨i1,i2,i3,i4⟩
 dsimp only at i1 i2 i3 i4 ⊢
 unfold rcF
 dsimp only
 refine yn (fun hi=>?_) fun hi=>yK ?_
 rotate_left
 ·dsimp only [Sum.elim_inr]
  exact zkv (fun _=>zx i4) fun _=>zx i4
 refine Zj (by omega) (by omega) fun x hx=>?_
 have hxl:=hx0 x (List.mem_of_getElem? hx)
 refine yn (fun _=>?_) fun _=>?_
 ·refine Zj (by omega) (by omega) fun x' hx'=>?_
  rw [hx] at hx'; cases hx'
  obtain ⟨r,hr1,hr⟩:=zbT x.Text (by omega)
  have hp:=zoy hr1
  refine yL hr ?_
  obtain ⟨d,e⟩:=r
  dsimp only at hp ⊢
  refine yn (fun _=>yK (zx i4)) fun _=>?_
  exact ZW fun j hj=>qn ⟨⟨by dsimp only; omega,by dsimp only; omega,i3,hp⟩,by dsimp only; omega⟩
 ·refine Zj (by omega) (by omega) fun x' hx'=>?_
  rw [hx] at hx'; cases hx'
  refine yL (zjz hxl.2) ?_
  try dsimp only
  refine Zs (zkv (fun _=>?_) fun _=>yK (zx i4))
  exact ZW fun j hj=>qn ⟨⟨by dsimp only; omega,by dsimp only; omega,i3,i4⟩,by dsimp only; omega⟩
theorem zgN {n:Int} (h0:0 <= n) (h1:n <= 1125899906842624):zg (dec n) = some (n,true):=by
 have:=qb h0 (by omega)
 rw [zjz (by omega),zlh h0 h1]
theorem zvv {l:List Word} {a b:Outc} {x:Word} {d:ID} {i:Int} (h3:3 <= i) (hi:i < 1000) (hx:l[i.toNat]? = some x) (hk:x.Key = [105,100]) (h:zy x.Text = some (d,0)):rcF l (i,b,a) = some (.next (i + 1,b,⟨a.Tick,a.Node,a.Kind,d,a.Other⟩)):=by
 obtain ⟨e1,e2⟩:=zbd (i:=i) (by omega) hx
 unfold rcF
 simp only [e1,e2,br,cond_true,Option.bind_some,hk,h,cond_false,beq_self_eq_true,show ((0:Int) != 0) = false from rfl]
 rw [zm9 (by omega) (by omega)]; rfl
theorem zu1 {l:List Word} {a b:Outc} {x:Word} {n:Int} {i:Int} (h3:3 <= i) (hi:i < 1000) (hx:l[i.toNat]? = some x) (hk:x.Key = [97,116]) (h0:0 <= n) (h1:n <= 1125899906842624) (h:x.Text = dec n):rcF l (i,b,a) = some (.next (i + 1,b,⟨a.Tick,a.Node,a.Kind,a.ID,n⟩)):=by
 obtain ⟨e1,e2⟩:=zbd (i:=i) (by omega) hx
 have ew:IntKind.i64.wrap n = n:=by rw [IntKind.wrap_i64]; omega
 unfold rcF
 simp only [e1,e2,br,cond_true,Option.bind_some,hk,h,zgN h0 h1,cond_false,beq_self_eq_true,show (([97,116]:List UInt8) == [105,100]) = false from rfl,Bool.not_true,ew]
 rw [zm9 (by omega) (by omega)]; rfl
theorem zoF {l:List Word} {a b:Outc} {i:Int} (h:(l.length:Int) <= i):rcF l (i,b,a) = some (.done (.inr (b,a))):=by
 unfold rcF
 simp only [show decide (i < (l.length:Int)) = false from decide_eq_false (by omega),br,cond_false]
theorem zna {l:List Word} {i:Nat} {x:Word} (h:l[i]? = some x):idx l (i:Int) = some x:=by
 unfold idx; rw [if_pos (by omega),Int.toNat_natCast,h]
theorem zgO {l:List Word} {o:Outc} (h:OKO o) (hs:0 <= o.ID.Seq) (hw:l.map kt = wds o):zH l = some (o,true):=by
 obtain ⟨h1,h2,h3,h4,h5,h6,h7,h8⟩:=Qp h
 have hlen:l.length = (wds o).length:=by rw [<- hw,List.length_map]
 unfold wds at hw hlen
 have a0:∃ x,l[0]? = some x/\x.Key = []/\x.Text = dec o.Tick:=zbv hw rfl
 have a1:∃ x,l[1]? = some x/\x.Key = []/\x.Text = 110 :: dec o.Node:=zbv hw rfl
 have a2:∃ x,l[2]? = some x/\x.Key = []/\x.Text = kw o.Kind:=zbv hw rfl
 obtain ⟨x0,b0,_,c0⟩:=a0
 obtain ⟨x1,b1,_,c1⟩:=a1
 obtain ⟨x2,b2,_,c2⟩:=a2
 have e0:idx l 0 = some x0:=zna b0
 have e1:idx l 1 = some x1:=zna b1
 have e2:idx l 2 = some x2:=zna b2
 have h3l:¬ (l.length:Int) < 3:=by have:=(List.getElem?_eq_some_iff.1 b2).1; omega
 have es:slc (110 :: dec o.Node) 1 ((110 :: dec o.Node).length:Int) = some (dec o.Node):=by
  unfold slc; rw [if_pos ⟨by omega,by simp; omega,by omega⟩,Int.toNat_natCast]; simp
 have ew0:IntKind.i64.wrap o.Tick = o.Tick:=by rw [IntKind.wrap_i64]; omega
 have ew1:IntKind.i64.wrap o.Node = o.Node:=by rw [IntKind.wrap_i64]; omega
 refine W.eq ?_
 rw [zbX]
 refine yn (fun q=>absurd q h3l) fun _=>?_
 refine yL e1 ?_
 rw [c1]
 refine yn (fun q=>absurd q (List.cons_ne_nil _ _)) fun _=>?_
 refine yL e0 ?_
 rw [c0]
 refine yL (zgN h2 (by omega)) ?_
 dsimp only
 refine yL e1 ?_
 rw [c1]
 refine yL es ?_
 refine yL (zgN (by omega) (by omega)) ?_
 dsimp only
 refine yL e2 ?_
 rw [c2]
 refine yL (zm8 h1) ?_
 rw [ew0,ew1]
 by_cases hk:o.Kind <= 10/\o.Kind ≠ 5
 ·rw [if_pos hk] at hw hlen
  have a3:∃ x,l[(3:Int).toNat]? = some x/\x.Key = [105,100]/\x.Text = keyT o.ID:=zbv hw rfl
  obtain ⟨x3,b3,d3,c3⟩:=a3
  rw [QT (zvv (by omega) (by omega) b3 d3 (by rw [c3]; exact ze1 (h8 hk) hs))]
  by_cases ho:o.Other ≠ 0
  ·rw [if_pos ho] at hw hlen
   have a4:∃ x,l[((3:Int) + 1).toNat]? = some x/\x.Key = [97,116]/\x.Text = dec o.Other:=zbv hw rfl
   obtain ⟨x4,b4,d4,c4⟩:=a4
   rw [QT (zu1 (by omega) (by omega) b4 d4 h6 (by omega) c4),zax (zoF (by rw [hlen]; simp))]
   exact zx rfl
  ·rw [if_neg ho] at hw hlen
   rw [zax (zoF (by rw [hlen]; simp))]
   exact zx (congrArg (·,true) (zaT rfl rfl rfl rfl (by dsimp only; omega)))
 ·rw [if_neg hk] at hw hlen
  have hz:=zoE h hk
  by_cases ho:o.Other ≠ 0
  ·rw [if_pos ho] at hw hlen
   have a4:∃ x,l[(3:Int).toNat]? = some x/\x.Key = [97,116]/\x.Text = dec o.Other:=zbv hw rfl
   obtain ⟨x4,b4,d4,c4⟩:=a4
   rw [QT (zu1 (by omega) (by omega) b4 d4 h6 (by omega) c4),zax (zoF (by rw [hlen]; simp))]
   exact zx (congrArg (·,true) (zaT rfl rfl rfl hz.symm rfl))
  ·rw [if_neg ho] at hw hlen
   rw [zax (zoF (by rw [hlen]; simp))]
   exact zx (congrArg (·,true) (zaT rfl rfl rfl hz.symm (by dsimp only; omega)))
open Go Go.Eng Go.RowKit Go.X Go.Seq
theorem Qq {β:Type} {s t:List UInt8} {f:List UInt8->Option β} {Q:β->Prop} (h:s.length + t.length <= 1000000000) (k:W (f (s++t)) Q):W ((qQ s t).bind f) Q:=by
 unfold qQ
 rw [if_pos (Nat.le_trans h (by decide))]
 exact k
theorem zrd {β:Type} {S:List UInt8} {i:Int} {f:Int->Option β} {Q:β->Prop} (h0:0 <= i) (h:i < (S.length:Int)) (k:∀ c,0 <= c->c < 256->W (f c) Q):W ((yq S i).bind f) Q:=by
 obtain ⟨c,e,h1,h2⟩:=QS h0 h
 rw [e]
 exact k c h1 h2
theorem zuh {β:Type} {a:Int} {f:Int->Option β} {Q:β->Prop} (h0:0 <= a) (h1:a < 256) (k:∀ c,0 <= c->c < 16->W (f c) Q):W ((zez .u8 a 16).bind f) Q:=by
 have e:zez .u8 a 16 = some (a / 16):=by
  unfold zez
  rw [Int.tdiv_eq_ediv_of_nonneg h0,if_pos]
  refine ⟨by omega,?_⟩
  unfold InR
  rw [IntKind.wrap_u8]; omega
 rw [e]
 exact k _ (by omega) (by omega)
structure QI (t:List UInt8) (s:List Int × Int):Prop where
 i0:0 <= s.2
 i1:s.2 <= (t.length:Int)
 hd:s.1.head? = some 34
 by':∀ x ∈ s.1,0 <= x/\x < 256
 len:(s.1.length:Int) <= 1 + 4 * s.2
theorem QI.go {t:List UInt8} {out m:List Int} {i j:Int} (h:QI t (out,i)) (hj:j = i + 1) (hi:i < (t.length:Int)) (hm:∀ x ∈ m,0 <= x/\x < 256) (hl:m.length <= 4):QI t (out++m,j):=by
 obtain ⟨a,b,c,d,e⟩:=h
 dsimp only at a b c d e
 subst hj
 refine ⟨by dsimp only; omega,by dsimp only; omega,?_,fun x hx=>?_,by simp only [zvN]; omega⟩
 ·cases out with
  | nil=>cases c
  | cons x out=>exact c
 ·rcases List.mem_append.1 hx with hx | hx
  ·exact d x hx
  ·exact hm x hx
set_option maxHeartbeats 1000000 in
theorem zsZ {t:List UInt8} (ht:t.length <= 1001):W (ze t) fun q=>(Zh t = true/\q = t) ∨ (Zh t = false/\q.head? = some 34/\q.length <= 5000):=by
 unfold ze
 refine yL (zlk (by omega)) ?_
 refine zkv (fun h=>zx (.inl ⟨h,rfl⟩)) fun h=>?_
 refine qM (R:=fun out=>out.head? = some 34/\(∀ x ∈ out,0 <= x/\x < 256)/\out.length <= 4005) ?_ ?_
 ·refine zkw (fun s:List Int × Int=>QI t s) (fun s=>t.length - s.2.toNat) ?_ ⟨Int.le_refl _,by simp,rfl,by simp,by simp⟩
  rintro ⟨out,i⟩ hq
  have h0:=hq.i0
  have h1:=hq.i1
  have hl:=hq.len
  dsimp only at h0 h1 hl ⊢
  refine yn (fun hi=>?_) fun hi=>yK ⟨hq.hd,hq.by',by omega⟩
  refine zrd h0 hi fun c c0 c1=>?_
  have fin:∀ m:List Int,(∀ x ∈ m,0 <= x/\x < 256)->m.length <= 4->W ((app 1 out m).bind fun x=>(zD .i64 i 1).bind fun j=>some (Yt.next (ρ:=List Int) (x,j))) fun r=>match r with | .next s'=>QI t s'/\t.length - s'.2.toNat < t.length - i.toNat | .done r=>r.head? = some 34/\(∀ x ∈ r,0 <= x/\x < 256)/\r.length <= 4005:=by
   intro m hm hml
   refine zhC (by omega) ?_
   refine ZW fun j hj=>qn ⟨hq.go hj hi hm hml,by dsimp only; omega⟩
  refine yn (fun _=>(fin [92,c] (by intro x hx; simp at hx; omega) (by simp)).mono fun r hr=>by cases r <;> exact hr) fun _=>?_
  refine yn (fun _=>(fin [92,c] (by intro x hx; simp at hx; omega) (by simp)).mono fun r hr=>by cases r <;> exact hr) fun _=>?_
  refine yn (fun _=>(fin [92,110] (by intro x hx; simp at hx; omega) (by simp)).mono fun r hr=>by cases r <;> exact hr) fun _=>?_
  have hex:W ((zez .u8 c (16:Int)).bind fun x_12=>(yq ([48,49,50,51,52,53,54,55,56,57,97,98,99,100,101,102]:List UInt8) x_12).bind fun x_13=>(zhU c (16:Int)).bind fun x_14=>(yq ([48,49,50,51,52,53,54,55,56,57,97,98,99,100,101,102]:List UInt8) x_14).bind fun x_15=>(app 1 out ([(92:Int),(120:Int),x_13,x_15]:List Int)).bind fun x_16=>(zD .i64 i (1:Int)).bind fun x_17=>some (Yt.next (ρ:=List Int) (x_16,x_17))) fun r=>match r with | .next s'=>QI t s'/\t.length - s'.2.toNat < t.length - i.toNat | .done r=>r.head? = some 34/\(∀ x ∈ r,0 <= x/\x < 256)/\r.length <= 4005:=by
   refine zuh c0 c1 fun a a0 a1=>?_
   refine zrd a0 (by simp; omega) fun x x0 x1=>?_
   refine zr6 c0 (by omega) ?_
   rintro _ rfl
   refine zrd (by omega) (by simp; omega) fun y y0 y1=>?_
   exact fin [92,120,x,y] (by intro z hz; simp at hz; omega) (by simp)
  refine yn (fun _=>hex.mono fun r hr=>by cases r <;> exact hr) fun _=>?_
  refine yn (fun _=>hex.mono fun r hr=>by cases r <;> exact hr) fun _=>?_
  exact (fin [c] (by intro x hx; simp at hx; omega) (by simp)).mono fun r hr=>by cases r <;> exact hr
 ·rintro out ⟨o1,o2,o3⟩
  refine zhC (by simp; omega) ?_
  have e:Y7 (out++[34]) = some ((out++[34]).map fun n:Int=>UInt8.ofNat n.toNat):=by
   unfold Y7
   rw [if_pos]
   refine List.all_eq_true.2 fun x hx=>?_
   have:0 <= x/\x < 256:=by
    rcases List.mem_append.1 hx with hx | hx
    ·exact o2 x hx
    ·simp at hx; omega
   rw [Bool.and_eq_true]
   exact ⟨decide_eq_true this.1,decide_eq_true this.2⟩
  refine yL e (zx (.inr ⟨h,?_,by simp; omega⟩))
  cases out with
  | nil=>cases o1
  | cons x out =>
   simp only [List.head?_cons,Option.some.injEq] at o1
   subst o1
   rfl
noncomputable def qB (t:List UInt8):List UInt8:=(ze t).getD []
theorem zs0 {t:List UInt8} (ht:t.length <= 1001):ze t = some (qB t)/\((Zh t = true/\qB t = t) ∨ (Zh t = false/\(qB t).head? = some 34))/\(qB t).length <= 5000:=by
 obtain ⟨q,e,h⟩:=zsZ ht
 have:qB t = q:=by unfold qB; rw [e]; rfl
 rw [this]
 refine ⟨e,?_,?_⟩
 ·rcases h with ⟨a,b⟩ | ⟨a,b,_⟩
  ·exact .inl ⟨a,b⟩
  ·exact .inr ⟨a,b⟩
 ·rcases h with ⟨_,b⟩ | ⟨_,_,b⟩
  ·rw [b]; omega
  ·exact b
noncomputable def qw (x:Word):List UInt8 × List UInt8:=(x.Key,qB x.Text)
theorem zui {x:Word} (hk:x.Key.length <= 1001) (ht:x.Text.length <= 1001):(wT (qw x)).length <= 6010:=by
 have:=(zs0 ht).2.2
 unfold wT qw
 dsimp only
 split
 ·omega
 ·simp; omega
theorem zgP:∀ (ws:List (List UInt8 × List UInt8)) (w:List UInt8 × List UInt8),yB (ws++[w]) = yB ws++(if ws = [] then [] else [32])++wT w
 | [],w=>by simp [yB]
 | x :: ws,w=>by
  rw [List.cons_append,yB,if_neg (by simp),zgP ws w,yB,if_neg (List.cons_ne_nil _ _)]
  by_cases h:ws = []
  ·subst h; simp [yB]
  ·rw [if_neg h,if_neg h]; simp
def keyOK (x:Word):Prop:=x.Key = [] ∨ Yl x.Key = true
def Good (ws:List Word):Prop:=(∀ x ∈ ws,keyOK x)/\(yB (ws.map qw)).length <= 1000
structure LI (ws:List Word) (line:List UInt8) (k:Int):Prop where
 k0:0 <= k
 k1:k <= (ws.length:Int)
 ok:∀ x ∈ ws.take k.toNat,keyOK x
 eq:line = yB ((ws.take k.toNat).map qw)
 len:(line.length:Int) <= 6011 * k
theorem LI.go {ws:List Word} {line:List UInt8} {k j:Int} (h:LI ws line k) {x:Word} (hx:ws[k.toNat]? = some x) (hj:j = k + 1) (hk:keyOK x) (hkl:x.Key.length <= 1001) (htl:x.Text.length <= 1001) {line':List UInt8} (hl:line' = line++(if 0 < k then [32] else [])++wT (qw x)):LI ws line' j:=by
 obtain ⟨a,b,c,d,e⟩:=h
 have hlt:=(List.getElem?_eq_some_iff.1 hx).1
 have hw:=zui hkl htl
 subst hj
 have hn:(k + 1).toNat = k.toNat + 1:=by omega
 refine ⟨by omega,by omega,fun y hy=>?_,?_,?_⟩
 ·rw [hn,List.take_add_one,hx] at hy
  rcases List.mem_append.1 hy with hy | hy
  ·exact c y hy
  ·simp at hy; rw [hy]; exact hk
 ·rw [hn,List.take_add_one,hx,List.map_append,Option.toList_some,List.map_cons,List.map_nil,zgP,hl,d]
  congr 2
  by_cases h0:0 < k
  ·rw [if_pos h0,if_neg]
   intro q
   have q2:=congrArg List.length q
   rw [List.length_map,List.length_take,List.length_nil] at q2
   omega
  ·rw [if_neg h0,if_pos]
   have:k = 0:=by omega
   subst this
   simp
 ·have:line'.length <= line.length + 1 + 6010:=by
   have h1:(if 0 < k then [32] else ([]:List UInt8)).length <= 1:=by split <;> simp
   rw [hl,zvN,zvN]
   omega
  omega
set_option maxHeartbeats 1000000 in
theorem zpz (r:Row) (hr:zgE r.Words) (hne:r.Words ≠ []):W (ye [r]) fun x=>(¬ Good r.Words/\x.1 = []) ∨ (Good r.Words/\x.1 = yB (r.Words.map qw)++[10]):=by
 obtain ⟨hl,hx0⟩:=hr
 have hpos:1 <= r.Words.length:=List.length_pos_iff.2 hne
 unfold ye
 refine Qg (fun s:List UInt8 × Int=>(s.2 = 0/\s.1 = []) ∨ (s.2 = 1/\Good r.Words/\s.1 = yB (r.Words.map qw)++[10])) (fun s=>1 - s.2.toNat) ?_ (.inl ⟨rfl,rfl⟩)
 rintro ⟨out,i⟩ hI
 dsimp only at hI ⊢
 rcases hI with ⟨rfl,rfl⟩ | ⟨rfl,hg,he⟩
 rotate_left
 ·refine yn (fun h=>?_) fun h=>yK (zx (.inr ⟨hg,he⟩))
  simp only [List.length_cons,List.length_nil] at h
  omega
 refine yn (fun h=>?_) fun h=>?_
 rotate_left
 ·simp only [List.length_cons,List.length_nil] at h
  omega
 have ei:idx [r] (0:Int) = some r:=rfl
 refine yL ei ?_
 refine yn (fun h=>?_) fun _=>?_
 ·omega
 refine qM (R:=fun z=>(∃ y,z = Sum.inl y/\y.1 = ([]:List UInt8)/\¬ ∀ x ∈ r.Words,keyOK x) ∨ (∃ line,z = Sum.inr line/\(∀ x ∈ r.Words,keyOK x)/\line = yB (r.Words.map qw)/\line.length <= 6011000)) ?_ ?_
 ·refine zkw (fun s:List UInt8 × Int=>LI r.Words s.1 s.2) (fun s=>r.Words.length - s.2.toNat) ?_ ⟨Int.le_refl _,by simp,by simp,by simp [yB],by simp⟩
  rintro ⟨line,k⟩ hL
  have k0:=hL.k0
  have k1:=hL.k1
  have hll:=hL.len
  dsimp only at k0 k1 hL hll ⊢
  refine yL ei ?_
  refine yn (fun hk=>?_) fun hk=>?_
  rotate_left
  ·have hall:r.Words.take k.toNat = r.Words:=List.take_of_length_le (by omega)
   refine yK (.inr ⟨line,rfl,?_,?_,by omega⟩)
   ·have:=hL.ok; rwa [hall] at this
   ·have:=hL.eq; rwa [hall] at this
  refine yL ei ?_
  refine Zj k0 hk fun x hx=>?_
  have hm:=List.mem_of_getElem? hx
  obtain ⟨hkl,htl⟩:=hx0 x hm
  have hq:=zs0 htl
  have hqw:wT (qw x) = if x.Key = [] then qB x.Text else x.Key++61 :: qB x.Text:=rfl
  have hq5:=hq.2.2
  refine yn (fun hkey=>?_) fun hkey=>?_
  ·have hwT:wT (qw x) = x.Key++61 :: qB x.Text:=by rw [hqw,if_neg hkey]
   have hn:zJ x.Key = some (Yl x.Key):=by rw [zgy,zjv (by omega)]
   refine yL hn ?_
   refine Zs (zkv (fun hnb=>?_) fun hnb=>?_)
   ·have hok:keyOK x:=.inr hnb
    refine yn (fun h0=>?_) fun h0=>?_
    ·refine Qq (by simp; omega) ?_
     refine yn (fun _=>?_) fun q=>absurd hkey q
     refine Qq (by simp; omega) ?_
     refine Qq (by simp; omega) ?_
     refine yL hq.1 ?_
     refine Qq (by simp; omega) ?_
     refine ZW fun j hj=>qn ⟨hL.go hx hj hok hkl htl ?_,by dsimp only; omega⟩
     rw [hwT,if_pos h0]; simp
    ·refine yn (fun _=>?_) fun q=>absurd hkey q
     refine Qq (by omega) ?_
     refine Qq (by simp; omega) ?_
     refine yL hq.1 ?_
     refine Qq (by simp; omega) ?_
     refine ZW fun j hj=>qn ⟨hL.go hx hj hok hkl htl ?_,by dsimp only; omega⟩
     rw [hwT,if_neg h0]; simp
   ·refine yK (.inl ⟨_,rfl,rfl,fun q=>?_⟩)
    rcases q x hm with q | q
    ·exact hkey q
    ·rw [q] at hnb; cases hnb
  ·have hkey':x.Key = []:=Classical.byContradiction fun q=>hkey q
   have hok:keyOK x:=.inl hkey'
   have hwT:wT (qw x) = qB x.Text:=by rw [hqw,if_pos hkey']
   refine yn (fun h0=>?_) fun h0=>?_
   ·refine Qq (by simp; omega) ?_
    refine yn (fun q=>absurd q hkey) fun _=>?_
    refine yL hq.1 ?_
    refine Qq (by simp; omega) ?_
    refine ZW fun j hj=>qn ⟨hL.go hx hj hok hkl htl ?_,by dsimp only; omega⟩
    rw [hwT,if_pos h0]
   ·refine yn (fun q=>absurd q hkey) fun _=>?_
    refine yL hq.1 ?_
    refine Qq (by omega) ?_
    refine ZW fun j hj=>qn ⟨hL.go hx hj hok hkl htl ?_,by dsimp only; omega⟩
    rw [hwT,if_neg h0]; simp
 ·rintro z (⟨y,rfl,hy,hno⟩ | ⟨line,rfl,hok,hline,hlen⟩)
  ·obtain ⟨y1,y2⟩:=y
   dsimp only at hy
   subst hy
   exact yK (zx (.inl ⟨fun g=>hno g.1,rfl⟩))
  ·dsimp only [Sum.elim_inr]
   refine Qq (by simp; omega) ?_
   refine Qq (by simp; omega) ?_
   refine yn (fun hb=>yK (zx (.inl ⟨fun g=>?_,rfl⟩))) fun hb=>?_
   ·have:=g.2; rw [<- hline] at this; omega
   ·refine yn (fun hb2=>?_) fun hb2=>?_
    ·simp only [List.nil_append,zvN,List.length_cons,List.length_nil] at hb2
     omega
    ·refine ZW fun j hj=>qn ⟨.inr ⟨by dsimp only; omega,⟨hok,by rw [<- hline]; omega⟩,by dsimp only; rw [hline]; rfl⟩,by dsimp only; omega⟩
open Go Go.Eng Go.RowKit Go.X Go.Seq
theorem zpA {d:ID}:Zh (keyT d) = true:=by
 have all:∀ n:Int,((dec n).all fun c=>y7 (c.toNat:Int)) = true:=fun n=>(YL (zdA n)).1
 have hne:keyT d ≠ []:=by unfold keyT; simp
 have hh:(keyT d).head? ≠ some 35:=by
  obtain ⟨_,c,l,g2,g3,_⟩:=zcp (d.Node.toNat + 1) d.Node.toNat (by omega)
  have:dec d.Node = c :: l:=g2
  unfold keyT
  rw [this]
  simp only [List.cons_append,List.head?_cons,ne_eq,Option.some.injEq]
  exact g3
 unfold Zh
 rw [decide_eq_false hne,decide_eq_false hh]
 have:((keyT d).all fun c=>y7 (c.toNat:Int)) = true:=by
  unfold keyT
  simp only [List.all_append,all,List.all_cons,List.all_nil]
  rfl
 rw [this]; rfl
theorem zuj {n:Int}:Zh (110 :: dec n) = true:=by
 have:=(YL (zdA n)).1
 unfold Zh
 rw [decide_eq_false (List.cons_ne_nil _ _),decide_eq_false (by simp),List.all_cons,this]
 rfl
theorem zre {o:Outc} (h:OKO o):∀ w ∈ wds o,okW w:=by
 intro w hw
 unfold wds at hw
 have k1:Yl [105,100] = true:=by decide
 have k2:Yl [97,116] = true:=by decide
 simp only [List.mem_append,List.mem_cons,List.not_mem_nil,or_false] at hw
 rcases hw with (( rfl | rfl | rfl) | hw) | hw
 ·exact ⟨.inl rfl,zdA _⟩
 ·exact ⟨.inl rfl,zuj⟩
 ·exact ⟨.inl rfl,zov h.1⟩
 ·split at hw
  ·simp at hw; subst hw; exact ⟨.inr k1,zpA⟩
  ·cases hw
 ·split at hw
  ·simp at hw; subst hw; exact ⟨.inr k2,zdA _⟩
  ·cases hw
theorem zlx:∀ {ws:List (List UInt8 × List UInt8)} {c:UInt8},(∃ w ∈ ws,c ∈ wT w)->c ∈ yB ws
 | [],c,⟨w,hw,_⟩=>by cases hw
 | x :: ws,c,⟨w,hw,hc⟩=>by
  rw [yB,List.mem_append]
  rcases List.mem_cons.1 hw with rfl | hw
  ·exact .inl hc
  ·right
   rw [if_neg (by rintro rfl; cases hw)]
   exact List.mem_cons_of_mem _ (zlx ⟨w,hw,hc⟩)
theorem znb {t:List UInt8} (h:(t.all fun c=>y7 (c.toNat:Int)) = true):∀ c ∈ t,c ≠ 34:=fun c hc=>by
 have:=List.all_eq_true.1 h c hc
 rintro rfl
 exact absurd this (by decide)
theorem zs1 {w:List UInt8 × List UInt8} (hw:okW w):∀ c ∈ wT w,c ≠ 34:=by
 obtain ⟨hk,ht⟩:=hw
 have h2:=znb (YL ht).1
 intro c hc
 unfold wT at hc
 split at hc
 ·exact h2 c hc
 ·rename_i hk0
  rcases List.mem_append.1 hc with hc | hc
  ·rcases hk with hk | hk
   ·exact absurd hk hk0
   ·unfold Yl at hk
    rw [Bool.and_eq_true] at hk
    have:=zfL hk.1 c hc
    rintro rfl
    exact absurd this (by decide)
  ·rcases List.mem_cons.1 hc with rfl | hc
   ·decide
   ·exact h2 c hc
theorem ziB:∀ {ws:List (List UInt8 × List UInt8)},(∀ w ∈ ws,okW w)->∀ c ∈ yB ws,c ≠ 34
 | [],_,c,hc=>by cases hc
 | w :: ws,hw,c,hc=>by
  unfold yB at hc
  rcases List.mem_append.1 hc with hc | hc
  ·exact zs1 (hw w (List.mem_cons_self ..)) c hc
  ·split at hc
   ·cases hc
   ·rcases List.mem_cons.1 hc with rfl | hc
    ·decide
    ·exact ziB (fun x hx=>hw x (List.mem_cons_of_mem _ hx)) c hc
theorem zly:∀ {a b:List (List UInt8 × List UInt8)} {p q:Int},zcG p a = zcG q b->a = b
 | [],[],_,_,_=>rfl
 | [],_ :: _,_,_,h=>by cases h
 | _ :: _,[],_,_,h=>by cases h
 | x :: a,y :: b,p,q,h=>by
  simp only [zcG,List.cons.injEq,Prod.mk.injEq] at h
  obtain ⟨⟨_,h1,h2⟩,h3⟩:=h
  rw [zly h3,Prod.ext h1 h2]
theorem zrf {a b:List (List UInt8 × List UInt8)} (ha:∀ w ∈ a,okW w) (hb:∀ w ∈ b,okW w) (hl:(yB a).length <= 1000) (h:yB a = yB b):a = b:=by
 have h1:=zcq ha hl
 have h2:=zcq hb (by rw [<- h]; exact hl)
 rw [h,h2] at h1
 have h3:=Option.some.inj h1
 have h4:=congrArg (List.map Prod.fst) h3
 rw [List.map_map,List.map_map] at h4
 have e:(Prod.fst ∘ fun x:Wd=>(x,true)) = id:=rfl
 rw [e,List.map_id,List.map_id] at h4
 exact (zly h4).symm
theorem zs2 {ws:List Word} {o:Outc} (h:OKO o) (hs:0 <= o.ID.Seq) (hr:zgE ws) {x:List UInt8} (hx:(¬ Good ws/\x = []) ∨ (Good ws/\x = yB (ws.map qw)++[10])) :
  x = yB (wds o)++[10] ↔ ws.map kt = wds o:=by
 have hok:=zre h
 have hlen:=zdH h hs
 constructor
 ·intro e
  have hG:Good ws/\yB (ws.map qw) = yB (wds o):=by
   rcases hx with ⟨_,q⟩ | ⟨g,q⟩
   ·rw [q] at e
    have:=congrArg List.length e
    simp at this
   ·rw [q] at e
    exact ⟨g,List.append_cancel_right e⟩
  obtain ⟨⟨hk,hgl⟩,hj⟩:=hG
  have hb:∀ y ∈ ws,Zh y.Text = true/\qB y.Text = y.Text:=by
   intro y hy
   obtain ⟨_,h2,_⟩:=zs0 (hr.2 y hy).2
   rcases h2 with h2 | ⟨_,h2⟩
   ·exact h2
   ·exfalso
    have:(34:UInt8) ∈ wT (qw y):=by
     unfold wT qw
     dsimp only
     have hm:(34:UInt8) ∈ qB y.Text:=by
      cases hq:qB y.Text with
      | nil=>rw [hq] at h2; cases h2
      | cons c l=>rw [hq] at h2; simp only [List.head?_cons,Option.some.injEq] at h2; rw [h2]; simp
     split
     ·exact hm
     ·simp [hm]
    have:=zlx (ws:=ws.map qw) ⟨qw y,List.mem_map.2 ⟨y,hy,rfl⟩,this⟩
    rw [hj] at this
    exact ziB hok _ this rfl
  have hq:ws.map qw = ws.map kt:=by
   refine List.map_congr_left fun y hy=>?_
   unfold qw kt
   rw [(hb y hy).2]
  rw [hq] at hj hgl
  refine zrf (fun w hw=>?_) hok hgl hj
  obtain ⟨y,hy,rfl⟩:=List.mem_map.1 hw
  exact ⟨hk y hy,(hb y hy).1⟩
 ·intro e
  have hq:ws.map qw = ws.map kt:=by
   refine List.map_congr_left fun y hy=>?_
   have hm:kt y ∈ wds o:=by rw [<- e]; exact List.mem_map.2 ⟨y,hy,rfl⟩
   obtain ⟨_,h2,_⟩:=zs0 (hr.2 y hy).2
   unfold qw kt
   rcases h2 with ⟨_,h2⟩ | ⟨h2,_⟩
   ·rw [h2]
   ·have h3:Zh y.Text = true:=(hok _ hm).2
    rw [h2] at h3; cases h3
  have hG:Good ws:=by
   refine ⟨fun y hy=>?_,by rw [hq,e]; omega⟩
   have hm:kt y ∈ wds o:=by rw [<- e]; exact List.mem_map.2 ⟨y,hy,rfl⟩
   exact (hok _ hm).1
  rcases hx with ⟨q,_⟩ | ⟨_,q⟩
  ·exact absurd hG q
  ·rw [q,hq,e]
noncomputable def zbY (ws:List Word):Option Outc:=open Classical in if h:∃ o,OKO o/\0 <= o.ID.Seq/\ws.map kt = wds o then some h.choose else none
theorem zem {ws:List Word} {o:Outc} (h:OKO o) (hs:0 <= o.ID.Seq) (hw:ws.map kt = wds o):zbY ws = some o:=by
 have hex:∃ o,OKO o/\0 <= o.ID.Seq/\ws.map kt = wds o:=⟨o,h,hs,hw⟩
 unfold zbY
 rw [dif_pos hex]
 obtain ⟨a,b,c⟩:=hex.choose_spec
 rw [zsY a b h hs (c.symm.trans hw)]
theorem zaU {ws:List Word} (hn:¬ ∃ o,OKO o/\0 <= o.ID.Seq/\ws.map kt = wds o):zbY ws = none:=by
 unfold zbY; rw [dif_neg hn]
theorem zs3 (a b:List Word) (hl:a.length <= 1000):zT (a,b) = some (decide (a.map kt = b.map kt)):=by
 refine W.eq ?_
 unfold zT
 dsimp only
 refine yn (fun h=>zx ?_) fun h=>?_
 ·symm
  refine decide_eq_false fun q=>h ?_
  have:=congrArg List.length q
  rw [List.length_map,List.length_map] at this
  rw [this]
 have hlen:a.length = b.length:=by omega
 refine Qg (fun i:Int=>0 <= i/\i <= (a.length:Int)/\(a.take i.toNat).map kt = (b.take i.toNat).map kt) (fun i=>a.length - i.toNat) ?_ ⟨by omega,by omega,by simp⟩
 rintro i ⟨i1,i2,i3⟩
 refine yn (fun hi=>?_) fun hi=>?_
 ·refine Zj i1 hi fun x hx=>?_
  refine Zj i1 (by omega) fun y hy=>?_
  have hp:qe (x,y) = some (decide (kt x = kt y)):=by
   refine W.eq ?_
   unfold qe kt
   dsimp only
   refine yn (fun hk=>zx ?_) fun hk=>zx ?_
   ·rw [hk]
    by_cases ht:x.Text = y.Text
    ·rw [ht]; simp
    ·rw [decide_eq_false (fun q=>ht (congrArg Prod.snd q))]
     exact beq_false_of_ne ht
   ·exact (decide_eq_false fun q=>hk (congrArg Prod.fst q)).symm
  refine yL hp ?_
  refine Zs (zhA (fun hk=>?_) fun hk=>yK (zx ?_))
  ·refine ZW fun j hj=>qn ⟨⟨by omega,by omega,?_⟩,by omega⟩
   rw [show j.toNat = i.toNat + 1 from by omega,List.take_add_one,List.take_add_one,hx,hy,List.map_append,List.map_append,i3]
   simp [hk]
  ·symm
   refine decide_eq_false fun q=>hk ?_
   have:=congrArg (·[i.toNat]?) q
   simp only [List.getElem?_map,hx,hy,Option.map_some,Option.some.injEq] at this
   exact this
 ·refine yK (zx ?_)
  rw [List.take_of_length_le (by omega),List.take_of_length_le (by omega)] at i3
  exact (decide_eq_true i3).symm
theorem zu2 (ws:List (List UInt8 × List UInt8)):(ws.map mkW).map kt = ws:=by
 rw [List.map_map]
 have:kt ∘ mkW = id:=by funext x; rfl
 rw [this,List.map_id]
theorem zrg {ws:List Word} (h:zgE ws):∃ o e,yQ ws = some o/\qN o = some e/\((e ≠ 0/\zbY ws = none) ∨ (e = 0/\OKO o/\∃ r b,yC o = some r/\zT (ws,r) = some b/\((b = true/\zbY ws = some o) ∨ (b = false/\zbY ws = none)))):=by
 obtain ⟨o,e1,hs⟩:=zpy h
 obtain ⟨e,e2,ho⟩:=ztH o
 refine ⟨o,e,e1,e2,?_⟩
 have only:∀ p,OKO p->0 <= p.ID.Seq->ws.map kt = wds p->p = o:=fun p a b c=>by
  have:=zbW a b c
  rw [e1] at this
  exact (Option.some.inj this).symm
 by_cases hk:OKO o
 ·have he:e = 0:=by
   rcases ho with ⟨_,a⟩ | ⟨_,_,a⟩ | ⟨a,_⟩
   ·exact absurd hk.1 a
   ·exact absurd hk a
   ·exact a
  refine .inr ⟨he,hk,_,_,ztI hk hs,zs3 ws _ h.1,?_⟩
  rw [zu2]
  by_cases hw:ws.map kt = wds o
  ·exact .inl ⟨decide_eq_true hw,zem hk hs hw⟩
  ·refine .inr ⟨decide_eq_false hw,zaU ?_⟩
   rintro ⟨p,a,b,c⟩
   rw [only p a b c] at c
   exact hw c
 ·have he:e ≠ 0:=by
   rcases ho with ⟨a,_⟩ | ⟨a,_,_⟩ | ⟨_,a⟩
   ·omega
   ·omega
   ·exact absurd a hk
  refine .inl ⟨he,zaU ?_⟩
  rintro ⟨p,a,b,c⟩
  rw [only p a b c] at a
  exact hk a
theorem zs4 {r:Row} (h:zgE r.Words) (hne:r.Words ≠ []):∃ o is,zH r.Words = some (o,is)/\((is = false/\zbY r.Words = none) ∨ (is = true/\∃ e,z6 o = some e/\((e ≠ 0/\zbY r.Words = none) ∨ (e = 0/\∃ x y s,ye [r] = some (x,y)/\z7 o = some s/\s.length <= 199/\((x = s++[10]/\zbY r.Words = some o) ∨ (x ≠ s++[10]/\zbY r.Words = none)))))):=by
 obtain ⟨⟨o,is⟩,e1,hs⟩:=zjA h
 dsimp only at hs
 have only:∀ p,OKO p->0 <= p.ID.Seq->r.Words.map kt = wds p->p = o/\is = true:=fun p a b c=>by
  have:=zgO a b c
  rw [e1] at this
  have:=Option.some.inj this
  exact ⟨(congrArg Prod.fst this).symm,congrArg Prod.snd this⟩
 refine ⟨o,is,e1,?_⟩
 cases is with
 | false =>
  refine .inl ⟨rfl,zaU ?_⟩
  rintro ⟨p,a,b,c⟩
  exact absurd (only p a b c).2 (by decide)
 | true =>
  obtain ⟨e,e2,ho⟩:=zqZ o
  refine .inr ⟨rfl,e,e2,?_⟩
  by_cases hk:OKO o
  ·have he:e = 0:=by
    rcases ho with ⟨_,a⟩ | ⟨_,_,a⟩ | ⟨a,_⟩
    ·exact absurd hk.1 a
    ·exact absurd hk a
    ·exact a
   obtain ⟨⟨x,y⟩,e3,ht⟩:=zpz r h hne
   dsimp only at ht
   have hi:=zs2 hk hs h ht
   refine .inr ⟨he,x,y,_,e3,zlw hk hs,zdH hk hs,?_⟩
   by_cases hw:r.Words.map kt = wds o
   ·exact .inl ⟨hi.2 hw,zem hk hs hw⟩
   ·refine .inr ⟨fun q=>hw (hi.1 q),zaU ?_⟩
    rintro ⟨p,a,b,c⟩
    rw [(only p a b c).1] at c
    exact hw c
  ·have he:e ≠ 0:=by
    rcases ho with ⟨a,_⟩ | ⟨a,_,_⟩ | ⟨_,a⟩
    ·omega
    ·omega
    ·exact absurd a hk
   refine .inl ⟨he,zaU ?_⟩
   rintro ⟨p,a,b,c⟩
   rw [(only p a b c).1] at a
   exact hk a
end Go.Proofs.YtjcbpfhlgebgdaaGreatDoor
