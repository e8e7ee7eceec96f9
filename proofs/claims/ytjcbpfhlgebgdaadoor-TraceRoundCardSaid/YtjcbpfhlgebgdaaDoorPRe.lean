import Derived.Test.YtjcbpfhlgebgdaaDoorPRb
import Derived.Test.YtjcbpfhlgebgdaaDoorP3r
set_option linter.unusedSimpArgs false
set_option linter.unusedVariables false
namespace Go.Proofs.YtjcbpfhlgebgdaaDoor
open Go Go.Eng Go.RowKit Go.X Go.Seq
instance {a b:List UInt8}:BP (a == b) (a = b):=⟨fun h=>eq_of_beq h,fun h q=>by rw [q,beq_self_eq_true] at h; cases h⟩
theorem wdB_mk (w:List UInt8 × List UInt8):wdB (mkW w) = wT w:=by
 unfold wdB mkW wT
 split <;> simp
theorem lnB_false:∀ ws:List (List UInt8 × List UInt8),lnB false (ws.map mkW) = if ws = [] then [] else 32 :: joinW ws
 | []=>rfl
 | w :: ws=>by
  rw [List.map_cons,lnB,lnB_false ws,wdB_mk,if_neg (List.cons_ne_nil _ _),joinW]
  simp
theorem lnB_row (ws:List (List UInt8 × List UInt8)):lnB true (ws.map mkW) = joinW ws:=by
 cases ws with
 | nil=>rfl
 | cons w ws =>
  rw [List.map_cons,lnB,lnB_false,wdB_mk,joinW]
  simp
noncomputable def lineT (o:Outc):List UInt8:=joinW (wds o)++[10]
noncomputable def textT (l:List Outc):List UInt8:=l.flatMap lineT
theorem wds_join (o:Outc):joinW (wds o) = dec o.Tick++[32,110]++dec o.Node++[32]++kw o.Kind++(if o.Kind ≤ 10∧o.Kind ≠ 5 then [32,105,100,61]++keyT o.ID else [])++(if o.Other ≠ 0 then [32,97,116,61]++dec o.Other else []):=by
 unfold wds
 by_cases h1:o.Kind ≤ 10∧o.Kind ≠ 5 <;> by_cases h2:o.Other ≠ 0 <;>
  simp [h1,h2,joinW,wT]
theorem wds_len {o:Outc} (h:OKO o) (hs:0 ≤ o.ID.Seq):(joinW (wds o)).length ≤ 199:=by
 obtain ⟨h1,h2,h3,h4,h5,h6,h7,h8⟩:=oko_ranges h
 rw [wds_join]
 have a1:=dec_len20 (n:=o.Tick) h2 (by omega)
 have a2:=dec_len20 (n:=o.Node) (by omega) (by omega)
 have a3:=kw_len h1
 have a4:=dec_len20 (n:=o.Other) (by omega) (by omega)
 by_cases k1:o.Kind ≤ 10∧o.Kind ≠ 5
 ·have a5:=keyT_len (h8 k1) hs
  rw [if_pos k1]
  split <;> simp only [List.length_append,List.length_cons,List.length_nil] <;> omega
 ·rw [if_neg k1]
  split <;> simp only [List.length_append,List.length_cons,List.length_nil] <;> omega
theorem wds_ne (o:Outc):(wds o).map mkW ≠ []:=by unfold wds; simp
theorem wds_len5 (o:Outc):(wds o).length ≤ 5:=by unfold wds; split <;> split <;> simp
theorem tx_w:∀ (l:List Outc) (acc:List UInt8),(∀ o ∈ l,OKO o∧0 ≤ o.ID.Seq)→acc.length + l.length * 200 ≤ 1000000000→txF trace_row l acc = some (acc++textT l)
 | [],acc,_,_=>by simp [txF,textT]
 | o :: l,acc,h,hl=>by
  obtain ⟨ho,hs⟩:=h o (List.mem_cons_self ..)
  have hw:=wds_len ho hs
  have h5:=wds_len5 o
  rw [txF,row_w ho hs]
  simp only [Option.bind_some]
  rw [lnB_row]
  simp only [List.length_cons] at hl
  rw [if_pos ⟨wds_ne o,by rw [List.length_map]; omega,by simp only [List.length_append,List.length_cons,List.length_nil]; omega⟩]
  rw [tx_w l _ (fun x hx=>h x (List.mem_cons_of_mem _ hx)) (by simp only [List.length_append,List.length_cons,List.length_nil]; omega)]
  simp [textT,lineT]
def TX (l:List Outc) (r:List UInt8 × Int):Prop:=(∃ e n,CT l (e,n)∧e ≠ 0∧r = ([],e)) ∨ ((∃ n,CT l (0,n))∧((20000 < (textT l).length∧r = ([],4)) ∨ (¬ 20000 < (textT l).length∧r = (textT l,0))))
theorem TX.det {l:List Outc} {r r':List UInt8 × Int} (h:TX l r) (h':TX l r'):r = r':=by
 rcases h with ⟨e,n,h1,h2,rfl⟩ | ⟨⟨n,h1⟩,h2⟩ <;> rcases h' with ⟨e',n',h1',h2',rfl⟩ | ⟨⟨n',h1'⟩,h2'⟩
 ·have:=h1.det h1'; cases this; rfl
 ·have:=h1.det h1'; cases this; exact absurd rfl h2
 ·have:=h1'.det h1; cases this; exact absurd rfl h2'
 ·rcases h2 with ⟨a,rfl⟩ | ⟨a,rfl⟩ <;> rcases h2' with ⟨b,rfl⟩ | ⟨b,rfl⟩ <;> first | rfl | exact absurd a b | exact absurd b a
theorem valid_ct (l:List Outc):W (trace_valid l) fun e=>∃ n,CT l (e,n):=by
 unfold trace_valid
 refine W_call (check_s l) fun r hr=>?_
 obtain ⟨e,n⟩:=r
 exact W_ret ⟨n,hr⟩
theorem text_s (l:List Outc) (hl:l.length ≤ 100000) (hs:∀ o ∈ l,0 ≤ o.ID.Seq):W (trace_Text l) (TX l):=by
 unfold trace_Text
 rw [if_pos hl]
 refine W_call (valid_ct l) ?_
 rintro e ⟨n,hc⟩
 by_cases he:e = 0
 ·subst he
  rw [if_pos rfl]
  have ok:=hc.ok
  rw [tx_w l [] (fun o ho=>⟨ok.2.one o ho,hs o ho⟩) (by simp; omega)]
  simp only [Option.bind_some,List.nil_append]
  refine W_ret (.inr ⟨⟨n,hc⟩,?_⟩)
  by_cases h:20000 < (textT l).length
  ·exact .inl ⟨h,if_pos h⟩
  ·exact .inr ⟨h,if_neg h⟩
 ·rw [if_neg he]
  exact W_ret (.inl ⟨e,n,hc,he,rfl⟩)
theorem dec_ne (n:Int):dec n ≠ []:=by
 obtain ⟨_,c,l,h,_⟩:=dd_bare (n.toNat + 1) n.toNat (by omega)
 unfold dec
 rw [h]; simp
theorem words_all:∀ k ∈ [1,2,3,4,5,6,7,8,9,10,11,12,13,14,15],kws[k]? = some (kws.getD k []):=by decide +kernel
open Go Go.Eng Go.RowKit Go.X Go.Seq
theorem rdF_app:∀ (a b:List UInt8) (c:Nat) (v:Int),(rdF a c v).2.2 = []→rdF (a++b) c v = rdF b (rdF a c v).2.1 (rdF a c v).1
 | [],b,c,v,_=>rfl
 | x :: a,b,c,v,h=>by
  by_cases hx:48 ≤ x.toNat∧x.toNat ≤ 57∧c ≤ 13
  ·rw [rdF_go hx] at h
   rw [List.cons_append,rdF_go hx,rdF_go hx]
   exact rdF_app a b _ _ h
  ·rw [rdF_stop hx] at h
   cases h
theorem rdF_dd:∀ (k n:Nat),n < k→n < 10000000000000→rdF (Go.Lib.decDigits n) 0 0 = ((n:Int),(Go.Lib.decDigits n).length,[])
 | 0,n,h,_=>by omega
 | k + 1,n,h,hn=>by
  have one:∀ (d c:Nat) (v:Int),d < 10→c ≤ 13→0 ≤ v→v ≤ 1000000000000→rdF [UInt8.ofNat (48 + d)] c v = (10 * v + d,c + 1,[]):=by
   intro d c v hd hc hv hv2
   have e:(UInt8.ofNat (48 + d)).toNat = 48 + d:=by rw [UInt8.toNat_ofNat']; omega
   rw [rdF_go ⟨by omega,by omega,hc⟩,e,wrap_u64_id (n:=10 * v) (by omega) (by omega),wrap_u64_id (by omega) (by omega)]
   show ((_:Int),_,_) = _
   congr 1
   omega
  by_cases h10:n < 10
  ·rw [dd_lt h10,one n 0 0 h10 (by omega) (by omega) (by omega)]
   simp
  ·have ih:=rdF_dd k (n / 10) (by omega) (by omega)
   have hl:(Go.Lib.decDigits (n / 10)).length ≤ 13:=by
    have:=dec_len 12 ((n / 10:Nat):Int) (by omega) (by omega)
    unfold dec at this
    rwa [Int.toNat_natCast] at this
   rw [dd_ge h10,rdF_app _ _ _ _ (by rw [ih]),ih]
   dsimp only
   rw [one (n % 10) _ _ (by omega) (by omega) (by omega) (by omega)]
   simp only [List.length_append,List.length_cons,List.length_nil,Prod.mk.injEq,and_true]
   omega
theorem rdF_end {l:List UInt8} (h:stopL l) (c:Nat) (v:Int):rdF l c v = (v,c,l):=by
 cases l with
 | nil=>rfl
 | cons x l =>
  have:=h x rfl
  exact rdF_stop (by omega)
theorem part_dec {k:Nat} {n:Int} (h0:0 ≤ n) (h1:n < 10000000000000) {rest:List UInt8} (hr:stopL rest) {p:List Int} (hp:p.getD k 0 = 0):partF k (dec n++rest) p = some (rest,p.set k n):=by
 have e:rdF (dec n++rest) 0 0 = (n,(dec n).length,rest):=by
  have h:=rdF_dd (n.toNat + 1) n.toNat (by omega) (by omega)
  rw [Int.toNat_of_nonneg h0] at h
  unfold dec
  rw [rdF_app _ _ _ _ (by rw [h]),h]
  exact rdF_end hr _ _
 have hl:(dec n).length ≤ 13:=dec_len 12 n h0 (by omega)
 have hpos:1 ≤ (dec n).length:=List.length_pos_iff.2 (dec_ne n)
 unfold partF
 rw [hp,e]
 dsimp only
 rw [if_neg]
 rintro (h | h | ⟨h,h2⟩)
 ·omega
 ·omega
 ·obtain ⟨_,c,l,g2,g3,g4⟩:=dd_bare (n.toNat + 1) n.toNat (by omega)
  have hd:dec n = c :: l:=g2
  rw [hd] at h2 h
  simp only [List.cons_append,List.head?_cons,Option.some.injEq] at h2
  by_cases hn:1 ≤ n.toNat
  ·exact g4 hn h2
  ·have:n = 0:=by omega
   subst this
   rw [show dec 0 = [48] from by unfold dec; exact dd_lt (by decide)] at hd
   cases hd
   simp at h
theorem key_keyT {d:ID} (h:okID d) (hs:0 ≤ d.Seq):bundle_ParseKey (keyT d) = some (d,0):=by
 have hl:=keyT_len h hs
 have hc:bundle_CheckID d = some 0:=by
  obtain ⟨r,e,⟨rfl,_⟩ | ⟨_,hn⟩⟩:=checkID_s d
  ·exact e
  ·exact absurd h hn
 unfold okID at h
 have dot:∀ l:List UInt8,stopL (46 :: l):=fun l c hc=>by cases hc; exact .inl (by decide)
 have part:∀ (k:Nat) (n:Int) (rest:List UInt8) (p d:List Int),k < 3→0 ≤ n→n < 10000000000000→stopL rest→p.length = 3→d.length = 3→p.getD k 0 = 0→d.getD k 0 = 0→∃ m:Nat,1 ≤ m∧pkF (dec n++rest) k p d = pkF rest k (p.set k n) (d.set k (m:Int)):=by
  intro k n rest p d hk h0 h1 hr hp hd hpk hdk
  have e:=part_dec h0 h1 hr hpk
  rcases run_part hk (dec n++rest) p d hp hd hpk hdk with ⟨a,_⟩ | ⟨v,m,r,a,b,_,_,c⟩
  ·rw [e] at a; cases a
  ·rw [e] at a
   have a1:=congrArg Prod.fst (Option.some.inj a)
   have a2:=congrArg Prod.snd (Option.some.inj a)
   dsimp only at a1 a2
   exact ⟨m,b,by rw [c,← a1,← a2]⟩
 obtain ⟨m0,g0,e0⟩:=part 0 d.Node (46 :: (dec d.Seq++46 :: dec d.Off)) [0,0,0] [0,0,0] (by decide) (by omega) (by omega) (dot _) rfl rfl rfl rfl
 obtain ⟨m1,g1,e1⟩:=part 1 d.Seq (46 :: dec d.Off) [d.Node,0,0] [(m0:Int),0,0] (by decide) hs (by omega) (dot _) rfl rfl rfl rfl
 obtain ⟨m2,g2,e2⟩:=part 2 d.Off [] [d.Node,d.Seq,0] [(m0:Int),(m1:Int),0] (by decide) (by omega) (by omega) (fun c h=>by cases h) rfl rfl rfl rfl
 have e:pkF (keyT d) 0 [0,0,0] [0,0,0] = some ([d.Node,d.Seq,d.Off],[(m0:Int),(m1:Int),(m2:Int)]):=by
  unfold keyT
  simp only [List.append_assoc,List.cons_append,List.nil_append]
  rw [e0,pkF_dot (by decide),if_neg (by decide)]
  show pkF (dec d.Seq++46 :: dec d.Off) 1 [d.Node,0,0] [(m0:Int),0,0] = _
  rw [e1,pkF_dot (by decide),if_neg (by decide)]
  show pkF (dec d.Off) 2 [d.Node,d.Seq,0] [(m0:Int),(m1:Int),0] = _
  rw [List.append_nil] at e2
  rw [e2]
  rfl
 have w1:wrap64 d.Node = d.Node:=IntWalk.wrap64_in _ (by omega)
 have w2:wrap64 d.Off = d.Off:=IntWalk.wrap64_in _ (by omega)
 have hz:slices_Contains ([(m0:Int),(m1:Int),(m2:Int)],0) = some false:=by
  rw [contains3,decide_eq_false (by omega),decide_eq_false (by omega),decide_eq_false (by omega)]; rfl
 unfold bundle_ParseKey
 rw [if_pos (by omega),e]
 show ((slices_Contains ([(m0:Int),(m1:Int),(m2:Int)],0)).bind fun z=>if z then some ((⟨0,0,0⟩:ID),(3:Int)) else (bundle_CheckID ⟨wrap64 d.Node,d.Seq,wrap64 d.Off⟩).bind fun e=>if e ≠ 0 then some ((⟨0,0,0⟩:ID),e) else some ((⟨wrap64 d.Node,d.Seq,wrap64 d.Off⟩:ID),0)) = _
 rw [hz,w1,w2]
 show (bundle_CheckID d).bind _ = _
 rw [hc]
 rfl
theorem pkF_three:∀ (l:List UInt8) (k:Nat) (p d:List Int),p.length = 3→d.length = 3→∀ p' d',pkF l k p d = some (p',d')→p'.length = 3∧d'.length = 3
 | [],k,p,d,h,h',p',d',e=>by cases e; exact ⟨h,h'⟩
 | c :: l,k,p,d,h,h',p',d',e=>by
  by_cases h46:c.toNat = 46
  ·rw [pkF_dot h46] at e
   split at e
   ·cases e
   ·exact pkF_three l _ p d h h' p' d' e
  ·by_cases hc:48 ≤ c.toNat∧c.toNat ≤ 57
   ·rw [pkF_digit hc] at e
    split at e
    ·cases e
    ·exact pkF_three l k _ _ (by rw [List.length_set,h]) (by rw [List.length_set,h']) p' d' e
   ·rw [pkF_bad (by omega) h46] at e
    cases e
theorem ParseKey_tot (s:List UInt8) (hs:s.length ≤ 1000000):∃ r,bundle_ParseKey s = some r:=by
 unfold bundle_ParseKey
 rw [if_pos hs]
 have h3:=pkF_three s 0 [0,0,0] [0,0,0] rfl rfl
 generalize pkF s 0 [0,0,0] [0,0,0] = o at h3
 match o,h3 with
 | none,_=>exact ⟨_,rfl⟩
 | some (p,d),h3 =>
  obtain ⟨hp,hd⟩:=h3 p d rfl
  obtain ⟨p0,p1,p2,rfl⟩:=three hp
  obtain ⟨d0,d1,d2,rfl⟩:=three hd
  obtain ⟨r,e,_⟩:=checkID_s ⟨wrap64 p0,p1,wrap64 p2⟩
  show ∃ r:ID × Int,((slices_Contains ([d0,d1,d2],0)).bind fun z=>if z then some (⟨0,0,0⟩,3) else (bundle_CheckID ⟨wrap64 p0,p1,wrap64 p2⟩).bind fun e=>if e ≠ 0 then some (⟨0,0,0⟩,e) else some (⟨wrap64 p0,p1,wrap64 p2⟩,0)) = some r
  rw [contains3]
  simp only [Option.bind_some]
  split
  ·exact ⟨_,rfl⟩
  ·rw [e]
   simp only [Option.bind_some]
   split
   ·exact ⟨_,rfl⟩
   ·exact ⟨_,rfl⟩
theorem pkF_pos:∀ (l:List UInt8) (k:Nat) (p d:List Int),(∀ x ∈ p,0 ≤ x)→∀ p' d',pkF l k p d = some (p',d')→∀ x ∈ p',0 ≤ x
 | [],k,p,d,h,p',d',e=>by cases e; exact h
 | c :: l,k,p,d,h,p',d',e=>by
  by_cases h46:c.toNat = 46
  ·rw [pkF_dot h46] at e
   split at e
   ·cases e
   ·exact pkF_pos l _ p d h p' d' e
  ·by_cases hc:48 ≤ c.toNat∧c.toNat ≤ 57
   ·rw [pkF_digit hc] at e
    split at e
    ·cases e
    ·refine pkF_pos l k _ _ (fun x hx=>?_) p' d' e
     rcases List.mem_or_eq_of_mem_set hx with hx | hx
     ·exact h x hx
     ·rw [hx,IntKind.wrap_u64]; omega
   ·rw [pkF_bad (by omega) h46] at e
    cases e
theorem key_pos {s:List UInt8} {r:ID × Int} (h:bundle_ParseKey s = some r):0 ≤ r.1.Seq:=by
 unfold bundle_ParseKey at h
 split at h
 ·have hp:=pkF_pos s 0 [0,0,0] [0,0,0] (by simp)
  generalize pkF s 0 [0,0,0] [0,0,0] = o at h hp
  match o,h,hp with
  | none,h,_=>cases h; exact Int.le_refl _
  | some (p,d),h,hp =>
   have hq:=hp p d rfl
   match p,h,hq with
   | [p0,p1,p2],h,hq =>
    have h1:0 ≤ p1:=hq p1 (by simp)
    have h':((slices_Contains (d,0)).bind fun z=>if z then some (⟨0,0,0⟩,3) else (bundle_CheckID ⟨wrap64 p0,p1,wrap64 p2⟩).bind fun e=>if e ≠ 0 then some (⟨0,0,0⟩,e) else some (⟨wrap64 p0,p1,wrap64 p2⟩,0)) = some r:=h
    obtain ⟨z,_,h'⟩:=Option.bind_eq_some_iff.1 h'
    split at h'
    ·cases h'; exact Int.le_refl _
    ·obtain ⟨e,_,h'⟩:=Option.bind_eq_some_iff.1 h'
     split at h'
     ·cases h'; exact Int.le_refl _
     ·cases h'; exact h1
   | [],h,_=>cases h
   | [_],h,_=>cases h
   | [_,_],h,_=>cases h
   | _ :: _ :: _ :: _ :: _,h,_=>cases h
 ·cases h
noncomputable def facesL:List Face:=(tblL .Face 0 2 16 (0)).getD []
theorem faces_w:tblL .Face 0 2 16 (0) = some facesL:=by kernel_rfl
theorem faces_words:facesL.map (·.word) = kws:=by kernel_rfl
theorem kws_nodup:kws.Nodup:=by decide +kernel
theorem kws_len:kws.length = 16:=by decide +kernel
theorem facesL_len:facesL.length = 16:=by
 have:=congrArg List.length faces_words
 rwa [List.length_map,kws_len] at this
def mt (x:Word) (f:Face):Prop:=f.word ≠ []∧f.word = x.Text
theorem index_w (x:Word):W (slices_IndexFunc_f136 facesL x) fun r=>r.2 = x∧-1 ≤ r.1∧r.1 ≤ 15 ∧
  ((r.1 = -1∧∀ f ∈ facesL,¬ mt x f) ∨ ∃ f,0 ≤ r.1∧facesL[r.1.toNat]? = some f∧mt x f):=by
 have h16:=facesL_len
 unfold slices_IndexFunc_f136
 refine W_loop (fun s=>0 ≤ s.1∧s.1 ≤ (facesL.length:Int)∧s.2 = x∧∀ (j:Nat) d,j < s.1.toNat→facesL[j]? = some d→¬ mt x d) (fun s=>facesL.length - s.1.toNat) ?_ ⟨by simp,by simp,rfl,by simp⟩
 rintro ⟨i,y⟩ ⟨i1,i2,i3,i4⟩
 dsimp only at i1 i2 i3 i4 ⊢
 subst i3
 refine W_if (fun hi=>?_) fun hi=>?_
 ·refine W_idx i1 (by omega) fun f hf=>?_
  have hq:W (trace_outcome_1 f y) fun r=>r.2 = y∧(r.1 = true ↔ mt y f):=by
   unfold trace_outcome_1 mt
   refine W_if (fun h=>W_ret ⟨rfl,?_⟩) fun h=>W_ret ⟨rfl,?_⟩
   ·dsimp only
    rw [beq_iff_eq]
    exact ⟨fun e=>⟨h,e⟩,fun e=>e.2⟩
   ·exact ⟨fun e=>(by cases e),fun e=>absurd e.1 h⟩
  refine W_call hq ?_
  rintro ⟨b,y'⟩ ⟨rfl,hb⟩
  dsimp only at hb ⊢
  refine W_br (fun h=>W_done (W_ret ⟨rfl,by dsimp only; omega,by dsimp only; omega,.inr ⟨f,i1,hf,hb.1 h⟩⟩)) fun h=>?_
  refine W_op fun j hj=>W_next ⟨⟨by dsimp only; omega,by dsimp only; omega,rfl,fun k d hk hd=>?_⟩,by dsimp only; omega⟩
  dsimp only at hk
  by_cases hki:k = i.toNat
  ·subst hki; rw [hf] at hd; cases hd
   exact fun q=>by rw [hb.2 q] at h; cases h
  ·exact i4 k d (by omega) hd
 ·refine W_done (W_ret ⟨rfl,by dsimp only; omega,by dsimp only; omega,.inl ⟨rfl,fun c hc=>?_⟩⟩)
  obtain ⟨j,hj⟩:=List.mem_iff_getElem?.1 hc
  exact i4 j c (by have:=(List.getElem?_eq_some_iff.1 hj).1; omega) hj
theorem kws_at {k:Int} (h:okKind k):kws[k.toNat]? = some (kw k):=words_all _ (mem15 h)
theorem kw_ne {k:Int} (h:okKind k):kw k ≠ []:=(bareB_all (kw_bare h)).2.1
theorem kws_inj {i:Nat} {k:Int} (h:okKind k) (hi:kws[i]? = some (kw k)):i = k.toNat:=by
 have h1:=List.getElem?_eq_some_iff.1 hi
 have h2:=List.getElem?_eq_some_iff.1 (kws_at h)
 obtain ⟨a1,a2⟩:=h1
 obtain ⟨b1,b2⟩:=h2
 exact (List.getElem_inj kws_nodup).1 (a2.trans b2.symm)
theorem index_kw {k:Int} (h:okKind k) (x:Word) (hx:x.Text = kw k):slices_IndexFunc_f136 facesL x = some (k,x):=by
 refine W.eq ((index_w x).mono ?_)
 rintro ⟨i,y⟩ ⟨h1,_,_,h2⟩
 dsimp only at h1 h2
 subst h1
 have hw:∀ j:Nat,kws[j]? = (facesL[j]?).map (·.word):=fun j=>by rw [← faces_words,List.getElem?_map]
 rcases h2 with ⟨_,hno⟩ | ⟨f,h0,hf,hm⟩
 ·have hk:=kws_at h
  rw [hw] at hk
  cases hq:facesL[k.toNat]? with
  | none=>rw [hq] at hk; cases hk
  | some f =>
   rw [hq] at hk
   have hk':f.word = kw k:=by simpa using hk
   exact absurd ⟨by rw [hk']; exact kw_ne h,by rw [hk',hx]⟩ (hno f (List.mem_of_getElem? hq))
 ·have hk:=hw i.toNat
  rw [hf,Option.map_some,hm.2,hx] at hk
  have:=kws_inj h hk
  unfold okKind at h
  have:i = k:=by omega
  rw [this]
open Go Go.Eng Go.RowKit Go.X Go.Seq
def kt (x:Word):List UInt8 × List UInt8:=(x.Key,x.Text)
theorem num_w {s:List UInt8} (hs:s.length ≤ 1001):words_Number s = some (numB s):=words_num (by omega)
theorem small_s {s:List UInt8} (hs:s.length ≤ 1001):W (trace_small s) fun _=>True:=by
 unfold trace_small
 refine W_eq (num_w hs) ?_
 dsimp only
 exact W_br (fun _=>W_ret trivial) fun _=>W_ret trivial
theorem small_dec {n:Int} (h0:0 ≤ n) (h1:n ≤ 1125899906842624):trace_small (dec n) = some n:=by
 have:=dec_len20 h0 (by omega)
 refine W.eq ?_
 unfold trace_small
 refine W_eq (num_w (by omega)) ?_
 rw [numB_dec h0 h1]
 dsimp only
 refine W_brF (W_ret ?_)
 rw [IntKind.wrap_i64]; omega
theorem trim_s {s:List UInt8}:W (strings_TrimPrefix (s,[110])) fun r=>r.length ≤ s.length:=by
 unfold strings_TrimPrefix
 refine W_call (R:=fun r=>r.length ≤ s.length) ?_ fun r hr=>W_ret hr
 unfold internal_stringslite_TrimPrefix
 refine W_call (R:=fun r=>r = true→1 ≤ s.length) ?_ fun r hr=>?_
 ·unfold internal_stringslite_HasPrefix
  refine W_if (fun h=>?_) fun h=>W_ret (by simp)
  simp only [List.length_cons,List.length_nil] at h
  have e:slc s 0 (([110]:List UInt8).length:Int) = some ((s.take 1).drop 0):=by
   unfold slc; rw [if_pos ⟨by omega,by simp,by simp; omega⟩]; rfl
  refine W_eq e (W_ret fun _=>by omega)
 ·refine W_br (fun h=>?_) fun h=>W_ret (Nat.le_refl _)
  have:=hr h
  have e:slc s (([110]:List UInt8).length:Int) (s.length:Int) = some ((s.take s.length).drop 1):=by
   unfold slc; rw [if_pos ⟨by simp,by simp; omega,by simp⟩,Int.toNat_natCast]; rfl
  refine W_eq e (W_ret ?_)
  simp
theorem trim_n (s:List UInt8):strings_TrimPrefix (110 :: s,[110]) = some s:=by
 have e1:slc (110 :: s) 0 (([110]:List UInt8).length:Int) = some [110]:=by
  unfold slc; rw [if_pos ⟨by omega,by simp,by simp; omega⟩]; rfl
 have e2:slc (110 :: s) (([110]:List UInt8).length:Int) ((110 :: s).length:Int) = some s:=by
  unfold slc; rw [if_pos ⟨by simp,by simp; omega,by simp⟩,Int.toNat_natCast]; simp
 refine W.eq ?_
 unfold strings_TrimPrefix internal_stringslite_TrimPrefix internal_stringslite_HasPrefix
 dsimp only
 refine W_call (R:=fun r=>r = s) ?_ fun r hr=>W_ret hr
 refine W_call (R:=fun r=>r = true) ?_ fun r hr=>?_
 ·refine W_if (fun h=>W_eq e1 (W_ret (by simp))) fun h=>?_
  simp at h
  omega
 ·subst hr
  exact W_brT (W_eq e2 (W_ret rfl))
noncomputable def ocF (l_1:List Word):Int × Outc→Option (Step (Int × Outc) Outc):=fun (x_2,x_3) =>
  br (decide (x_2 < (l_1.length:Int)))
   ((idx l_1 x_2).bind fun x_4 =>
   br (x_2 == (0:Int))
    ((trace_small x_4.Text).bind fun x_5 =>
    (addI .i64 x_2 (1:Int)).bind fun x_6 =>
    some (.next (x_6,(⟨x_5,x_3.Node,x_3.Kind,x_3.ID,x_3.Other⟩:Outc))))
    (br (x_2 == (1:Int))
     ((strings_TrimPrefix (x_4.Text,([110]:List UInt8))).bind fun x_7 =>
     (trace_small x_7).bind fun x_8 =>
     (addI .i64 x_2 (1:Int)).bind fun x_9 =>
     some (.next (x_9,(⟨x_3.Tick,x_8,x_3.Kind,x_3.ID,x_3.Other⟩:Outc))))
     (br (x_2 == (2:Int))
      ((tblL .Face 0 2 16 (0)).bind fun x_10 =>
      (slices_IndexFunc_f136 x_10 x_4).bind fun (x_11,x_12) =>
      (addI .i64 x_2 (1:Int)).bind fun x_13 =>
      some (.next (x_13,(⟨x_3.Tick,x_3.Node,x_11,x_3.ID,x_3.Other⟩:Outc))))
      (br (x_4.Key == ([105,100]:List UInt8))
       ((bundle_ParseKey x_4.Text).bind fun (x_14,x_15) =>
       (addI .i64 x_2 (1:Int)).bind fun x_16 =>
       some (.next (x_16,(⟨x_3.Tick,x_3.Node,x_3.Kind,x_14,x_3.Other⟩:Outc))))
       (br (x_4.Key == ([97,116]:List UInt8))
        ((trace_small x_4.Text).bind fun x_17 =>
        (addI .i64 x_2 (1:Int)).bind fun x_18 =>
        some (.next (x_18,(⟨x_3.Tick,x_3.Node,x_3.Kind,x_3.ID,x_17⟩:Outc))))
        ((addI .i64 x_2 (1:Int)).bind fun x_19 =>
        some (.next (x_19,x_3))))))))
   (some (.done x_3))
theorem outcome_def (l:List Word):trace_outcome l = (iter (ocF l) ((0:Int),(⟨0,0,0,⟨0,0,0⟩,0⟩:Outc))).bind fun x=>some x:=rfl
theorem outcome_s {l:List Word} (h:okRow l):W (trace_outcome l) fun o=>0 ≤ o.ID.Seq:=by
 rw [outcome_def]
 refine W_loop (fun s=>0 ≤ s.1∧s.1 ≤ (l.length:Int)∧0 ≤ s.2.ID.Seq) (fun s=>l.length - s.1.toNat) ?_ ⟨by simp,by simp,Int.le_refl _⟩
 rintro ⟨i,o⟩ ⟨i1,i2,i3⟩
 dsimp only at i1 i2 i3 ⊢
 obtain ⟨hl,hx0⟩:=h
 unfold ocF
 dsimp only
 refine W_if (fun hi=>?_) fun hi=>W_done (W_ret i3)
 refine W_idx (by omega) (by omega) fun x hx=>?_
 have hxl:=hx0 x (List.mem_of_getElem? hx)
 refine W_if (fun _=>?_) fun _=>?_
 ·refine W_call (small_s hxl.2) fun n _=>?_
  exact W_op fun j hj=>W_next ⟨⟨by dsimp only; omega,by dsimp only; omega,i3⟩,by dsimp only; omega⟩
 refine W_if (fun _=>?_) fun _=>?_
 ·refine W_call trim_s fun r hr=>?_
  refine W_call (small_s (Nat.le_trans hr hxl.2)) fun n _=>?_
  exact W_op fun j hj=>W_next ⟨⟨by dsimp only; omega,by dsimp only; omega,i3⟩,by dsimp only; omega⟩
 refine W_if (fun _=>?_) fun _=>?_
 ·refine W_eq faces_w ?_
  refine W_call (index_w x) ?_
  rintro ⟨k,y⟩ _
  dsimp only
  exact W_op fun j hj=>W_next ⟨⟨by dsimp only; omega,by dsimp only; omega,i3⟩,by dsimp only; omega⟩
 refine W_if (fun _=>?_) fun _=>?_
 ·obtain ⟨r,hr⟩:=ParseKey_tot x.Text (by omega)
  have hp:=key_pos hr
  refine W_eq hr ?_
  obtain ⟨d,e⟩:=r
  dsimp only at hp ⊢
  exact W_op fun j hj=>W_next ⟨⟨by dsimp only; omega,by dsimp only; omega,hp⟩,by dsimp only; omega⟩
 refine W_if (fun _=>?_) fun _=>?_
 ·refine W_call (small_s hxl.2) fun n _=>?_
  exact W_op fun j hj=>W_next ⟨⟨by dsimp only; omega,by dsimp only; omega,i3⟩,by dsimp only; omega⟩
 ·exact W_op fun j hj=>W_next ⟨⟨by dsimp only; omega,by dsimp only; omega,i3⟩,by dsimp only; omega⟩
theorem add1 {i:Int} (h:0 ≤ i) (h2:i < 1000000):addI .i64 i 1 = some (i + 1):=addI_ok (by omega)
theorem oc_step {l:List Word} {i:Int} {x:Word} (h0:0 ≤ i) (hx:l[i.toNat]? = some x):decide (i < (l.length:Int)) = true∧idx l i = some x:=by
 have:=(List.getElem?_eq_some_iff.1 hx).1
 refine ⟨decide_eq_true (by omega),?_⟩
 unfold idx
 rw [if_pos h0,hx]
theorem oc0 {l:List Word} {a:Outc} {x:Word} {n:Int} (hx:l[0]? = some x) (h:trace_small x.Text = some n):ocF l (0,a) = some (.next (1,⟨n,a.Node,a.Kind,a.ID,a.Other⟩)):=by
 obtain ⟨e1,e2⟩:=oc_step (i:=0) (by omega) hx
 unfold ocF
 simp only [e1,e2,br,cond_true,Option.bind_some,beq_self_eq_true,h]
 rw [add1 (by omega) (by omega)]; rfl
theorem oc1 {l:List Word} {a:Outc} {x:Word} {s:List UInt8} {n:Int} (hx:l[1]? = some x) (h1:x.Text = 110 :: s) (h:trace_small s = some n):ocF l (1,a) = some (.next (2,⟨a.Tick,n,a.Kind,a.ID,a.Other⟩)):=by
 obtain ⟨e1,e2⟩:=oc_step (i:=1) (by omega) hx
 unfold ocF
 simp only [e1,e2,br,cond_true,Option.bind_some,beq_self_eq_true,h,h1,trim_n,show ((1:Int) == 0) = false from rfl,cond_false]
 rw [add1 (by omega) (by omega)]; rfl
theorem oc2 {l:List Word} {a:Outc} {x:Word} {k:Int} (hx:l[2]? = some x) (hk:okKind k) (h:x.Text = kw k):ocF l (2,a) = some (.next (3,⟨a.Tick,a.Node,k,a.ID,a.Other⟩)):=by
 obtain ⟨e1,e2⟩:=oc_step (i:=2) (by omega) hx
 unfold ocF
 simp only [e1,e2,br,cond_true,Option.bind_some,beq_self_eq_true,faces_w,index_kw hk x h,show ((2:Int) == 0) = false from rfl,show ((2:Int) == 1) = false from rfl,cond_false]
 rw [add1 (by omega) (by omega)]; rfl
theorem ocId {l:List Word} {a:Outc} {x:Word} {d:ID} {e:Int} {i:Int} (h3:3 ≤ i) (hi:i < 1000) (hx:l[i.toNat]? = some x) (hk:x.Key = [105,100]) (h:bundle_ParseKey x.Text = some (d,e)):ocF l (i,a) = some (.next (i + 1,⟨a.Tick,a.Node,a.Kind,d,a.Other⟩)):=by
 obtain ⟨e1,e2⟩:=oc_step (i:=i) (by omega) hx
 unfold ocF
 simp only [e1,e2,br,cond_true,Option.bind_some,hk,h,show (i == 0) = false from beq_false_of_ne (by omega),show (i == 1) = false from beq_false_of_ne (by omega),show (i == 2) = false from beq_false_of_ne (by omega),cond_false,beq_self_eq_true]
 rw [add1 (by omega) (by omega)]; rfl
theorem ocAt {l:List Word} {a:Outc} {x:Word} {n:Int} {i:Int} (h3:3 ≤ i) (hi:i < 1000) (hx:l[i.toNat]? = some x) (hk:x.Key = [97,116]) (h:trace_small x.Text = some n):ocF l (i,a) = some (.next (i + 1,⟨a.Tick,a.Node,a.Kind,a.ID,n⟩)):=by
 obtain ⟨e1,e2⟩:=oc_step (i:=i) (by omega) hx
 unfold ocF
 simp only [e1,e2,br,cond_true,Option.bind_some,hk,h,show (i == 0) = false from beq_false_of_ne (by omega),show (i == 1) = false from beq_false_of_ne (by omega),show (i == 2) = false from beq_false_of_ne (by omega),cond_false,beq_self_eq_true,show (([97,116]:List UInt8) == [105,100]) = false from rfl]
 rw [add1 (by omega) (by omega)]; rfl
theorem ocEnd {l:List Word} {a:Outc} {i:Int} (h:(l.length:Int) ≤ i):ocF l (i,a) = some (.done a):=by
 unfold ocF
 simp only [show decide (i < (l.length:Int)) = false from decide_eq_false (by omega),br,cond_false]
theorem it_next {σ ρ:Type} {F:σ→Option (Step σ ρ)} {s s':σ} (h:F s = some (.next s')):iter F s = iter F s':=by rw [iter_eq,h]
theorem it_done {σ ρ:Type} {F:σ→Option (Step σ ρ)} {s:σ} {r:ρ} (h:F s = some (.done r)):iter F s = some r:=by rw [iter_eq,h]
theorem outc_ext {o p:Outc} (h1:o.Tick = p.Tick) (h2:o.Node = p.Node) (h3:o.Kind = p.Kind) (h4:o.ID = p.ID) (h5:o.Other = p.Other):o = p:=by
 cases o; cases p; simp_all
theorem kt_at {l:List Word} {ws:List (List UInt8 × List UInt8)} (h:l.map kt = ws) {i:Nat} {k t:List UInt8} (hi:ws[i]? = some (k,t)):∃ x,l[i]? = some x∧x.Key = k∧x.Text = t:=by
 rw [← h,List.getElem?_map] at hi
 cases hq:l[i]? with
 | none=>rw [hq] at hi; cases hi
 | some x =>
  rw [hq] at hi
  simp only [Option.map_some,Option.some.injEq] at hi
  exact ⟨x,rfl,congrArg Prod.fst hi,congrArg Prod.snd hi⟩
theorem id_zero {o:Outc} (h:OKO o) (hk:¬ (o.Kind ≤ 10∧o.Kind ≠ 5)):o.ID = ⟨0,0,0⟩:=by
 obtain ⟨_,_,h3,_⟩:=h
 rcases h3 with ⟨a,_⟩ | ⟨_,a,b,c⟩
 ·exact absurd a hk
 ·rcases hd:o.ID with ⟨x,y,z⟩
  rw [hd] at a b c
  dsimp only at a b c
  rw [a,b,c]
theorem outcome_wds {l:List Word} {o:Outc} (h:OKO o) (hs:0 ≤ o.ID.Seq) (hw:l.map kt = wds o):trace_outcome l = some o:=by
 obtain ⟨h1,h2,h3,h4,h5,h6,h7,h8⟩:=oko_ranges h
 have hlen:l.length = (wds o).length:=by rw [← hw,List.length_map]
 have tick:=small_dec h2 (by omega)
 have node:=small_dec (n:=o.Node) (by omega) (by omega)
 have oth:=small_dec (n:=o.Other) h6 (by omega)
 rw [outcome_def]
 unfold wds at hw hlen
 have a0:∃ x,l[0]? = some x∧x.Key = []∧x.Text = dec o.Tick:=kt_at hw rfl
 have a1:∃ x,l[1]? = some x∧x.Key = []∧x.Text = 110 :: dec o.Node:=kt_at hw rfl
 have a2:∃ x,l[2]? = some x∧x.Key = []∧x.Text = kw o.Kind:=kt_at hw rfl
 obtain ⟨x0,b0,_,c0⟩:=a0
 obtain ⟨x1,b1,_,c1⟩:=a1
 obtain ⟨x2,b2,_,c2⟩:=a2
 rw [it_next (oc0 b0 (by rw [c0]; exact tick)),it_next (oc1 b1 c1 node),it_next (oc2 b2 h1 c2)]
 dsimp only
 by_cases hk:o.Kind ≤ 10∧o.Kind ≠ 5
 ·rw [if_pos hk] at hw hlen
  have a3:∃ x,l[(3:Int).toNat]? = some x∧x.Key = [105,100]∧x.Text = keyT o.ID:=kt_at hw rfl
  obtain ⟨x3,b3,d3,c3⟩:=a3
  rw [it_next (ocId (by omega) (by omega) b3 d3 (by rw [c3]; exact key_keyT (h8 hk) hs))]
  by_cases ho:o.Other ≠ 0
  ·rw [if_pos ho] at hw hlen
   have a4:∃ x,l[((3:Int) + 1).toNat]? = some x∧x.Key = [97,116]∧x.Text = dec o.Other:=kt_at hw rfl
   obtain ⟨x4,b4,d4,c4⟩:=a4
   rw [it_next (ocAt (by omega) (by omega) b4 d4 (by rw [c4]; exact oth)),it_done (ocEnd (by rw [hlen]; simp))]
   rfl
  ·rw [if_neg ho] at hw hlen
   rw [it_done (ocEnd (by rw [hlen]; simp))]
   exact congrArg some (outc_ext rfl rfl rfl rfl (by dsimp only; omega))
 ·rw [if_neg hk] at hw hlen
  have hz:=id_zero h hk
  by_cases ho:o.Other ≠ 0
  ·rw [if_pos ho] at hw hlen
   have a4:∃ x,l[(3:Int).toNat]? = some x∧x.Key = [97,116]∧x.Text = dec o.Other:=kt_at hw rfl
   obtain ⟨x4,b4,d4,c4⟩:=a4
   rw [it_next (ocAt (by omega) (by omega) b4 d4 (by rw [c4]; exact oth)),it_done (ocEnd (by rw [hlen]; simp))]
   exact congrArg some (outc_ext rfl rfl rfl hz.symm rfl)
  ·rw [if_neg ho] at hw hlen
   rw [it_done (ocEnd (by rw [hlen]; simp))]
   exact congrArg some (outc_ext rfl rfl rfl hz.symm (by dsimp only; omega))
theorem wds_inj {o p:Outc} (h:OKO o) (hs:0 ≤ o.ID.Seq) (h':OKO p) (hs':0 ≤ p.ID.Seq) (e:wds o = wds p):o = p:=by
 have hm:((wds o).map mkW).map kt = wds o:=by
  rw [List.map_map]
  have:kt ∘ mkW = id:=by funext x; rfl
  rw [this,List.map_id]
 have h1:=outcome_wds h hs hm
 have h2:=outcome_wds h' hs' (hm.trans e)
 rw [h1] at h2
 exact Option.some.inj h2
end Go.Proofs.YtjcbpfhlgebgdaaDoor
