import Derived.Test.YtjcbpfhlgebgdaaDoorPRe
set_option linter.unusedSimpArgs false
set_option linter.unusedVariables false
namespace Go.Proofs.YtjcbpfhlgebgdaaDoor
open Go Go.Eng Go.RowKit Go.X Go.Seq
theorem bare_keyT {d:ID}:bareB (keyT d) = true:=by
 have all:∀ n:Int,((dec n).all fun c=>plainI (c.toNat:Int)) = true:=fun n=>(bareB_all (bare_dec n)).1
 have hne:keyT d ≠ []:=by unfold keyT; simp
 have hh:(keyT d).head? ≠ some 35:=by
  obtain ⟨_,c,l,g2,g3,_⟩:=dd_bare (d.Node.toNat + 1) d.Node.toNat (by omega)
  have:dec d.Node = c :: l:=g2
  unfold keyT
  rw [this]
  simp only [List.cons_append,List.head?_cons,ne_eq,Option.some.injEq]
  exact g3
 unfold bareB
 rw [decide_eq_false hne,decide_eq_false hh]
 have:((keyT d).all fun c=>plainI (c.toNat:Int)) = true:=by
  unfold keyT
  simp only [List.all_append,all,List.all_cons,List.all_nil]
  rfl
 rw [this]; rfl
theorem bare_n {n:Int}:bareB (110 :: dec n) = true:=by
 have:=(bareB_all (bare_dec n)).1
 unfold bareB
 rw [decide_eq_false (List.cons_ne_nil _ _),decide_eq_false (by simp),List.all_cons,this]
 rfl
theorem wds_ok {o:Outc} (h:OKO o):∀ w ∈ wds o,okW w:=by
 intro w hw
 unfold wds at hw
 have k1:nameB [105,100] = true:=by decide
 have k2:nameB [97,116] = true:=by decide
 simp only [List.mem_append,List.mem_cons,List.not_mem_nil,or_false] at hw
 rcases hw with (( rfl | rfl | rfl) | hw) | hw
 ·exact ⟨.inl rfl,bare_dec _⟩
 ·exact ⟨.inl rfl,bare_n⟩
 ·exact ⟨.inl rfl,kw_bare h.1⟩
 ·split at hw
  ·simp at hw; subst hw; exact ⟨.inr k1,bare_keyT⟩
  ·cases hw
 ·split at hw
  ·simp at hw; subst hw; exact ⟨.inr k2,bare_dec _⟩
  ·cases hw
noncomputable def outW (ws:List Word):Option Outc:=open Classical in if h:∃ o,OKO o∧0 ≤ o.ID.Seq∧ws.map kt = wds o then some h.choose else none
theorem outW_some {ws:List Word} {o:Outc} (h:OKO o) (hs:0 ≤ o.ID.Seq) (hw:ws.map kt = wds o):outW ws = some o:=by
 have hex:∃ o,OKO o∧0 ≤ o.ID.Seq∧ws.map kt = wds o:=⟨o,h,hs,hw⟩
 unfold outW
 rw [dif_pos hex]
 obtain ⟨a,b,c⟩:=hex.choose_spec
 rw [wds_inj a b h hs (c.symm.trans hw)]
theorem outW_none {ws:List Word} (hn:¬ ∃ o,OKO o∧0 ≤ o.ID.Seq∧ws.map kt = wds o):outW ws = none:=by
 unfold outW; rw [dif_neg hn]
theorem equal_w (a b:List Word) (hl:a.length ≤ 1000):slices_EqualFunc_f82 (a,b) = some (decide (a.map kt = b.map kt)):=by
 refine W.eq ?_
 unfold slices_EqualFunc_f82
 dsimp only
 refine W_if (fun h=>W_ret ?_) fun h=>?_
 ·symm
  refine decide_eq_false fun q=>h ?_
  have:=congrArg List.length q
  rw [List.length_map,List.length_map] at this
  rw [this]
 have hlen:a.length = b.length:=by omega
 refine W_loop (fun i:Int=>0 ≤ i∧i ≤ (a.length:Int)∧(a.take i.toNat).map kt = (b.take i.toNat).map kt) (fun i=>a.length - i.toNat) ?_ ⟨by omega,by omega,by simp⟩
 rintro i ⟨i1,i2,i3⟩
 refine W_if (fun hi=>?_) fun hi=>?_
 ·refine W_idx i1 hi fun x hx=>?_
  refine W_idx i1 (by omega) fun y hy=>?_
  have hp:trace_Parse_1 (x,y) = some (decide (kt x = kt y)):=by
   refine W.eq ?_
   unfold trace_Parse_1 kt
   dsimp only
   refine W_if (fun hk=>W_ret ?_) fun hk=>W_ret ?_
   ·rw [hk]
    by_cases ht:x.Text = y.Text
    ·rw [ht]; simp
    ·rw [decide_eq_false (fun q=>ht (congrArg Prod.snd q))]
     exact beq_false_of_ne ht
   ·exact (decide_eq_false fun q=>hk (congrArg Prod.fst q)).symm
  refine W_eq hp ?_
  refine W_brnot (W_brd (fun hk=>?_) fun hk=>W_done (W_ret ?_))
  ·refine W_op fun j hj=>W_next ⟨⟨by omega,by omega,?_⟩,by omega⟩
   rw [show j.toNat = i.toNat + 1 from by omega,List.take_add_one,List.take_add_one,hx,hy,List.map_append,List.map_append,i3]
   simp [hk]
  ·symm
   refine decide_eq_false fun q=>hk ?_
   have:=congrArg (·[i.toNat]?) q
   simp only [List.getElem?_map,hx,hy,Option.map_some,Option.some.injEq] at this
   exact this
 ·refine W_done (W_ret ?_)
  rw [List.take_of_length_le (by omega),List.take_of_length_le (by omega)] at i3
  exact (decide_eq_true i3).symm
theorem kt_mk (ws:List (List UInt8 × List UInt8)):(ws.map mkW).map kt = ws:=by
 rw [List.map_map]
 have:kt ∘ mkW = id:=by funext x; rfl
 rw [this,List.map_id]
theorem prog_row {ws:List Word} (h:okRow ws):∃ o e,trace_outcome ws = some o∧trace_one o = some e∧((e ≠ 0∧outW ws = none) ∨ (e = 0∧OKO o∧∃ r b,trace_row o = some r∧slices_EqualFunc_f82 (ws,r) = some b∧((b = true∧outW ws = some o) ∨ (b = false∧outW ws = none)))):=by
 obtain ⟨o,e1,hs⟩:=outcome_s h
 obtain ⟨e,e2,ho⟩:=one_s o
 refine ⟨o,e,e1,e2,?_⟩
 have only:∀ p,OKO p→0 ≤ p.ID.Seq→ws.map kt = wds p→p = o:=fun p a b c=>by
  have:=outcome_wds a b c
  rw [e1] at this
  exact (Option.some.inj this).symm
 by_cases hk:OKO o
 ·have he:e = 0:=by
   rcases ho with ⟨_,a⟩ | ⟨_,_,a⟩ | ⟨a,_⟩
   ·exact absurd hk.1 a
   ·exact absurd hk a
   ·exact a
  refine .inr ⟨he,hk,_,_,row_w hk hs,equal_w ws _ h.1,?_⟩
  rw [kt_mk]
  by_cases hw:ws.map kt = wds o
  ·exact .inl ⟨decide_eq_true hw,outW_some hk hs hw⟩
  ·refine .inr ⟨decide_eq_false hw,outW_none ?_⟩
   rintro ⟨p,a,b,c⟩
   rw [only p a b c] at c
   exact hw c
 ·have he:e ≠ 0:=by
   rcases ho with ⟨a,_⟩ | ⟨a,_,_⟩ | ⟨_,a⟩
   ·omega
   ·omega
   ·exact absurd a hk
  refine .inl ⟨he,outW_none ?_⟩
  rintro ⟨p,a,b,c⟩
  rw [only p a b c] at a
  exact hk a
open Go Go.Eng Go.RowKit Go.X Go.Seq
theorem both_self {γ:Type} (A:Option γ):both A A = A:=by unfold both; rw [if_pos rfl]
def atR (r:Row):Int:=(r.Words.head?.map (·.At)).getD 0
def lastT (out:List Outc) (i:Nat):Int:=((out[i - 1]?).map (·.Tick)).getD 0
noncomputable def goT:List Row→Nat→List Outc→List Outc × Fault
 | [],_,out=>(out,⟨0,0⟩)
 | r :: rs,i,out=>if 5000 ≤ i then ([],⟨5,atR r⟩) else match outW r.Words with
  | none=>([],⟨3,atR r⟩)
  | some o=>if 0 < i∧o.Tick < lastT out i then ([],⟨19,atR r⟩) else goT rs (i + 1) (out++[o])
theorem goT_step {rows:List Row} {i:Nat} {r:Row} {out:List Outc} (hr:rows[i]? = some r):goT (rows.drop i) i out = if 5000 ≤ i then ([],⟨5,atR r⟩) else match outW r.Words with
  | none=>([],⟨3,atR r⟩)
  | some o=>if 0 < i∧o.Tick < lastT out i then ([],⟨19,atR r⟩) else goT (rows.drop (i + 1)) (i + 1) (out++[o]):=by
 obtain ⟨hlt,hr'⟩:=List.getElem?_eq_some_iff.1 hr
 rw [List.drop_eq_getElem_cons hlt,hr',goT]
structure PI (rows:List Row) (out:List Outc) (i:Int):Prop where
 i0:0 ≤ i
 i1:i ≤ (rows.length:Int)
 i5:i ≤ 5000
 len:out.length = i.toNat
 eq:goT (rows.drop i.toNat) i.toNat out = goT rows 0 []
theorem PI.five {rows:List Row} {out:List Outc} {i:Int} (h:PI rows out i) {r:Row} (hr:rows[i.toNat]? = some r) (h5:5000 ≤ i):([],⟨5,atR r⟩) = goT rows 0 []:=by
 rw [← h.eq,goT_step hr,if_pos (by omega)]
theorem PI.form {rows:List Row} {out:List Outc} {i:Int} (h:PI rows out i) {r:Row} (hr:rows[i.toNat]? = some r) (h5:¬ 5000 ≤ i) (ho:outW r.Words = none):([],⟨3,atR r⟩) = goT rows 0 []:=by
 rw [← h.eq,goT_step hr,if_neg (by omega),ho]
theorem PI.order {rows:List Row} {out:List Outc} {i:Int} (h:PI rows out i) {r:Row} (hr:rows[i.toNat]? = some r) (h5:¬ 5000 ≤ i) {o:Outc} (ho:outW r.Words = some o) (hi:0 < i) {p:Outc} {k:Int} (hk:k = i - 1) (hp:out[k.toNat]? = some p) (ht:o.Tick < p.Tick):([],⟨19,atR r⟩) = goT rows 0 []:=by
 rw [← h.eq,goT_step hr,if_neg (by omega),ho]
 dsimp only
 rw [if_pos]
 refine ⟨by omega,?_⟩
 unfold lastT
 rw [show i.toNat - 1 = k.toNat from by omega,hp]
 exact ht
theorem PI.next {rows:List Row} {out:List Outc} {i j:Int} (h:PI rows out i) {r:Row} (hr:rows[i.toNat]? = some r) (h5:¬ 5000 ≤ i) {o:Outc} (ho:outW r.Words = some o) (hj:j = i + 1) (hn:¬ (0 < i.toNat∧o.Tick < lastT out i.toNat)):PI rows (out++[o]) j:=by
 have hlt:=(List.getElem?_eq_some_iff.1 hr).1
 have h0:=h.i0
 subst hj
 refine ⟨by omega,by omega,by omega,by rw [List.length_append,h.len]; simp; omega,?_⟩
 rw [← h.eq,goT_step hr,if_neg (by omega),ho]
 dsimp only
 rw [if_neg hn,show (i + 1).toNat = i.toNat + 1 from by omega]
theorem PI.last {out:List Outc} {i:Int} {k:Int} {p:Outc} (hk:k = i - 1) (hi:0 < i) (hp:out[k.toNat]? = some p) {o:Outc} (ht:¬ o.Tick < p.Tick):¬ (0 < i.toNat∧o.Tick < lastT out i.toNat):=by
 rintro ⟨_,q⟩
 unfold lastT at q
 rw [show i.toNat - 1 = k.toNat from by omega,hp] at q
 exact ht q
theorem PI.done {rows:List Row} {out:List Outc} {i:Int} (h:PI rows out i) (hi:(rows.length:Int) ≤ i):(out,⟨0,0⟩) = goT rows 0 []:=by
 rw [← h.eq,List.drop_eq_nil_of_le (by omega),goT]
theorem goT_len:∀ (rows:List Row) (i:Nat) (out:List Outc),out.length ≤ i→i ≤ 5000→(goT rows i out).1.length ≤ 5000
 | [],i,out,h,h5=>by rw [goT]; dsimp only; omega
 | r :: rs,i,out,h,h5=>by
  rw [goT]
  split
  ·simp
  ·split
   ·simp
   ·split
    ·simp
    ·exact goT_len rs _ _ (by simp; omega) (by omega)
theorem at_w {r:Row} {w:Word} (h:r.Words[0]? = some w):w.At = atR r:=by
 unfold atR
 rw [List.head?_eq_getElem?,h]
 rfl
noncomputable def parseR (r:List Row × Fault):List Outc × Fault:=if r.2.Err ≠ 0 then ([],r.2) else goT r.1 0 []
set_option maxHeartbeats 4000000 in
theorem parse_s (x:List UInt8):∃ r,words_Rows x = some r∧trace_Parse x = some (parseR r):=by
 obtain ⟨⟨rows,f⟩,r1,r2,r3,r4,r5⟩:=Rows_eq x
 refine ⟨_,r1,W.eq ?_⟩
 dsimp only at r3 r4 r5
 unfold trace_Parse
 simp only [bt1,bt2,both_self]
 refine W_eq r1 ?_
 dsimp only
 refine W_if (fun h=>W_ret ?_) fun h=>?_
 ·unfold parseR; rw [if_pos h]
 have hp:parseR (rows,f) = goT rows 0 []:=if_neg h
 rw [hp]
 refine W_loop (fun s:List Outc × Int × Fault=>PI rows s.1 s.2.1) (fun s=>rows.length - s.2.1.toNat) ?_ ⟨Int.le_refl _,by dsimp only; omega,by dsimp only; omega,rfl,rfl⟩
 rintro ⟨out,i,ff⟩ hI
 have i0:=hI.i0
 have i1:=hI.i1
 have i5:=hI.i5
 have il:=hI.len
 dsimp only at hI i0 i1 i5 il ⊢
 refine W_if (fun hi=>?_) fun hi=>W_done (W_ret (hI.done (by omega)))
 refine W_idx i0 hi fun r hr=>?_
 obtain ⟨hne,hok⟩:=r4 r (List.mem_of_getElem? hr)
 have hpos:1 ≤ r.Words.length:=List.length_pos_iff.2 hne
 refine W_idx (by omega) (by omega) fun w hw=>?_
 have hat:=at_w hw
 rw [hat]
 refine W_if (fun h5=>W_done (W_ret (hI.five hr h5))) fun h5=>?_
 obtain ⟨o,e,e1,e2,hcase⟩:=prog_row hok
 refine W_eq e1 ?_
 refine W_eq e2 ?_
 refine W_if (fun he=>?_) fun he=>?_
 ·rcases hcase with ⟨_,hn⟩ | ⟨q,_⟩
  ·exact W_done (W_ret (hI.form hr h5 hn))
  ·exact absurd q he
 rcases hcase with ⟨q,_⟩ | ⟨_,_,rw',b,e3,e4,hcase⟩
 ·exact absurd q (fun h=>he h)
 refine W_eq e3 ?_
 refine W_eq e4 ?_
 rcases hcase with ⟨rfl,ho⟩ | ⟨rfl,ho⟩
 rotate_left
 ·exact W_brnot (W_brF (W_done (W_ret (hI.form hr h5 ho))))
 refine W_brnot (W_brT ?_)
 refine W_if (fun hi0=>?_) fun hi0=>?_
 ·refine W_op fun k hk=>?_
  refine W_idx (by omega) (by omega) fun p hp=>?_
  refine W_if (fun ht=>W_done (W_ret (hI.order hr h5 ho hi0 hk hp ht))) fun ht=>?_
  refine W_app (by simp; omega) ?_
  refine W_op fun j hj=>?_
  have hj':j = i + 1:=hj
  exact W_next ⟨hI.next hr h5 ho hj (PI.last hk hi0 hp ht),by dsimp only; omega⟩
 ·refine W_app (by simp; omega) ?_
  refine W_op fun j hj=>?_
  have hj':j = i + 1:=hj
  exact W_next ⟨hI.next hr h5 ho hj (fun q=>by omega),by dsimp only; omega⟩
open Go Go.Eng Go.RowKit Go.X Go.Seq
theorem posW_kt:∀ (ws:List (List UInt8 × List UInt8)) (p:Int),((posW p ws).map fun x:Wd=>(⟨x.1,x.2.1,x.2.2⟩:Word)).map kt = ws
 | [],_=>rfl
 | w :: ws,p=>by
  rw [posW,List.map_cons,List.map_cons,posW_kt ws]
  rfl
theorem goT_back:∀ (l:List Outc) (a:Int) (i:Nat) (out:List Outc),(∀ o ∈ l,OKO o∧0 ≤ o.ID.Seq)→out.length = i→i + l.length ≤ 5000 →
  (∀ (j:Nat) x y,(out++l)[j]? = some x→(out++l)[j + 1]? = some y→x.Tick ≤ y.Tick)→goT ((posR a (l.map wds)).map mkRow) i out = (out++l,⟨0,0⟩)
 | [],a,i,out,_,_,_,_=>by
  rw [List.map_nil,posR,List.map_nil,goT,List.append_nil]
 | o :: l,a,i,out,h,hi,hl,hasc=>by
  obtain ⟨ho,hs⟩:=h o (List.mem_cons_self ..)
  simp only [List.length_cons] at hl
  have hW:outW (mkRow (a,posW a (wds o))).Words = some o:=outW_some ho hs (posW_kt (wds o) a)
  rw [List.map_cons,posR,List.map_cons,goT,if_neg (by omega),hW]
  dsimp only
  rw [if_neg]
  ·rw [goT_back l _ (i + 1) (out++[o]) (fun x hx=>h x (List.mem_cons_of_mem _ hx)) (by simp; omega) (by omega) (by rw [List.append_assoc]; exact hasc),List.append_assoc]
   rfl
  ·rintro ⟨h0,h1⟩
   unfold lastT at h1
   have hlt:i - 1 < out.length:=by omega
   have e1:out[i - 1]? = some out[i - 1]:=List.getElem?_eq_getElem hlt
   rw [e1] at h1
   have e2:(out++o :: l)[i - 1]? = some out[i - 1]:=by rw [List.getElem?_append_left hlt,e1]
   have e3:(out++o :: l)[i - 1 + 1]? = some o:=by
    rw [show i - 1 + 1 = out.length from by omega,List.getElem?_append_right (Nat.le_refl _)]
    simp
   have:=hasc _ _ _ e2 e3
   simp only [Option.map_some,Option.getD_some] at h1
   omega
theorem lines_textT (l:List Outc):linesT (l.map wds) = textT l:=by
 unfold linesT textT lineT
 rw [List.flatMap_map]
theorem Parse_back {l:List Outc} (h:OkT l) (hl:l.length ≤ 5000) (hs:∀ o ∈ l,0 ≤ o.ID.Seq) (ht:(textT l).length ≤ 20000):trace_Parse (textT l) = some (l,⟨0,0⟩):=by
 have hr:=Rows_back (ls:=l.map wds) (fun w hw=>by
  obtain ⟨o,ho,rfl⟩:=List.mem_map.1 hw
  have:=wds_len (h.one o ho) (hs o ho)
  exact ⟨by unfold wds; simp,wds_ok (h.one o ho),by omega⟩) (by rw [lines_textT]; exact ht)
 rw [lines_textT] at hr
 obtain ⟨r,h1,h3⟩:=parse_s (textT l)
 rw [hr] at h1
 cases h1
 rw [h3]
 unfold parseR
 rw [if_neg (by simp)]
 rw [goT_back l 0 0 [] (fun o ho=>⟨h.one o ho,hs o ho⟩) rfl (by omega) (by rw [List.nil_append]; exact h.asc),List.nil_append]
end Go.Proofs.YtjcbpfhlgebgdaaDoor
