import Derived.Test.YtjcbpfhlgebgdaaGreatDoorPTh
set_option linter.unusedSimpArgs false
set_option linter.unusedVariables false
namespace Go.Proofs.YtjcbpfhlgebgdaaGreatDoor
open Go Go.Eng Go.RowKit Go.X Go.Seq
theorem zpB {γ:Type} (A:Option γ):zhf A A = A:=by unfold zhf; rw [if_pos rfl]
def atR (r:Row):Int:=(r.Words.head?.map (·.At)).getD 0
def zgQ (out:List Outc) (i:Nat):Int:=((out[i - 1]?).map (·.Tick)).getD 0
noncomputable def goT:List Row->Nat->List Outc->List Outc × Fault
 | [],_,out=>(out,⟨0,0⟩)
 | r :: rs,i,out=>if 5000 <= i then ([],⟨5,atR r⟩) else match zbY r.Words with
  | none=>([],⟨3,atR r⟩)
  | some o=>if 0 < i/\o.Tick < zgQ out i then ([],⟨19,atR r⟩) else goT rs (i + 1) (out++[o])
theorem zdI {rows:List Row} {i:Nat} {r:Row} {out:List Outc} (hr:rows[i]? = some r):goT (rows.drop i) i out = if 5000 <= i then ([],⟨5,atR r⟩) else match zbY r.Words with
  | none=>([],⟨3,atR r⟩)
  | some o=>if 0 < i/\o.Tick < zgQ out i then ([],⟨19,atR r⟩) else goT (rows.drop (i + 1)) (i + 1) (out++[o]):=by
 obtain ⟨hlt,hr'⟩:=List.getElem?_eq_some_iff.1 hr
 rw [List.drop_eq_getElem_cons hlt,hr',goT]
structure PI (rows:List Row) (out:List Outc) (i:Int):Prop where
 i0:0 <= i
 i1:i <= (rows.length:Int)
 i5:i <= 5000
 len:out.length = i.toNat
 eq:goT (rows.drop i.toNat) i.toNat out = goT rows 0 []
theorem PI.five {rows:List Row} {out:List Outc} {i:Int} (h:PI rows out i) {r:Row} (hr:rows[i.toNat]? = some r) (h5:5000 <= i):([],⟨5,atR r⟩) = goT rows 0 []:=by
 rw [<- h.eq,zdI hr,if_pos (by omega)]
theorem PI.form {rows:List Row} {out:List Outc} {i:Int} (h:PI rows out i) {r:Row} (hr:rows[i.toNat]? = some r) (h5:¬ 5000 <= i) (ho:zbY r.Words = none):([],⟨3,atR r⟩) = goT rows 0 []:=by
 rw [<- h.eq,zdI hr,if_neg (by omega),ho]
theorem PI.order {rows:List Row} {out:List Outc} {i:Int} (h:PI rows out i) {r:Row} (hr:rows[i.toNat]? = some r) (h5:¬ 5000 <= i) {o:Outc} (ho:zbY r.Words = some o) (hi:0 < i) {p:Outc} {k:Int} (hk:k = i - 1) (hp:out[k.toNat]? = some p) (ht:o.Tick < p.Tick):([],⟨19,atR r⟩) = goT rows 0 []:=by
 rw [<- h.eq,zdI hr,if_neg (by omega),ho]
 dsimp only
 rw [if_pos]
 refine ⟨by omega,?_⟩
 unfold zgQ
 rw [show i.toNat - 1 = k.toNat from by omega,hp]
 exact ht
theorem PI.next {rows:List Row} {out:List Outc} {i j:Int} (h:PI rows out i) {r:Row} (hr:rows[i.toNat]? = some r) (h5:¬ 5000 <= i) {o:Outc} (ho:zbY r.Words = some o) (hj:j = i + 1) (hn:¬ (0 < i.toNat/\o.Tick < zgQ out i.toNat)):PI rows (out++[o]) j:=by
 have hlt:=(List.getElem?_eq_some_iff.1 hr).1
 have h0:=h.i0
 subst hj
 refine ⟨by omega,by omega,by omega,by rw [List.length_append,h.len]; simp; omega,?_⟩
 rw [<- h.eq,zdI hr,if_neg (by omega),ho]
 dsimp only
 rw [if_neg hn,show (i + 1).toNat = i.toNat + 1 from by omega]
theorem PI.last {out:List Outc} {i:Int} {k:Int} {p:Outc} (hk:k = i - 1) (hi:0 < i) (hp:out[k.toNat]? = some p) {o:Outc} (ht:¬ o.Tick < p.Tick):¬ (0 < i.toNat/\o.Tick < zgQ out i.toNat):=by
 rintro ⟨_,q⟩
 unfold zgQ at q
 rw [show i.toNat - 1 = k.toNat from by omega,hp] at q
 exact ht q
theorem PI.done {rows:List Row} {out:List Outc} {i:Int} (h:PI rows out i) (hi:(rows.length:Int) <= i):(out,⟨0,0⟩) = goT rows 0 []:=by
 rw [<- h.eq,List.drop_eq_nil_of_le (by omega),goT]
theorem zoG:∀ (rows:List Row) (i:Nat) (out:List Outc),out.length <= i->i <= 5000->(goT rows i out).1.length <= 5000
 | [],i,out,h,h5=>by rw [goT]; dsimp only; omega
 | r :: rs,i,out,h,h5=>by
  rw [goT]
  split
  ·simp
  ·split
   ·simp
   ·split
    ·simp
    ·exact zoG rs _ _ (by simp; omega) (by omega)
theorem zu3 {r:Row} {w:Word} (h:r.Words[0]? = some w):w.At = atR r:=by
 unfold atR
 rw [List.head?_eq_getElem?,h]
 rfl
noncomputable def zbZ (r:List Row × Fault):List Outc × Fault:=if r.2.Err ≠ 0 then ([],r.2) else goT r.1 0 []
set_option maxHeartbeats 4000000 in
theorem zoH (x:List UInt8):∃ r,qx x = some r/\yw x = some r/\yN x = some (zbZ r):=by
 obtain ⟨⟨rows,f⟩,r1,r2,r3,r4,r5⟩:=zop x
 refine ⟨_,r1,r2,W.eq ?_⟩
 dsimp only at r3 r4 r5
 unfold yN
 simp only [b3,b4,zpB]
 refine yL r1 ?_
 dsimp only
 refine yn (fun h=>zx ?_) fun h=>?_
 ·unfold zbZ; rw [if_pos h]
 have hp:zbZ (rows,f) = goT rows 0 []:=if_neg h
 rw [hp]
 refine Qg (fun s:List Outc × Int × Fault=>PI rows s.1 s.2.1) (fun s=>rows.length - s.2.1.toNat) ?_ ⟨Int.le_refl _,by dsimp only; omega,by dsimp only; omega,rfl,rfl⟩
 rintro ⟨out,i,ff⟩ hI
 have i0:=hI.i0
 have i1:=hI.i1
 have i5:=hI.i5
 have il:=hI.len
 dsimp only at hI i0 i1 i5 il ⊢
 refine yn (fun hi=>?_) fun hi=>yK (zx (hI.done (by omega)))
 refine Zj i0 hi fun r hr=>?_
 obtain ⟨hne,hok⟩:=r4 r (List.mem_of_getElem? hr)
 have hpos:1 <= r.Words.length:=List.length_pos_iff.2 hne
 refine Zj (by omega) (by omega) fun w hw=>?_
 have hat:=zu3 hw
 rw [hat]
 refine yn (fun h5=>yK (zx (hI.five hr h5))) fun h5=>?_
 obtain ⟨o,e,e1,e2,hcase⟩:=zrg hok
 refine yL e1 ?_
 refine yL e2 ?_
 refine yn (fun he=>?_) fun he=>?_
 ·rcases hcase with ⟨_,hn⟩ | ⟨q,_⟩
  ·exact yK (zx (hI.form hr h5 hn))
  ·exact absurd q he
 rcases hcase with ⟨q,_⟩ | ⟨_,_,rw',b,e3,e4,hcase⟩
 ·exact absurd q (fun h=>he h)
 refine yL e3 ?_
 refine yL e4 ?_
 rcases hcase with ⟨rfl,ho⟩ | ⟨rfl,ho⟩
 rotate_left
 ·exact Zs (zhB (yK (zx (hI.form hr h5 ho))))
 refine Zs (zap ?_)
 refine yn (fun hi0=>?_) fun hi0=>?_
 ·refine ZW fun k hk=>?_
  refine Zj (by omega) (by omega) fun p hp=>?_
  refine yn (fun ht=>yK (zx (hI.order hr h5 ho hi0 hk hp ht))) fun ht=>?_
  refine zhC (by simp; omega) ?_
  refine ZW fun j hj=>?_
  have hj':j = i + 1:=hj
  exact qn ⟨hI.next hr h5 ho hj (PI.last hk hi0 hp ht),by dsimp only; omega⟩
 ·refine zhC (by simp; omega) ?_
  refine ZW fun j hj=>?_
  have hj':j = i + 1:=hj
  exact qn ⟨hI.next hr h5 ho hj (fun q=>by omega),by dsimp only; omega⟩
theorem zs5 {rows:List Row} {i j:Int} {r:Row} (h0:0 <= i) (hr:rows[i.toNat]? = some r) (hj:j = i + 1):slc rows i j = some [r]:=by
 obtain ⟨hlt,hr'⟩:=List.getElem?_eq_some_iff.1 hr
 unfold slc
 rw [if_pos ⟨h0,by omega,by omega⟩,show j.toNat = i.toNat + 1 from by omega,List.take_add_one,hr,List.drop_append_of_le_length (by simp; omega),List.drop_eq_nil_of_le (by rw [List.length_take]; omega)]
 rfl
set_option maxHeartbeats 4000000 in
theorem zrh (x:List UInt8) {r:List Row × Fault} (hr1:qx x = some r):zL x = some (zbZ r):=by
 obtain ⟨⟨rows,f⟩,r1,r2,r3,r4,r5⟩:=zop x
 rw [hr1] at r1
 cases r1
 refine W.eq ?_
 dsimp only at r3 r4 r5
 unfold zL
 refine yL r2 ?_
 dsimp only
 refine yn (fun h=>zx ?_) fun h=>?_
 ·unfold zbZ; rw [if_pos h]
 have hp:zbZ (rows,f) = goT rows 0 []:=if_neg h
 rw [hp]
 refine Qg (fun s:List Outc × Int × Fault=>PI rows s.1 s.2.1) (fun s=>rows.length - s.2.1.toNat) ?_ ⟨Int.le_refl _,by dsimp only; omega,by dsimp only; omega,rfl,rfl⟩
 rintro ⟨out,i,ff⟩ hI
 have i0:=hI.i0
 have i1:=hI.i1
 have i5:=hI.i5
 have il:=hI.len
 dsimp only at hI i0 i1 i5 il ⊢
 refine yn (fun hi=>?_) fun hi=>yK (zx (hI.done (by omega)))
 refine Zj i0 hi fun r hr=>?_
 obtain ⟨hne,hok⟩:=r4 r (List.mem_of_getElem? hr)
 have hpos:1 <= r.Words.length:=List.length_pos_iff.2 hne
 refine Zj (by omega) (by omega) fun w hw=>?_
 have hat:=zu3 hw
 rw [hat]
 refine yn (fun h5=>yK (zx (hI.five hr (by omega)))) fun h5=>?_
 have h5':¬ 5000 <= i:=by omega
 refine Zj i0 hi fun r' hr'=>?_
 rw [hr] at hr'; cases hr'
 obtain ⟨o,is,e1,hcase⟩:=zs4 hok hne
 refine yL e1 ?_
 dsimp only
 rcases hcase with ⟨rfl,hn⟩ | ⟨rfl,e,e2,hcase⟩
 ·exact Zs (zhB (yK (zx (hI.form hr h5' hn))))
 refine Zs (zap ?_)
 refine yL e2 ?_
 refine yn (fun he=>?_) fun he=>?_
 ·rcases hcase with ⟨_,hn⟩ | ⟨q,_⟩
  ·exact yK (zx (hI.form hr h5' hn))
  ·exact absurd q he
 rcases hcase with ⟨q,_⟩ | ⟨_,x',y,s,e3,e4,hs,hcase⟩
 ·exact absurd q (fun h=>he h)
 refine ZW fun j hj=>?_
 refine yL (zs5 i0 hr hj) ?_
 refine yL e3 ?_
 dsimp only
 refine yL e4 ?_
 refine Qq (by simp; omega) ?_
 refine yn (fun hx=>?_) fun hx=>?_
 ·rcases hcase with ⟨q,_⟩ | ⟨_,ho⟩
  ·exact absurd q hx
  ·exact yK (zx (hI.form hr h5' ho))
 rcases hcase with ⟨_,ho⟩ | ⟨q,_⟩
 rotate_left
 ·exact absurd q hx
 refine yn (fun hi0=>?_) fun hi0=>?_
 ·refine ZW fun k hk=>?_
  refine Zj (by omega) (by omega) fun p hp=>?_
  refine yn (fun ht=>yK (zx (hI.order hr h5' ho hi0 hk hp ht))) fun ht=>?_
  refine zhC (by simp; omega) ?_
  refine ZW fun j hj=>?_
  have hj':j = i + 1:=hj
  exact qn ⟨hI.next hr h5' ho hj (PI.last hk hi0 hp ht),by dsimp only; omega⟩
 ·refine zhC (by simp; omega) ?_
  refine ZW fun j hj=>?_
  have hj':j = i + 1:=hj
  exact qn ⟨hI.next hr h5' ho hj (fun q=>by omega),by dsimp only; omega⟩
theorem zri (x:List UInt8):∃ r,yN x = some r/\zL x = some r/\r.1.length <= 5000:=by
 obtain ⟨r,h1,h2,h3⟩:=zoH x
 refine ⟨_,h3,zrh x h1,?_⟩
 unfold zbZ
 split
 ·simp
 ·exact zoG _ _ _ (by simp) (by omega)
open Go Go.Eng Go.RowKit Go.X Go.Seq
theorem zoI:∀ (ws:List (List UInt8 × List UInt8)) (p:Int),((zcG p ws).map fun x:Wd=>(⟨x.1,x.2.1,x.2.2⟩:Word)).map kt = ws
 | [],_=>rfl
 | w :: ws,p=>by
  rw [zcG,List.map_cons,List.map_cons,zoI ws]
  rfl
theorem zlz:∀ (l:List Outc) (a:Int) (i:Nat) (out:List Outc),(∀ o ∈ l,OKO o/\0 <= o.ID.Seq)->out.length = i->i + l.length <= 5000 ->
  (∀ (j:Nat) x y,(out++l)[j]? = some x->(out++l)[j + 1]? = some y->x.Tick <= y.Tick)->goT ((zln a (l.map wds)).map zck) i out = (out++l,⟨0,0⟩)
 | [],a,i,out,_,_,_,_=>by
  rw [List.map_nil,zln,List.map_nil,goT,List.append_nil]
 | o :: l,a,i,out,h,hi,hl,hasc=>by
  obtain ⟨ho,hs⟩:=h o (List.mem_cons_self ..)
  simp only [List.length_cons] at hl
  have hW:zbY (zck (a,zcG a (wds o))).Words = some o:=zem ho hs (zoI (wds o) a)
  rw [List.map_cons,zln,List.map_cons,goT,if_neg (by omega),hW]
  dsimp only
  rw [if_neg]
  ·rw [zlz l _ (i + 1) (out++[o]) (fun x hx=>h x (List.mem_cons_of_mem _ hx)) (by simp; omega) (by omega) (by rw [List.append_assoc]; exact hasc),List.append_assoc]
   rfl
  ·rintro ⟨h0,h1⟩
   unfold zgQ at h1
   have hlt:i - 1 < out.length:=by omega
   have e1:out[i - 1]? = some out[i - 1]:=List.getElem?_eq_getElem hlt
   rw [e1] at h1
   have e2:(out++o :: l)[i - 1]? = some out[i - 1]:=by rw [List.getElem?_append_left hlt,e1]
   have e3:(out++o :: l)[i - 1 + 1]? = some o:=by
    rw [show i - 1 + 1 = out.length from by omega,List.getElem?_append_right (Nat.le_refl _)]
    simp
   have:=hasc _ _ _ e2 e3
   simp only [Option.map_some,Option.getD_some] at h1
   omega
theorem ze4 (l:List Outc):zbS (l.map wds) = Zx l:=by
 unfold zbS Zx ziy
 rw [List.flatMap_map]
theorem znc {l:List Outc} (h:OkT l) (hl:l.length <= 5000) (hs:∀ o ∈ l,0 <= o.ID.Seq) (ht:(Zx l).length <= 20000):yN (Zx l) = some (l,⟨0,0⟩):=by
 have hr:=zpv (ls:=l.map wds) (fun w hw=>by
  obtain ⟨o,ho,rfl⟩:=List.mem_map.1 hw
  have:=zdH (h.one o ho) (hs o ho)
  exact ⟨by unfold wds; simp,zre (h.one o ho),by omega⟩) (by rw [ze4]; exact ht)
 rw [ze4] at hr
 obtain ⟨r,h1,_,h3⟩:=zoH (Zx l)
 rw [hr] at h1
 cases h1
 rw [h3]
 unfold zbZ
 rw [if_neg (by simp)]
 rw [zlz l 0 0 [] (fun o ho=>⟨h.one o ho,hs o ho⟩) rfl (by omega) (by rw [List.nil_append]; exact h.asc),List.nil_append]
end Go.Proofs.YtjcbpfhlgebgdaaGreatDoor
