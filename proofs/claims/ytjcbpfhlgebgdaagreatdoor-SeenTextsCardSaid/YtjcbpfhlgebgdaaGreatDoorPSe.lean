import Derived.Test.YtjcbpfhlgebgdaaGreatDoorPSd
open Option renaming bind_some -> zug
set_option linter.unusedSimpArgs false
set_option linter.unusedVariables false
namespace Go.Proofs.YtjcbpfhlgebgdaaGreatDoor
open Go Go.Eng Go.RowKit Go.X Go.Seq
theorem zna {s:List UInt8} (hs:s.length <= 1001):∃ m,zbX s = some m/\MR s m:=by
 obtain ⟨m,e,h⟩:=zst s (by omega)
 exact ⟨m,by unfold zbX; rw [if_pos (by omega)]; exact e,h⟩
theorem zkl {r:Row} {rs:List Row} {o:List Mrk} {x:Word} {tl:List Word} (hw:r.Words = x :: tl) {m:Mrk × Bool} (hm:zbX x.Text = some m) :
  psF zbX yS zB (r :: rs) o = if tl ≠ [] ∨ x.Key ≠ [] ∨ m.2 = false then some ([],3,x.At) else if ckN o m.1 ≠ 0 then some ([],ckN o m.1,x.At) else psF zbX yS zB rs (o++[m.1]):=by
 rw [psF,hw]
 dsimp only
 rw [hm]
 simp only [zug]
 by_cases h1:tl ≠ [] ∨ x.Key ≠ [] ∨ m.2 = false
 ·rw [if_pos h1,if_pos h1]
 ·rw [if_neg h1,if_neg h1,zdp]
  simp only [zug]
  unfold ckN
  by_cases ho:okD m.1
  ·rw [if_pos ho,if_pos ho]
   rw [if_neg (fun h:(0:Int) ≠ 0=>h rfl)]
   cases hp:o[o.length - 1]? with
   | none=>simp
   | some p =>
    dsimp only
    rw [zbz]
    simp only [zug]
    by_cases hc:0 <= zaA p.ID m.1.ID
    ·simp [hc]
    ·simp [hc]
  ·rw [if_neg ho,if_neg ho]
   simp
theorem znb:∀ (rs:List Row) (o:List Mrk),(∀ y ∈ rs,y.Words ≠ []/\zrS y.Words)->∃ t,psF zbX yS zB rs o = some t/\t.1.length <= o.length + rs.length
 | [],o,_=>⟨_,rfl,by simp⟩
 | r :: rs,o,h=>by
  obtain ⟨h1,h2⟩:=h r (List.mem_cons_self ..)
  cases hw:r.Words with
  | nil=>exact absurd hw h1
  | cons x tl =>
  have hx:=(h2.2 x (by rw [hw]; exact List.mem_cons_self ..)).2
  obtain ⟨m,hm,_⟩:=zna hx
  rw [zkl hw hm]
  split
  ·exact ⟨_,rfl,by simp⟩
  ·split
   ·exact ⟨_,rfl,by simp⟩
   ·obtain ⟨t,e,ht⟩:=znb rs (o++[m.1]) fun y hy=>h y (List.mem_cons_of_mem _ hy)
    exact ⟨t,e,by simp at ht ⊢; omega⟩
set_option maxHeartbeats 4000000 in
theorem zpA (x:List UInt8) (hx:x.length <= 3000):∃ r,ql x = some r/\zA x = some r/\r.1.length <= 3001:=by
 obtain ⟨⟨rows,f⟩,r1,r2,r3,r4,r5⟩:=zre x
 dsimp only at r3 r4 r5
 by_cases hf:f.Err ≠ 0
 ·refine ⟨([],f),by unfold ql; rw [r1]; exact if_pos hf,W.eq ?_,by simp⟩
  unfold zA
  refine yJ r2 ?_
  exact yh (fun _=>yk rfl) fun h=>absurd hf h
 ·obtain ⟨t,ht,htl⟩:=znb rows [] r4
  have e1:ql x = some (t.1,⟨t.2.1,t.2.2⟩):=by
   unfold ql
   rw [r1]
   simp only [zug]
   rw [if_neg hf,if_pos (by omega),ht]
   rfl
  refine ⟨_,e1,W.eq ?_,by simp only [List.length_nil] at htl; dsimp only; omega⟩
  unfold zA
  refine yJ r2 ?_
  refine yh (fun h=>absurd h hf) fun _=>?_
  refine ZG (fun s:List Mrk × Int × Fault=>Vd s.1/\0 <= s.2.1/\s.2.1 <= (rows.length:Int)/\(s.1.length:Int) = s.2.1/\psF zbX yS zB (rows.drop s.2.1.toNat) s.1 = some t) (fun s=>rows.length - s.2.1.toNat) ?_ ⟨Vd.nil,Int.le_refl _,by dsimp only; omega,rfl,ht⟩
  rintro ⟨out,i,ff⟩ ⟨hv,i0,i1,il,hI⟩
  dsimp only at hv i0 i1 il hI ⊢
  refine yh (fun hi=>?_) fun hi=>yy (yk ?_)
  ·refine Zr i0 hi fun r hr=>?_
   obtain ⟨hne,hok⟩:=r4 r (List.mem_of_getElem? hr)
   have hd:rows.drop i.toNat = r :: rows.drop (i.toNat + 1):=by
    obtain ⟨q,rfl⟩:=List.getElem?_eq_some_iff.1 hr
    exact List.drop_eq_getElem_cons q
   rw [hd] at hI
   cases hw:r.Words with
   | nil=>exact absurd hw hne
   | cons w tl =>
   have hw0:idx (w :: tl) (0:Int) = some w:=rfl
   have hwx:=(hok.2 w (by rw [hw]; exact List.mem_cons_self ..)).2
   obtain ⟨m,hm,hmr⟩:=zna hwx
   rw [zkl hw hm] at hI
   refine yh (fun hlen=>?_) fun hlen=>?_
   ·refine yJ hw0 (yy (yk ?_))
    have htl:tl ≠ []:=by rintro rfl; exact hlen rfl
    rw [if_pos (.inl htl)] at hI
    cases hI; rfl
   have htl:tl = []:=by
    have:((w :: tl).length:Int) = 1:=Decidable.not_not.1 hlen
    simp only [List.length_cons] at this
    exact List.eq_nil_of_length_eq_zero (by omega)
   subst htl
   refine yJ hw0 ?_
   refine yh (fun hk=>?_) fun hk=>?_
   ·refine yJ hw0 (yy (yk ?_))
    rw [if_pos (.inr (.inl hk))] at hI
    cases hI; rfl
   have hk':w.Key = []:=Decidable.not_not.1 hk
   refine yJ hw0 ?_
   refine Y8 (zsn w.Text (by omega)) fun r' hr'=>?_
   obtain rfl:=hr'.det hmr
   obtain ⟨mk,b⟩:=r'
   cases b with
   | false =>
    refine Qx (zeW (yJ hw0 (yy (yk ?_))))
    rw [if_pos (.inr (.inr rfl))] at hI
    cases hI; rfl
   | true =>
   refine Qx (Q0 ?_)
   rw [if_neg (fun h=>h.elim (fun h=>h rfl) (fun h=>h.elim (fun h=>h hk') (fun h=>Bool.noConfusion h)))] at hI
   refine znF (by simp; omega) ?_
   obtain ⟨n,hck⟩:=zpz (m:=mk) hv (by omega)
   refine yJ ((zf9 _).trans hck) ?_
   refine yh (fun hc=>?_) fun hc=>?_
   ·refine yJ hw0 (yy (yk ?_))
    rw [if_pos hc] at hI
    cases hI; rfl
   ·rw [if_neg hc] at hI
    refine ZK fun j hj=>?_
    have hj':j = i + 1:=hj
    subst hj'
    refine qk ⟨⟨hv.snoc (Decidable.not_not.1 hc),by dsimp only; omega,by dsimp only; omega,by dsimp only; simp; omega,?_⟩,by dsimp only; omega⟩
    dsimp only
    rw [show (i + 1).toNat = i.toNat + 1 from by omega]
    exact hI
  ·rw [List.drop_eq_nil_of_le (by omega),psF] at hI
   cases hI; rfl
theorem zrp {n:Int} (h:0 <= n/\n < 10):dec n = [UInt8.ofNat (48 + n.toNat)]:=by unfold dec; exact zmT (by omega)
theorem ztp {n:Int} (h:10 <= n/\n < 100):dec n = [UInt8.ofNat (48 + n.toNat / 10),UInt8.ofNat (48 + n.toNat % 10)]:=by
 unfold dec
 rw [zpg (by omega),zmT (by omega)]
 rfl
theorem ztq:y9 two = some (ztj,0):=by
 have hall:∀ x ∈ two,okD x/\0 <= x.ID.Seq:=by
  intro x hx
  unfold two at hx
  simp only [List.mem_cons,List.not_mem_nil,or_false] at hx
  rcases hx with rfl | rfl <;> exact ⟨by decide,by decide⟩
 have e:txR two [] = (ztj,0):=by
  unfold two txR txR txR mkT mkB idT
  simp only [zrp (n:=2) (by decide),zrp (n:=3) (by decide),zrp (n:=0) (by decide),zrp (n:=5) (by decide),ztp (n:=50) (by decide),ztp (n:=90) (by decide)]
  rfl
 unfold y9
 rw [if_pos (by unfold two; decide),zlN]
 simp only [zug]
 rw [if_pos trivial,zpy two [] hall,e]
theorem zb6:zi () = some true:=by
 refine W.eq ?_
 unfold zi
 have hm:∀ s u,zV (s,u) = some ⟨⟨2,s,0⟩,u⟩:=fun s u=>rfl
 refine yJ (hm 5 90) ?_
 refine yJ (hm 3 50) ?_
 refine yJ (hm 5 90) ?_
 refine Y8 (ztm (l:=[⟨⟨2,5,0⟩,90⟩]) (d:=⟨⟨2,3,0⟩,50⟩) (by simp) zlM (fun _=>ok1)) fun a ha=>?_
 have ha:a = (two,0):=by
  rcases ha with ⟨h,_⟩ | ⟨_,h,_⟩ | ⟨_,_,q,hq,h⟩
  ·exact absurd rfl h
  ·exact absurd (by decide) h
  ·have:=ztT hq
   subst this
   exact h
 subst ha
 dsimp only
 refine Y8 (ztn (l:=[⟨⟨2,5,0⟩,90⟩]) (d:=⟨⟨2,5,0⟩,0⟩) (by simp) zlM (fun _=>ok1)) fun a ha=>?_
 have ha:a = (true,0):=by
  rcases ha with ⟨h,_⟩ | ⟨_,q,hq,h⟩
  ·exact absurd rfl h
  ·have:=ztU hq
   subst this
   exact h
 subst ha
 dsimp only
 refine Y8 (zpx (l:=two) (now:=50) (by simp [two]) zlN) fun a ha=>?_
 have ha:a = ([⟨⟨2,5,0⟩,90⟩],1,0):=by
  rw [ha]; rfl
 subst ha
 dsimp only
 refine yJ ztq ?_
 refine yJ zlN ?_
 dsimp only
 refine yh (fun _=>?_) fun h=>absurd rfl h
 refine Y8 (zpw two (by simp [two])) fun b hb=>?_
 subst hb
 refine Q0 ?_
 refine yh (fun _=>?_) fun h=>absurd rfl h
 refine Q0 ?_
 refine yh (fun _=>?_) fun h=>absurd rfl h
 refine yh (fun _=>?_) fun h=>absurd rfl h
 refine Y8 (zpw [⟨⟨2,5,0⟩,90⟩] (by simp)) fun b hb=>?_
 subst hb
 refine Q0 ?_
 refine yh (fun _=>?_) fun h=>absurd rfl h
 refine ztI (fun _=>?_) fun h=>absurd h (by decide)
 refine yh (fun _=>?_) fun h=>absurd rfl h
 exact yk rfl
theorem zsA (a:List Mrk) (h:a.length <= 100000):zd (a,a) = some true:=by
 refine W.eq ?_
 unfold zd
 dsimp only
 refine yh (fun h=>absurd rfl h) fun _=>?_
 refine ZG (fun i:Int=>0 <= i/\i <= (a.length:Int)) (fun i=>a.length - i.toNat) ?_ ⟨Int.le_refl _,by omega⟩
 rintro i ⟨i1,i2⟩
 refine yh (fun hi=>?_) fun hi=>yy (yk rfl)
 refine Zr i1 hi fun x hx=>?_
 refine Zr i1 hi fun y hy=>?_
 rw [hx] at hy; cases hy
 simp only [beq_self_eq_true,Bool.and_true,Bool.not_true]
 refine zeW ?_
 refine ZK fun j hj=>qk ⟨⟨by omega,by omega⟩,by omega⟩
theorem zrq {l:List Mrk} (h:fit (YA l)):∀ o ∈ l,0 <= o.ID.Seq:=by
 intro o ho
 have h1:fit (qQ o):=zk7 h.2 _ (List.mem_map.2 ⟨o,ho,rfl⟩)
 have h2:(Lit.int .u64 o.ID.Seq).wf = true:=h1.2.1
 have h3:IntKind.min .u64 <= o.ID.Seq:=by
  simp only [Lit.wf,Bool.and_eq_true,decide_eq_true_eq] at h2
  exact h2.1
 have h4:IntKind.min .u64 = 0:=by decide
 omega
theorem zkm (l:List Mrk) (text:List UInt8) (hl:fit (YA l)):zJ (l,text) = some true:=by
 refine W.eq ?_
 unfold zJ
 dsimp only
 have body:l.length <= 1300->text.length <= 3000->W ((y9 l).bind fun (x_6,x_7) =>
     (zF l).bind fun (x_8,x_9) =>
     (ql text).bind fun (x_10,x_11) =>
     (zA text).bind fun (x_12,x_13) =>
     br (x_6 == x_8)
      (br (x_7 == x_9)
       ((zd (x_10,x_12)).bind fun x_14 =>
       br x_14
        (br ((x_11.Err == x_13.Err) && (x_11.At == x_13.At))
         ((zi ()).bind fun x_15 =>
         some x_15)
         (some false))
        (some false))
       (some false))
      (some false)) fun x=>x = true:=by
  intro h1 h2
  obtain ⟨⟨a,e⟩,p1,p2⟩:=zro l (by omega) (zrq hl)
  obtain ⟨⟨c,f⟩,p3,p4,p5⟩:=zpA text h2
  refine yJ p1 ?_
  refine yJ p2 ?_
  refine yJ p3 ?_
  refine yJ p4 ?_
  dsimp only at p5 ⊢
  simp only [beq_self_eq_true]
  refine Q0 (Q0 ?_)
  refine yJ (zsA c (by omega)) ?_
  exact Q0 (Q0 (yJ zb6 (yk rfl)))
 refine yh (fun _=>?_) fun _=>?_
 ·refine yh (fun _=>yJ zb6 (yk rfl)) fun _=>?_
  refine yh (fun _=>yJ zb6 (yk rfl)) fun _=>?_
  exact yh (fun _=>yJ zb6 (yk rfl)) fun _=>body (by omega) (by omega)
 ·refine yh (fun _=>yJ zb6 (yk rfl)) fun _=>?_
  exact yh (fun _=>yJ zb6 (yk rfl)) fun _=>body (by omega) (by omega)
end Go.Proofs.YtjcbpfhlgebgdaaGreatDoor
