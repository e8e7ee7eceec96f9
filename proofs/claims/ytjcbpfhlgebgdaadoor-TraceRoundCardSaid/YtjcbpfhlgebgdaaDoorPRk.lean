import Derived.Test.YtjcbpfhlgebgdaaDoorPRj
import Derived.Test.YtjcbpfhlgebgdaaDoorXGRd
set_option linter.unusedSimpArgs false
set_option linter.unusedVariables false
namespace Go.Proofs.YtjcbpfhlgebgdaaDoor
open Go Go.Eng Go.RowKit Go.X Go.Seq
structure Good (o:Outc):Prop where
 t:0 ≤ o.Tick∧o.Tick ≤ 1000
 n:1 ≤ o.Node∧o.Node ≤ 4
 k:1 ≤ o.Kind∧o.Kind ≤ 15
 id:if o.Kind ≤ 10∧o.Kind ≠ 5 then 1 ≤ o.ID.Node∧o.ID.Node ≤ 2∧0 ≤ o.ID.Seq∧o.ID.Seq ≤ 2∧o.ID.Off = 0 else o.ID.Node = 0∧o.ID.Seq = 0∧o.ID.Off = 0
 ot:if o.Kind = 6 ∨ o.Kind = 7 ∨ o.Kind = 10 ∨ o.Kind = 11 ∨ o.Kind = 13 then 1 ≤ o.Other∧o.Other ≤ 4∧o.Other ≠ o.Node
  else if o.Kind = 12 then o.Other = 0 ∨ (1 ≤ o.Other∧o.Other ≤ 4∧o.Other ≠ o.Node) else o.Other = 0
theorem mod_w (x:Int):W (packhorsekit_Mod (x,1048576)) fun r=>0 ≤ r∧r < 1048576:=by
 unfold packhorsekit_Mod
 dsimp only
 refine W_brd (fun h=>absurd h (by decide)) (fun _=>?_)
 refine W_remt (by decide) fun c hc=>?_
 have h1:=Int.tmod_lt_of_pos x (b:=1048576) (by decide)
 have h2:=Int.lt_tmod_of_pos x (b:=1048576) (by decide)
 rw [← hc] at h1 h2
 (first | refine W_op fun _ _=>?_ | refine W_if ?_ ?_ <;> intro _ <;> try (exfalso; omega))
 ·(first | refine W_op fun _ _=>?_ | refine W_if ?_ ?_ <;> intro _ <;> try (exfalso; omega))
  exact W_ret (by omega)
 ·exact W_ret (by omega)
theorem usesID_w (k:Int) (h1:1 ≤ k) (h2:k ≤ 15):packhorseref39_UsesID k = some (decide (k ≤ 10∧k ≠ 5)):=by
 have h:k.toNat ≤ 15:=by omega
 have e:k = (k.toNat:Int):=by omega
 generalize k.toNat = n at h e
 subst e
 revert n
 decide +revert
structure Inv (s:List Outc × Int × Int):Prop where
 len:(s.1.length:Int) = s.2.2∧s.2.2 ≤ 30
 good:∀ o ∈ s.1,Good o
 asc:s.1.Pairwise (fun x y=>x.Tick ≤ y.Tick)
 last:∀ o ∈ s.1,o.Tick ≤ s.2.1
 tick:0 ≤ s.2.1∧s.2.1 ≤ 2 * s.2.2
theorem Inv.app {l:List Outc} {t i t' i':Int} {o:Outc} (h:Inv (l,t,i)) (hi:i < 30) (ho:Good o) (ht:o.Tick = t') (h1:t ≤ t') (h2:t' ≤ t + 2) (hi':i' = i + 1):Inv (l++[o],t',i'):=by
 obtain ⟨a,b,c,d,e⟩:=h
 simp only at a b c d e
 refine ⟨by simp; omega,fun x hx=>?_,?_,fun x hx=>?_,by simp only; omega⟩
 ·simp only [List.mem_append,List.mem_singleton] at hx
  rcases hx with hx | rfl
  ·exact b x hx
  ·exact ho
 ·refine List.pairwise_append.2 ⟨c,by simp,fun y hy z hz=>?_⟩
  simp only [List.mem_singleton] at hz
  subst hz
  have:=d y hy
  omega
 ·simp only [List.mem_append,List.mem_singleton] at hx
  rcases hx with hx | rfl
  ·have:=d x hx
   simp only; omega
  ·dsimp only; omega
set_option maxHeartbeats 4000000 in
theorem made_w (nums:List Int):W (packhorselaw39_Made nums) fun l=>l.length ≤ 30∧(∀ o ∈ l,Good o)∧l.Pairwise (fun x y=>x.Tick ≤ y.Tick):=by
 unfold packhorselaw39_Made
 refine W_loop (fun s=>Inv s) (fun s=>30 - s.2.2.toNat) ?_ ⟨by simp,by simp,by simp,by simp,by simp⟩
 rintro ⟨l,tick,i⟩ hI
 have hlen:=hI.len
 have htk:=hI.tick
 simp only at hlen htk
 have fin:W (some l) fun l=>l.length ≤ 30∧(∀ o ∈ l,Good o)∧l.Pairwise (fun x y=>x.Tick ≤ y.Tick):=W_ret ⟨by omega,hI.good,hI.asc⟩
 dsimp only
 (first | refine W_op fun _ _=>?_ | refine W_if ?_ ?_ <;> intro _ <;> try (exfalso; omega))
 ·(first | refine W_op fun _ _=>?_ | refine W_if ?_ ?_ <;> intro _ <;> try (exfalso; omega))
  ·refine W_idx (by omega) (by omega) fun x hx=>?_
   refine W_call (mod_w x) fun n hn=>?_
   clear hx
   iterate 8 (first | refine W_op fun _ _=>?_ | refine W_if ?_ ?_ <;> intro _ <;> try (exfalso; omega))
   rename_i a1 e1 a2 e2 a3 e3 a4 e4 a5 e5 a6 e6 a7 e7 a8 e8
   have hk:1 ≤ a8∧a8 ≤ 15:=by omega
   have hnd:1 ≤ a5∧a5 ≤ 4:=by omega
   have htt:tick ≤ a2∧a2 ≤ tick + 2:=by omega
   clear e1 e2 e3 e4 e5 e6 e7 e8
   refine W_eq (usesID_w a8 hk.1 hk.2) ?_
   refine W_brd (fun hu=>?_) (fun hu=>?_)
   ·iterate 5 (first | refine W_op fun _ _=>?_ | refine W_if ?_ ?_ <;> intro _ <;> try (exfalso; omega))
    rename_i b1 f1 b2 f2 b3 f3 b4 f4 b5 f5
    have hw:Go.IntKind.wrap .u64 b5 = b5:=InR_u64 b5 (by omega)
    rw [hw]
    have hid:1 ≤ b3∧b3 ≤ 2∧0 ≤ b5∧b5 ≤ 2:=by omega
    clear f1 f2 f3 f4 f5
    (first | refine W_op fun _ _=>?_ | refine W_if ?_ ?_ <;> intro _ <;> try (exfalso; omega))
    ·iterate 2 (first | refine W_op fun _ _=>?_ | refine W_if ?_ ?_ <;> intro _ <;> try (exfalso; omega))
     refine W_app (by simp only [List.length_cons,List.length_nil]; omega) ?_
     (first | refine W_op fun _ _=>?_ | refine W_if ?_ ?_ <;> intro _ <;> try (exfalso; omega))
     refine W_next ⟨Inv.app hI (by omega) ⟨?_,?_,?_,?_,?_⟩ rfl (by omega) (by omega) (by omega),?_⟩
     ·dsimp only; omega
     ·dsimp only; omega
     ·dsimp only; omega
     ·dsimp only; split <;> omega
     ·dsimp only; (repeat' split) <;> omega
     ·dsimp only; omega
    (first | refine W_op fun _ _=>?_ | refine W_if ?_ ?_ <;> intro _ <;> try (exfalso; omega))
    ·iterate 2 (first | refine W_op fun _ _=>?_ | refine W_if ?_ ?_ <;> intro _ <;> try (exfalso; omega))
     refine W_app (by simp only [List.length_cons,List.length_nil]; omega) ?_
     (first | refine W_op fun _ _=>?_ | refine W_if ?_ ?_ <;> intro _ <;> try (exfalso; omega))
     refine W_next ⟨Inv.app hI (by omega) ⟨?_,?_,?_,?_,?_⟩ rfl (by omega) (by omega) (by omega),?_⟩
     ·dsimp only; omega
     ·dsimp only; omega
     ·dsimp only; omega
     ·dsimp only; split <;> omega
     ·dsimp only; (repeat' split) <;> omega
     ·dsimp only; omega
    (first | refine W_op fun _ _=>?_ | refine W_if ?_ ?_ <;> intro _ <;> try (exfalso; omega))
    ·iterate 2 (first | refine W_op fun _ _=>?_ | refine W_if ?_ ?_ <;> intro _ <;> try (exfalso; omega))
     refine W_app (by simp only [List.length_cons,List.length_nil]; omega) ?_
     (first | refine W_op fun _ _=>?_ | refine W_if ?_ ?_ <;> intro _ <;> try (exfalso; omega))
     refine W_next ⟨Inv.app hI (by omega) ⟨?_,?_,?_,?_,?_⟩ rfl (by omega) (by omega) (by omega),?_⟩
     ·dsimp only; omega
     ·dsimp only; omega
     ·dsimp only; omega
     ·dsimp only; split <;> omega
     ·dsimp only; (repeat' split) <;> omega
     ·dsimp only; omega
    iterate 3 (first | refine W_op fun _ _=>?_ | refine W_if ?_ ?_ <;> intro _ <;> try (exfalso; omega))
    refine W_app (by simp only [List.length_cons,List.length_nil]; omega) ?_
    (first | refine W_op fun _ _=>?_ | refine W_if ?_ ?_ <;> intro _ <;> try (exfalso; omega))
    refine W_next ⟨Inv.app hI (by omega) ⟨?_,?_,?_,?_,?_⟩ rfl (by omega) (by omega) (by omega),?_⟩
    ·dsimp only; omega
    ·dsimp only; omega
    ·dsimp only; omega
    ·dsimp only; split <;> omega
    ·dsimp only; (repeat' split) <;> omega
    ·dsimp only; omega
   ·iterate 4 (first | refine W_op fun _ _=>?_ | refine W_if ?_ ?_ <;> intro _ <;> try (exfalso; omega))
    ·iterate 2 (first | refine W_op fun _ _=>?_ | refine W_if ?_ ?_ <;> intro _ <;> try (exfalso; omega))
     refine W_app (by simp only [List.length_cons,List.length_nil]; omega) ?_
     (first | refine W_op fun _ _=>?_ | refine W_if ?_ ?_ <;> intro _ <;> try (exfalso; omega))
     refine W_next ⟨Inv.app hI (by omega) ⟨?_,?_,?_,?_,?_⟩ rfl (by omega) (by omega) (by omega),?_⟩
     ·dsimp only; omega
     ·dsimp only; omega
     ·dsimp only; omega
     ·dsimp only; split <;> omega
     ·dsimp only; (repeat' split) <;> omega
     ·dsimp only; omega
    (first | refine W_op fun _ _=>?_ | refine W_if ?_ ?_ <;> intro _ <;> try (exfalso; omega))
    ·iterate 2 (first | refine W_op fun _ _=>?_ | refine W_if ?_ ?_ <;> intro _ <;> try (exfalso; omega))
     refine W_app (by simp only [List.length_cons,List.length_nil]; omega) ?_
     (first | refine W_op fun _ _=>?_ | refine W_if ?_ ?_ <;> intro _ <;> try (exfalso; omega))
     refine W_next ⟨Inv.app hI (by omega) ⟨?_,?_,?_,?_,?_⟩ rfl (by omega) (by omega) (by omega),?_⟩
     ·dsimp only; omega
     ·dsimp only; omega
     ·dsimp only; omega
     ·dsimp only; split <;> omega
     ·dsimp only; (repeat' split) <;> omega
     ·dsimp only; omega
    (first | refine W_op fun _ _=>?_ | refine W_if ?_ ?_ <;> intro _ <;> try (exfalso; omega))
    ·iterate 4 (first | refine W_op fun _ _=>?_ | refine W_if ?_ ?_ <;> intro _ <;> try (exfalso; omega))
     rename_i c1 g1 c2 g2 c3 g3 c4 g4
     have hc:0 ≤ c2∧c2 ≤ 1:=by omega
     have hc4:1 ≤ c4∧c4 ≤ 4∧c4 ≠ a5:=by omega
     clear g1 g2 g3 g4
     have hm:c2 * c4 = 0 ∨ c2 * c4 = c4:=by
      rcases (show c2 = 0 ∨ c2 = 1 by omega) with rfl | rfl
      ·left; simp
      ·right; simp
     refine W_mul (by omega) (by omega) ?_
     intro _ _
     refine W_app (by simp only [List.length_cons,List.length_nil]; omega) ?_
     (first | refine W_op fun _ _=>?_ | refine W_if ?_ ?_ <;> intro _ <;> try (exfalso; omega))
     refine W_next ⟨Inv.app hI (by omega) ⟨?_,?_,?_,?_,?_⟩ rfl (by omega) (by omega) (by omega),?_⟩
     ·dsimp only; omega
     ·dsimp only; omega
     ·dsimp only; omega
     ·dsimp only; split <;> omega
     ·dsimp only; (repeat' split) <;> omega
     ·dsimp only; omega
    refine W_app (by simp only [List.length_cons,List.length_nil]; omega) ?_
    (first | refine W_op fun _ _=>?_ | refine W_if ?_ ?_ <;> intro _ <;> try (exfalso; omega))
    refine W_next ⟨Inv.app hI (by omega) ⟨?_,?_,?_,?_,?_⟩ rfl (by omega) (by omega) (by omega),?_⟩
    ·dsimp only; omega
    ·dsimp only; omega
    ·dsimp only; omega
    ·dsimp only; split <;> omega
    ·dsimp only; (repeat' split) <;> omega
    ·dsimp only; omega
  ·exact W_done fin
 ·exact W_done fin
theorem good_ok {o:Outc} (h:Good o):OKO o:=by
 obtain ⟨h1,h2,h3,h4,h5⟩:=h
 refine ⟨h3,⟨by omega,by omega,by omega,by omega⟩,?_,?_⟩
 ·unfold okName okID
  split at h4
  ·rename_i q
   exact .inl ⟨q,by omega⟩
  ·rename_i q
   exact .inr ⟨q,h4⟩
 ·unfold okOther
  split at h5
  ·rename_i q
   exact .inl ⟨by omega,.inl (by omega)⟩
  ·rename_i q
   split at h5
   ·rename_i q2
    refine .inl ⟨by omega,?_⟩
    rcases h5 with h5 | h5
    ·exact .inr ⟨q2,h5⟩
    ·exact .inl (by omega)
   ·rename_i q2
    exact .inr ⟨by omega,h5⟩
theorem good_seq {o:Outc} (h:Good o):0 ≤ o.ID.Seq:=by
 have:=h.id
 split at this <;> omega
theorem okT_of_pairwise {l:List Outc} (h1:∀ o ∈ l,OKO o) (h2:l.Pairwise fun x y=>x.Tick ≤ y.Tick):OkT l:=by
 refine ⟨h1,fun i x y hx hy=>?_⟩
 obtain ⟨a1,a2⟩:=List.getElem?_eq_some_iff.1 hx
 obtain ⟨b1,b2⟩:=List.getElem?_eq_some_iff.1 hy
 have:=List.pairwise_iff_getElem.1 h2 i (i + 1) a1 b1 (by omega)
 rw [a2,b2] at this
 exact this
open Go Go.Eng Go.RowKit Go.X Go.Seq
theorem same_w (a:List Outc) (h:a.length ≤ 5000):packhorselaw39_same (a,a) = some true:=by
 refine W.eq ?_
 unfold packhorselaw39_same
 dsimp only
 refine W_if (fun h=>absurd rfl h) fun _=>?_
 refine W_loop (fun i:Int=>0 ≤ i∧i ≤ (a.length:Int)) (fun i=>a.length - i.toNat) ?_ ⟨Int.le_refl _,by omega⟩
 rintro i ⟨i1,i2⟩
 refine W_if (fun hi=>?_) fun hi=>W_done (W_ret rfl)
 refine W_idx i1 hi fun x hx=>?_
 refine W_idx i1 hi fun y hy=>?_
 rw [hx] at hy; cases hy
 simp only [beq_self_eq_true,Bool.and_true,Bool.not_true]
 refine W_brF ?_
 refine W_op fun j hj=>W_next ⟨⟨by omega,by omega⟩,by omega⟩
noncomputable def shownL:List Outc:=[⟨5,1,1,⟨1,7,0⟩,0⟩,⟨8,2,6,⟨1,7,0⟩,1⟩,⟨8,1,7,⟨1,7,0⟩,2⟩,⟨9,2,8,⟨1,7,0⟩,0⟩]
theorem shown_w:packhorselaw39_shown () = some shownL:=rfl
theorem dec1 {n:Int} (h:0 ≤ n∧n < 10):dec n = [UInt8.ofNat (48 + n.toNat)]:=by unfold dec; exact dd_lt (by omega)
theorem shown_ok:OkT shownL:=by
 have hid:okID ⟨1,7,0⟩:=by unfold okID; decide
 refine ⟨fun o ho=>?_,fun i x y hx hy=>?_⟩
 ·unfold shownL at ho
  simp only [List.mem_cons,List.not_mem_nil,or_false] at ho
  rcases ho with rfl | rfl | rfl | rfl
  ·exact ⟨by unfold okKind; decide,by decide,.inl ⟨by decide,hid⟩,by unfold okOther; decide⟩
  ·exact ⟨by unfold okKind; decide,by decide,.inl ⟨by decide,hid⟩,by unfold okOther; decide⟩
  ·exact ⟨by unfold okKind; decide,by decide,.inl ⟨by decide,hid⟩,by unfold okOther; decide⟩
  ·exact ⟨by unfold okKind; decide,by decide,.inl ⟨by decide,hid⟩,by unfold okOther; decide⟩
 ·unfold shownL at hx hy
  match i,hx,hy with
  | 0,hx,hy=>cases hx; cases hy; decide
  | 1,hx,hy=>cases hx; cases hy; decide
  | 2,hx,hy=>cases hx; cases hy; decide
  | 3,hx,hy=>cases hy
  | n + 4,hx,hy=>simp at hx
theorem shown_text:textT shownL = [53,32,110,49,32,97,99,99,101,112,116,101,100,32,105,100,61,49,46,55,46,48,10]++[56,32,110,50,32,116,111,111,107,32,105,100,61,49,46,55,46,48,32,97,116,61,49,10]++[56,32,110,49,32,104,97,110,100,101,100,32,105,100,61,49,46,55,46,48,32,97,116,61,50,10]++[57,32,110,50,32,100,101,108,105,118,101,114,101,100,32,105,100,61,49,46,55,46,48,10]:=by
 have d0:dec 0 = [48]:=dec1 (by decide)
 have d1:dec 1 = [49]:=dec1 (by decide)
 have d2:dec 2 = [50]:=dec1 (by decide)
 have d5:dec 5 = [53]:=dec1 (by decide)
 have d7:dec 7 = [55]:=dec1 (by decide)
 have d8:dec 8 = [56]:=dec1 (by decide)
 have d9:dec 9 = [57]:=dec1 (by decide)
 have k1:kw 1 = [97,99,99,101,112,116,101,100]:=by decide +kernel
 have k6:kw 6 = [116,111,111,107]:=by decide +kernel
 have k7:kw 7 = [104,97,110,100,101,100]:=by decide +kernel
 have k8:kw 8 = [100,101,108,105,118,101,114,101,100]:=by decide +kernel
 unfold textT shownL lineT
 simp only [List.flatMap_cons,List.flatMap_nil,wds_join,keyT,d0,d1,d2,d5,d7,d8,d9,k1,k6,k7,k8]
 rfl
theorem shown_seq:∀ o ∈ shownL,0 ≤ o.ID.Seq:=by
 intro o ho
 unfold shownL at ho
 simp only [List.mem_cons,List.not_mem_nil,or_false] at ho
 rcases ho with rfl | rfl | rfl | rfl <;> decide
theorem shown_ct:CT shownL (0,0):=.inr (.inl ⟨by decide,shown_ok,rfl⟩)
theorem valid_w {l:List Outc} {e n:Int} (h:CT l (e,n)):trace_valid l = some e:=by
 obtain ⟨e',h',n',hc⟩:=valid_ct l
 have:=hc.det h
 cases this
 exact h'
theorem of_w:trace_Of (shownL,⟨1,7,0⟩) = some (shownL,0):=by
 have hc:bundle_CheckID ⟨1,7,0⟩ = some 0:=by
  obtain ⟨r,e,⟨rfl,_⟩ | ⟨_,hn⟩⟩:=checkID_s ⟨1,7,0⟩
  ·exact e
  ·exact absurd (by unfold okID; decide) hn
 have h1:trace_filter_f127 shownL ⟨1,7,0⟩ = some (shownL,⟨1,7,0⟩):=by
  refine W.eq ?_
  unfold trace_filter_f127
  exact W_eq (a:=(shownL,⟨1,7,0⟩)) (iter_some.2 ⟨5,by kernel_rfl⟩) (W_ret rfl)
 unfold trace_Of
 dsimp only
 rw [valid_w shown_ct]
 show (bundle_CheckID ⟨1,7,0⟩).bind _ = _
 rw [hc]
 show (trace_filter_f127 shownL ⟨1,7,0⟩).bind _ = _
 rw [h1]; rfl
theorem of8_w:trace_Of (shownL,⟨1,8,0⟩) = some ([],0):=by
 have hc:bundle_CheckID ⟨1,8,0⟩ = some 0:=by
  obtain ⟨r,e,⟨rfl,_⟩ | ⟨_,hn⟩⟩:=checkID_s ⟨1,8,0⟩
  ·exact e
  ·exact absurd (by unfold okID; decide) hn
 have h1:trace_filter_f127 shownL ⟨1,8,0⟩ = some ([],⟨1,8,0⟩):=by
  refine W.eq ?_
  unfold trace_filter_f127
  exact W_eq (a:=([],⟨1,8,0⟩)) (iter_some.2 ⟨5,by kernel_rfl⟩) (W_ret rfl)
 unfold trace_Of
 dsimp only
 rw [valid_w shown_ct]
 show (bundle_CheckID ⟨1,8,0⟩).bind _ = _
 rw [hc]
 show (trace_filter_f127 shownL ⟨1,8,0⟩).bind _ = _
 rw [h1]; rfl
theorem of0_w:trace_Of (shownL,⟨0,1,0⟩) = some ([],2):=by
 have hc:bundle_CheckID ⟨0,1,0⟩ = some 2:=by
  obtain ⟨r,e,⟨_,hn⟩ | ⟨rfl,_⟩⟩:=checkID_s ⟨0,1,0⟩
  ·exact absurd hn (by unfold okID; decide)
  ·exact e
 unfold trace_Of
 dsimp only
 rw [valid_w shown_ct]
 show (bundle_CheckID ⟨0,1,0⟩).bind _ = _
 rw [hc]; rfl
theorem latency7_w:trace_Latency (shownL,⟨1,7,0⟩) = some (4,0):=by
 have h2:trace_filter_f129 shownL = some [⟨5,1,1,⟨1,7,0⟩,0⟩,⟨9,2,8,⟨1,7,0⟩,0⟩]:=by
  refine W.eq ?_
  unfold trace_filter_f129
  exact W_eq (a:=[⟨5,1,1,⟨1,7,0⟩,0⟩,⟨9,2,8,⟨1,7,0⟩,0⟩]) (iter_some.2 ⟨5,by kernel_rfl⟩) (W_ret rfl)
 unfold trace_Latency
 dsimp only
 rw [of_w]
 show (trace_filter_f129 shownL).bind _ = _
 rw [h2]; rfl
theorem latency8_w:trace_Latency (shownL,⟨1,8,0⟩) = some (0,8):=by
 have h2:trace_filter_f129 [] = some []:=by
  refine W.eq ?_
  unfold trace_filter_f129
  exact W_eq (a:=[]) (iter_some.2 ⟨1,by kernel_rfl⟩) (W_ret rfl)
 unfold trace_Latency
 dsimp only
 rw [of8_w]
 show (trace_filter_f129 []).bind _ = _
 rw [h2]; rfl
theorem latency0_w:trace_Latency (shownL,⟨0,1,0⟩) = some (0,2):=by
 unfold trace_Latency
 dsimp only
 rw [of0_w]; rfl
theorem at_shown:trace_At (shownL,2) = some ([⟨8,2,6,⟨1,7,0⟩,1⟩,⟨9,2,8,⟨1,7,0⟩,0⟩],0):=by
 have h1:trace_filter_f128 shownL 2 = some ([⟨8,2,6,⟨1,7,0⟩,1⟩,⟨9,2,8,⟨1,7,0⟩,0⟩],2):=by
  refine W.eq ?_
  unfold trace_filter_f128
  exact W_eq (a:=([⟨8,2,6,⟨1,7,0⟩,1⟩,⟨9,2,8,⟨1,7,0⟩,0⟩],2)) (iter_some.2 ⟨5,by kernel_rfl⟩) (W_ret rfl)
 unfold trace_At
 dsimp only
 rw [valid_w shown_ct]
 show (trace_filter_f128 shownL 2).bind _ = _
 rw [h1]; rfl
def countsL:List Int:=[1,0,0,0,0,1,1,1,0,0,0,0,0,0,0]
theorem count_shown:trace_Count shownL = some (countsL,0):=by
 refine W.eq ?_
 unfold trace_Count
 refine W_eq (valid_w shown_ct) ?_
 refine W_brF ?_
 have hm:mkL (0:Int) 8 (15:Int) (15:Int) = some [0,0,0,0,0,0,0,0,0,0,0,0,0,0,0]:=by kernel_rfl
 refine W_eq hm ?_
 exact W_eq (a:=countsL) (iter_some.2 ⟨5,by kernel_rfl⟩) (W_ret rfl)
noncomputable def turnedL:List Outc:=[⟨5,1,1,⟨1,7,0⟩,0⟩,⟨8,1,7,⟨1,7,0⟩,2⟩,⟨8,2,6,⟨1,7,0⟩,1⟩,⟨9,2,8,⟨1,7,0⟩,0⟩]
noncomputable def wrongL:List Outc:=[⟨8,2,6,⟨1,7,0⟩,1⟩,⟨5,1,1,⟨1,7,0⟩,0⟩,⟨8,1,7,⟨1,7,0⟩,2⟩,⟨9,2,8,⟨1,7,0⟩,0⟩]
theorem turned_ok:OkT turnedL:=by
 refine ⟨fun o ho=>shown_ok.one o ?_,fun i x y hx hy=>?_⟩
 ·unfold turnedL at ho
  unfold shownL
  simp only [List.mem_cons,List.not_mem_nil,or_false] at ho ⊢
  rcases ho with rfl | rfl | rfl | rfl <;> simp
 ·unfold turnedL at hx hy
  match i,hx,hy with
  | 0,hx,hy=>cases hx; cases hy; decide
  | 1,hx,hy=>cases hx; cases hy; decide
  | 2,hx,hy=>cases hx; cases hy; decide
  | 3,hx,hy=>cases hy
  | n + 4,hx,hy=>simp at hx
theorem turned_ct:CT turnedL (0,0):=.inr (.inl ⟨by decide,turned_ok,rfl⟩)
theorem wrong_ct:CT wrongL (19,1):=by
 refine .inr (.inr ⟨by decide,1,rfl,⟨5,1,1,⟨1,7,0⟩,0⟩,rfl,⟨fun o ho=>shown_ok.one o ?_,fun i x y hx hy=>?_⟩,.inr ⟨rfl,shown_ok.one _ (by unfold shownL; simp),⟨8,2,6,⟨1,7,0⟩,1⟩,by decide,rfl,by decide⟩⟩)
 ·unfold wrongL at ho
  unfold shownL
  simp only [List.take_succ_cons,List.take_zero,List.mem_cons,List.not_mem_nil,or_false] at ho ⊢
  rw [ho]; simp
 ·unfold wrongL at hy
  match i,hy with
  | n,hy=>simp at hy
theorem same_turned:trace_Same (shownL,turnedL) = some (true,0):=by
 refine W.eq ?_
 unfold trace_Same
 dsimp only
 refine W_eq (valid_w shown_ct) ?_
 refine W_brF ?_
 refine W_eq (valid_w turned_ct) ?_
 refine W_brF ?_
 refine W_eq (a:=[(⟨5,1,1,⟨1,7,0⟩,0⟩,1),(⟨8,2,6,⟨1,7,0⟩,1⟩,1),(⟨8,1,7,⟨1,7,0⟩,2⟩,1),(⟨9,2,8,⟨1,7,0⟩,0⟩,1)]) (iter_some.2 ⟨5,by kernel_rfl⟩) ?_
 exact W_eq (a:=[]) (iter_some.2 ⟨5,by kernel_rfl⟩) (W_ret rfl)
theorem same_wrong:trace_Same (shownL,wrongL) = some (false,19):=by
 refine W.eq ?_
 unfold trace_Same
 dsimp only
 refine W_eq (valid_w shown_ct) ?_
 refine W_brF ?_
 refine W_eq (valid_w wrong_ct) ?_
 exact W_brT (W_ret rfl)
theorem awake_w:packhorselaw39_awake () = some true:=by
 have hl:(textT shownL).length ≤ 20000:=by rw [shown_text]; decide
 have hp:=Parse_back shown_ok (by decide) shown_seq hl
 have ht:trace_Text shownL = some (textT shownL,0):=by
  obtain ⟨r,e,hr⟩:=text_s shownL (by decide) shown_seq
  rw [e,hr.det (.inr ⟨⟨0,shown_ct⟩,.inr ⟨by omega,rfl⟩⟩)]
 rw [shown_text] at hp ht
 refine W.eq ?_
 unfold packhorselaw39_awake
 refine W_eq hp ?_
 dsimp only
 refine W_eq shown_w ?_
 refine W_eq ht ?_
 dsimp only
 refine W_eq shown_w ?_
 refine W_eq latency7_w ?_
 dsimp only
 refine W_brT ?_
 refine W_eq shown_w ?_
 refine W_eq (same_w shownL (by decide)) ?_
 exact W_brT (W_brT (W_brT (W_brT (W_ret rfl))))
theorem fails_w {ws:List (List UInt8 × List UInt8)} (h:ws ≠ []∧(∀ w ∈ ws,okW w)∧(joinW ws).length ≤ 1000) (hn:¬ ∃ o,OKO o∧0 ≤ o.ID.Seq∧ws = wds o):packhorselaw39_fails (joinW ws++[10]) = some true:=by
 have hl:linesT [ws] = joinW ws++[10]:=by simp [linesT]
 have hr:=Rows_back (ls:=[ws]) (fun l hl=>by rw [List.mem_singleton] at hl; rw [hl]; exact h) (by rw [hl]; simp; omega)
 rw [hl] at hr
 have hp:trace_Parse (joinW ws++[10]) = some ([],⟨3,0⟩):=by
  obtain ⟨r,h1,h3⟩:=parse_s (joinW ws++[10])
  rw [hr] at h1
  cases h1
  rw [h3]
  unfold parseR
  rw [if_neg (by simp)]
  have hw:outW (mkRow (0,posW 0 ws)).Words = none:=outW_none (by
   rintro ⟨o,a,b,c⟩
   refine hn ⟨o,a,b,?_⟩
   rw [← c]
   exact (posW_kt ws 0).symm)
  have hat:atR (mkRow (0,posW 0 ws)) = 0:=by
   cases ws with
   | nil=>exact absurd rfl h.1
   | cons w ws=>rfl
  show some (goT [mkRow (0,posW 0 ws)] 0 []) = _
  rw [goT,if_neg (by omega),hw,hat]
 refine W.eq ?_
 unfold packhorselaw39_fails
 refine W_eq hp ?_
 exact W_ret rfl
theorem bad_wds {a b c:List UInt8} {l:List (List UInt8 × List UInt8)} {o:Outc} (h:OKO o) (hw:([],a) :: ([],b) :: ([],c) :: l = wds o):b = 110 :: dec o.Node∧c = kw o.Kind∧l.length = (if o.Kind ≤ 10∧o.Kind ≠ 5 then 1 else 0) + (if o.Other ≠ 0 then 1 else 0):=by
 unfold wds at hw
 simp only [List.cons_append,List.nil_append,List.cons.injEq,Prod.mk.injEq,true_and] at hw
 obtain ⟨_,h2,h3,h4⟩:=hw
 refine ⟨h2,h3,?_⟩
 rw [h4,List.length_append]
 congr 1 <;> split <;> rfl
theorem kind_of {k j:Int} (hk:okKind k) (hj:okKind j) (h:kw j = kw k):k = j:=by
 have:=kws_inj hk (by rw [← h]; exact kws_at hj)
 unfold okKind at hk hj
 omega
theorem d5:dec 5 = [53]:=dec1 (by decide)
theorem crashed_w:packhorselaw39_fails [53,32,110,49,32,99,114,97,115,104,101,100,32,105,100,61,49,46,55,46,48,10] = some true:=by
 refine fails_w (ws:=[([],[53]),([],[110,49]),([],[99,114,97,115,104,101,100]),([105,100],[49,46,55,46,48])]) ⟨by simp,?_,by decide⟩ ?_
 ·intro w hw
  simp only [List.mem_cons,List.not_mem_nil,or_false] at hw
  rcases hw with rfl | rfl | rfl | rfl
  ·exact ⟨.inl rfl,by decide⟩
  ·exact ⟨.inl rfl,by decide⟩
  ·exact ⟨.inl rfl,by decide⟩
  ·exact ⟨.inr (by decide),by decide⟩
 ·rintro ⟨o,h,_,hw⟩
  obtain ⟨_,h2,h3⟩:=bad_wds h hw
  have hk:o.Kind = 14:=kind_of h.1 (by unfold okKind; decide) (by rw [← h2]; decide +kernel)
  have ho:=h.2.2.2
  unfold okOther at ho
  rw [if_neg (by omega),if_neg (by omega)] at h3
  simp at h3
theorem took_w:packhorselaw39_fails [53,32,110,49,32,116,111,111,107,32,105,100,61,49,46,55,46,48,10] = some true:=by
 refine fails_w (ws:=[([],[53]),([],[110,49]),([],[116,111,111,107]),([105,100],[49,46,55,46,48])]) ⟨by simp,?_,by decide⟩ ?_
 ·intro w hw
  simp only [List.mem_cons,List.not_mem_nil,or_false] at hw
  rcases hw with rfl | rfl | rfl | rfl
  ·exact ⟨.inl rfl,by decide⟩
  ·exact ⟨.inl rfl,by decide⟩
  ·exact ⟨.inl rfl,by decide⟩
  ·exact ⟨.inr (by decide),by decide⟩
 ·rintro ⟨o,h,_,hw⟩
  obtain ⟨_,h2,h3⟩:=bad_wds h hw
  have hk:o.Kind = 6:=kind_of h.1 (by unfold okKind; decide) (by rw [← h2]; decide +kernel)
  have ho:=h.2.2.2
  unfold okOther at ho
  rw [if_pos (by omega),if_pos (by omega)] at h3
  simp at h3
theorem node0_w:packhorselaw39_fails [53,32,110,48,32,99,114,97,115,104,101,100,10] = some true:=by
 refine fails_w (ws:=[([],[53]),([],[110,48]),([],[99,114,97,115,104,101,100])]) ⟨by simp,?_,by decide⟩ ?_
 ·intro w hw
  simp only [List.mem_cons,List.not_mem_nil,or_false] at hw
  rcases hw with rfl | rfl | rfl
  ·exact ⟨.inl rfl,by decide⟩
  ·exact ⟨.inl rfl,by decide⟩
  ·exact ⟨.inl rfl,by decide⟩
 ·rintro ⟨o,h,_,hw⟩
  obtain ⟨h1,_,_⟩:=bad_wds h hw
  have hn:=h.2.1
  have d0:dec 0 = [48]:=dec1 (by decide)
  have h4:dec o.Node = dec 0:=by
   rw [d0]
   exact (List.cons.inj h1).2.symm
  have h5:=numB_dec (n:=o.Node) (by omega) (by omega)
  rw [h4,numB_dec (by omega) (by omega)] at h5
  have:=congrArg Prod.fst h5
  dsimp only at this
  omega
theorem no_flown:∀ k ∈ [1,2,3,4,5,6,7,8,9,10,11,12,13,14,15],([102,108,111,119,110]:List UInt8) ≠ kws.getD k []:=by decide +kernel
theorem flown_w:packhorselaw39_fails [53,32,110,49,32,102,108,111,119,110,10] = some true:=by
 refine fails_w (ws:=[([],[53]),([],[110,49]),([],[102,108,111,119,110])]) ⟨by simp,?_,by decide⟩ ?_
 ·intro w hw
  simp only [List.mem_cons,List.not_mem_nil,or_false] at hw
  rcases hw with rfl | rfl | rfl
  ·exact ⟨.inl rfl,by decide⟩
  ·exact ⟨.inl rfl,by decide⟩
  ·exact ⟨.inl rfl,by decide⟩
 ·rintro ⟨o,h,_,hw⟩
  obtain ⟨_,h2,_⟩:=bad_wds h hw
  exact no_flown _ (mem15 h.1) h2
theorem ints_w:packhorsekit_SameInts (countsL,countsL) = some true:=by
 refine W.eq ?_
 unfold packhorsekit_SameInts
 dsimp only
 refine W_if (fun h=>absurd rfl h) fun _=>?_
 exact W_eq (a:=Sum.inr ()) (iter_some.2 ⟨16,by kernel_rfl⟩) (W_ret rfl)
end Go.Proofs.YtjcbpfhlgebgdaaDoor
