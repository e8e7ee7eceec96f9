import Derived.Test.YtjcbpfhlgebgdaaGreatDoorPTj
import Derived.Test.YtjcbpfhlgebgdaaGreatDoorXGTt
import Derived.Test.YtjcbpfhlgebgdaaGreatDoorXO
set_option linter.unusedSimpArgs false
set_option linter.unusedVariables false
namespace Go.Proofs.YtjcbpfhlgebgdaaGreatDoor
open Go Go.Eng Go.RowKit Go.X Go.Seq
theorem zrj (a:List Outc) (h:a.length <= 5000):zK (a,a) = some true:=by
 refine W.eq ?_
 unfold zK
 dsimp only
 refine yn (fun h=>absurd rfl h) fun _=>?_
 refine Qg (fun i:Int=>0 <= i/\i <= (a.length:Int)) (fun i=>a.length - i.toNat) ?_ ⟨Int.le_refl _,by omega⟩
 rintro i ⟨i1,i2⟩
 refine yn (fun hi=>?_) fun hi=>yK (zx rfl)
 refine Zj i1 hi fun x hx=>?_
 refine Zj i1 hi fun y hy=>?_
 rw [hx] at hy; cases hy
 simp only [beq_self_eq_true,Bool.and_true,Bool.not_true]
 refine zhB ?_
 refine ZW fun j hj=>qn ⟨⟨by omega,by omega⟩,by omega⟩
theorem zs6 (l:List Outc):W (yh l) fun r=>r = true->l.length <= 5010:=by
 unfold yh
 refine yn (fun h=>zx fun _=>by omega) fun h=>?_
 refine yn (fun h=>zx fun q=>?_) fun h=>zx fun q=>by cases q
 simp only [decide_eq_true_eq] at q
 omega
theorem zu4 (l:List Outc) (hl:l.length <= 5010):zp l = some l:=by
 unfold zp
 have:app 56 ([]:List Outc) l = some l:=by unfold app; rw [if_pos (by simp; omega)]; rfl
 rw [this]; rfl
noncomputable def qP:List Outc:=[⟨5,1,1,⟨1,7,0⟩,0⟩,⟨8,2,6,⟨1,7,0⟩,1⟩,⟨8,1,7,⟨1,7,0⟩,2⟩,⟨9,2,8,⟨1,7,0⟩,0⟩]
theorem zjB:zh () = some qP:=rfl
theorem znd {n:Int} (h:0 <= n/\n < 10):dec n = [UInt8.ofNat (48 + n.toNat)]:=by unfold dec; exact zgw (by omega)
theorem zlA:OkT qP:=by
 have hid:Yn ⟨1,7,0⟩:=by unfold Yn; decide
 refine ⟨fun o ho=>?_,fun i x y hx hy=>?_⟩
 ·unfold qP at ho
  simp only [List.mem_cons,List.not_mem_nil,or_false] at ho
  rcases ho with rfl | rfl | rfl | rfl
  ·exact ⟨by unfold yS; decide,by decide,.inl ⟨by decide,hid⟩,by unfold ZS; decide⟩
  ·exact ⟨by unfold yS; decide,by decide,.inl ⟨by decide,hid⟩,by unfold ZS; decide⟩
  ·exact ⟨by unfold yS; decide,by decide,.inl ⟨by decide,hid⟩,by unfold ZS; decide⟩
  ·exact ⟨by unfold yS; decide,by decide,.inl ⟨by decide,hid⟩,by unfold ZS; decide⟩
 ·unfold qP at hx hy
  match i,hx,hy with
  | 0,hx,hy=>cases hx; cases hy; decide
  | 1,hx,hy=>cases hx; cases hy; decide
  | 2,hx,hy=>cases hx; cases hy; decide
  | 3,hx,hy=>cases hy
  | n + 4,hx,hy=>simp at hx
theorem zgR:Zx qP = [53,32,110,49,32,97,99,99,101,112,116,101,100,32,105,100,61,49,46,55,46,48,10]++[56,32,110,50,32,116,111,111,107,32,105,100,61,49,46,55,46,48,32,97,116,61,49,10]++[56,32,110,49,32,104,97,110,100,101,100,32,105,100,61,49,46,55,46,48,32,97,116,61,50,10]++[57,32,110,50,32,100,101,108,105,118,101,114,101,100,32,105,100,61,49,46,55,46,48,10]:=by
 have d0:dec 0 = [48]:=znd (by decide)
 have d1:dec 1 = [49]:=znd (by decide)
 have d2:dec 2 = [50]:=znd (by decide)
 have d5:dec 5 = [53]:=znd (by decide)
 have d7:dec 7 = [55]:=znd (by decide)
 have d8:dec 8 = [56]:=znd (by decide)
 have d9:dec 9 = [57]:=znd (by decide)
 have k1:kw 1 = [97,99,99,101,112,116,101,100]:=by decide +kernel
 have k6:kw 6 = [116,111,111,107]:=by decide +kernel
 have k7:kw 7 = [104,97,110,100,101,100]:=by decide +kernel
 have k8:kw 8 = [100,101,108,105,118,101,114,101,100]:=by decide +kernel
 unfold Zx qP ziy
 simp only [List.flatMap_cons,List.flatMap_nil,zaS,keyT,d0,d1,d2,d5,d7,d8,d9,k1,k6,k7,k8]
 rfl
theorem ziC:∀ o ∈ qP,0 <= o.ID.Seq:=by
 intro o ho
 unfold qP at ho
 simp only [List.mem_cons,List.not_mem_nil,or_false] at ho
 rcases ho with rfl | rfl | rfl | rfl <;> decide
theorem zlB:CT qP (0,0):=.inr (.inl ⟨by decide,zlA,rfl⟩)
theorem zpC:qf (qP,⟨1,7,0⟩) = some (4,0):=by
 have hv:qa qP = some 0:=by
  obtain ⟨e,h,n,hc⟩:=zlv qP
  have:=hc.det zlB
  cases this
  exact h
 have hc:zm ⟨1,7,0⟩ = some 0:=by
  obtain ⟨r,e,⟨rfl,_⟩ | ⟨_,hn⟩⟩:=zcr ⟨1,7,0⟩
  ·exact e
  ·exact absurd (by unfold Yn; decide) hn
 have h1:yD qP ⟨1,7,0⟩ = some (qP,⟨1,7,0⟩):=by
  refine W.eq ?_
  unfold yD
  exact yL (a:=(qP,⟨1,7,0⟩)) (Q2.2 ⟨5,by kernel_rfl⟩) (zx rfl)
 have h2:zI qP = some [⟨5,1,1,⟨1,7,0⟩,0⟩,⟨9,2,8,⟨1,7,0⟩,0⟩]:=by
  refine W.eq ?_
  unfold zI
  exact yL (a:=[⟨5,1,1,⟨1,7,0⟩,0⟩,⟨9,2,8,⟨1,7,0⟩,0⟩]) (Q2.2 ⟨5,by kernel_rfl⟩) (zx rfl)
 have h3:Ye (qP,⟨1,7,0⟩) = some (qP,0):=by
  unfold Ye
  dsimp only
  rw [hv]
  show (zm ⟨1,7,0⟩).bind _ = _
  rw [hc]
  show (yD qP ⟨1,7,0⟩).bind _ = _
  rw [h1]; rfl
 unfold qf
 dsimp only
 rw [h3]
 show (zI qP).bind _ = _
 rw [h2]; rfl
theorem zdJ:zw () = some true:=by
 have hl:(Zx qP).length <= 20000:=by rw [zgR]; decide
 have hp:=znc zlA (by decide) ziC hl
 have ht:qo qP = some (Zx qP,0):=by
  obtain ⟨r,e,hr⟩:=zq6 qP (by decide) ziC
  rw [e,hr.det (.inr ⟨⟨0,zlB⟩,.inr ⟨by omega,rfl⟩⟩)]
 rw [zgR] at hp ht
 refine W.eq ?_
 unfold zw
 refine yL hp ?_
 dsimp only
 refine yL zjB ?_
 refine yL ht ?_
 dsimp only
 refine yL zjB ?_
 refine yL zpC ?_
 dsimp only
 refine zap ?_
 refine yL zjB ?_
 refine yL (zrj qP (by decide)) ?_
 exact zap (zap (zap (zap (zx rfl))))
theorem zoJ {l:List Outc} (h:fit (Z6 l)):∀ o ∈ l,0 <= o.ID.Seq:=by
 intro o ho
 have h1:fit (Y4 o):=zmo h.2 _ (List.mem_map.2 ⟨o,ho,rfl⟩)
 have h2:(Lit.int .u64 o.ID.Seq).wf = true:=h1.2.2.2.2.1
 have h3:IntKind.min .u64 <= o.ID.Seq:=by
  simp only [Lit.wf,Bool.and_eq_true,decide_eq_true_eq] at h2
  exact h2.1
 have h4:IntKind.min .u64 = 0:=by decide
 omega
theorem zjC (l:List Outc) (text:List UInt8) (hl:fit (Z6 l)):zQ (l,text) = some true:=by
 refine W.eq ?_
 unfold zQ
 dsimp only
 refine qM (zs6 l) fun r hr=>?_
 cases r with
 | false=>exact Zs (zhB (yL zdJ (zx rfl)))
 | true =>
  have hlen:=hr rfl
  refine Zs (zap ?_)
  have body:W ((zp l).bind fun x_7 =>
     (qo x_7).bind fun (x_8,x_9) =>
     (z8 l).bind fun (x_10,x_11) =>
     (yN text).bind fun (x_12,x_13) =>
     (zL text).bind fun (x_14,x_15) =>
     br (x_8 == x_10)
      (br (x_9 == x_11)
       ((zK (x_12,x_14)).bind fun x_16 =>
       br x_16
        (br ((x_13.Err == x_15.Err) && (x_13.At == x_15.At))
         ((zw ()).bind fun x_17 =>
         some x_17)
         (some false))
        (some false))
       (some false))
      (some false)) fun x=>x = true:=by
   refine yL (zu4 l hlen) ?_
   refine qM (zq6 l (by omega) (zoJ hl)) fun r hr=>?_
   refine qM (zsW l (zoJ hl)) fun r' hr'=>?_
   obtain rfl:=hr.det hr'
   obtain ⟨a,e⟩:=r
   obtain ⟨⟨c,f⟩,p1,p2,p3⟩:=zri text
   refine yL p1 ?_
   refine yL p2 ?_
   dsimp only at p3 ⊢
   simp only [beq_self_eq_true]
   refine zap (zap ?_)
   refine yL (zrj c p3) ?_
   exact zap (zap (yL zdJ (zx rfl)))
  refine yn (fun _=>?_) fun _=>?_
  ·refine yn (fun _=>yL zdJ (zx rfl)) fun _=>?_
   exact yn (fun _=>yL zdJ (zx rfl)) fun _=>body
  ·exact yn (fun _=>yL zdJ (zx rfl)) fun _=>body
end Go.Proofs.YtjcbpfhlgebgdaaGreatDoor
