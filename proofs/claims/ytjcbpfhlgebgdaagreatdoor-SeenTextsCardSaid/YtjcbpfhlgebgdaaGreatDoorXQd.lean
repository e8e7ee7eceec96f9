import Derived.Test.YtjcbpfhlgebgdaaGreatDoorXGWo
import Derived.Test.YtjcbpfhlgebgdaaGreatDoorQD
open Option renaming bind_some -> zug
set_option linter.unusedSimpArgs false
set_option linter.unusedVariables false
namespace Go.Proofs.YtjcbpfhlgebgdaaGreatDoor
open Go Go.Eng Go.RowKit Go.X Go.Seq
theorem zig {s:Nat} {A B:World} {pr:Nat->Nat->Prop} (h:HL A pr) (hf:Fr s A B) (hs:∀ o,¬ pr s o):HL B pr :=
 ⟨fun b o hp=>Nat.lt_of_lt_of_le (h.lt b o hp) hf.size,fun g vs hg=>by
  obtain ⟨⟨ty,h1⟩,h2⟩:=h.glob g vs hg
  have hne:g ≠ s:=fun e=>hs 0 (by rw [<- e]; exact h2 0 (zlx g vs hg))
  exact ⟨⟨ty,(hf.block g (Array.getElem?_eq_some_iff.1 h1).1 hne).trans h1⟩,h2⟩⟩
theorem zqC {E:Env} {S:List UInt8} {p:Int} {xs:List Value} (h:RL E [.str S,.int .i64 p] xs):xs = [.string ⟨S.toArray⟩,.int .i64 p]:=by
 simp only [RL,R] at h
 obtain ⟨y,ys,rfl,⟨rfl,_⟩,y2,ys2,rfl,rfl,rfl⟩:=h
 rfl
theorem zfv {f:FuncId} {rs:List C} {g:Unit->Scanner->Option (qu rs × Scanner)} (hg:FnB Tryz.prog f [.l 0 0] [(.Scanner,164)] rs g)
  {W:World} {pr:Nat->Nat->Prop} (hl:HL W pr) {s:Nat} (hs:∀ o,¬ pr s o) {S:List UInt8} (hS:S.length <= maxLen) {p:Int} (hb:Bx s ⟨S.toArray⟩ W p) {r:qu rs} {y:Scanner} (he:g () ⟨S,p⟩ = some (r,y)) :
  Calls Tryz.prog f #[.pointer (some ⟨s,0,none⟩)] W fun en W'=>∃ v E,en = .returned v/\R E (zeR rs r) v/\Bx s ⟨y.s.toArray⟩ W' y.pos/\Fr s W W':=by
 have hfn:=hg () ⟨S,p⟩ r y he W pr (fun i=>if i = 0 then some s else none) #[.pointer (some ⟨s,0,none⟩)] hl ?_ ?_ ?_ ?_
 ·refine hfn.mono ?_
  rintro en W' ⟨v,pr',rfl,hr,hin,hk⟩
  refine ⟨v,_,rfl,hr,?_,⟨hk.os,hk.tape,hk.output,hk.size,fun k h hne=>hk.block k h (fun i e=>?_)⟩⟩
  ·obtain ⟨b,h1,h2,_⟩:=hin 0 ⟨[.str y.s,.int .i64 y.pos],164⟩ rfl
   cases h1
   obtain ⟨cur,h3,h4,_⟩:=h2.cells (by show 164 < ZL; decide)
   have:=zqC h4
   show W'.heap[s]? = _
   rw [h3]
   congr 2
   rw [<- Array.toList_inj,this]
  ·split at e
   ·cases e; exact hne rfl
   ·cases e
 ·show RL _ [.loc 0 0] [.pointer (some ⟨s,0,none⟩)]
  simp only [RL,R]
  exact ⟨_,_,rfl,⟨s,rfl,rfl⟩,rfl⟩
 ·intro i B hB
  cases i with
  | zero =>
   cases hB
   refine ⟨s,rfl,⟨fun _=>⟨_,hb,?_,?_⟩,fun h=>absurd h (by show ¬ ZL <= 164; decide)⟩,hs⟩
   ·show RL _ [.str S,.int .i64 p] [.string ⟨S.toArray⟩,.int .i64 p]
    simp only [RL,R]
    exact ⟨_,_,rfl,⟨rfl,hS⟩,_,_,rfl,rfl,rfl⟩
   ·intro y hy; simp at hy; rcases hy with rfl | rfl <;> rfl
  | succ i=>cases hB
 ·intro i j b h1 h2
  split at h1 <;> split at h2 <;> first | omega | (cases h1; done) | (cases h2; done)
 ·intro i hi
  exact if_neg (by have:1 <= i:=hi; omega)
theorem zfw (x:Scanner):ym () x = some (decide (x.pos < (x.s.length:Int)),x):=rfl
theorem zch {S:List UInt8} {p c:Int} {y:Scanner} (h:zb () ⟨S,p⟩ = some (c,y)) :
  y.s = S/\((p < (S.length:Int)/\y.pos = p + 1/\0 <= c/\c < 256/\0 <= p) ∨ (¬ p < (S.length:Int)/\y.pos = p/\c = 0)):=by
 unfold zb at h
 rw [zfw] at h
 simp only [zug] at h
 by_cases hp:p < (S.length:Int)
 ·rw [decide_eq_true hp] at h
  change ((zO .i64 p (1:Int)).bind fun x_4=>(Yb .i64 x_4 (1:Int)).bind fun x_5=>(yi S x_5).bind fun x_6=>some (x_6,(⟨S,x_4⟩:Scanner))) = some (c,y) at h
  cases ha:zO .i64 p (1:Int) with
  | none=>rw [ha] at h; cases h
  | some a =>
   rw [ha] at h
   simp only [zug] at h
   cases hb:Yb .i64 a (1:Int) with
   | none=>rw [hb] at h; cases h
   | some b =>
    rw [hb] at h
    simp only [zug] at h
    cases hc:yi S b with
    | none=>rw [hc] at h; cases h
    | some d =>
     rw [hc] at h
     cases h
     obtain ⟨_,rfl⟩:=zh4 ha
     obtain ⟨_,rfl⟩:=zel hb
     unfold yi idx at hc
     split at hc
     ·rename_i h0
      cases hg:S[(p + 1 - 1).toNat]? with
      | none=>rw [hg] at hc; cases hc
      | some z =>
       rw [hg] at hc
       cases hc
       have:=z.toNat_lt
       exact ⟨rfl,.inl ⟨hp,rfl,by show (0:Int) <= (z.toNat:Int); omega,by show (z.toNat:Int) < 256; omega,by omega⟩⟩
     ·cases hc
 ·rw [decide_eq_false hp] at h
  cases h
  exact ⟨rfl,.inr ⟨hp,rfl,rfl⟩⟩
theorem wrap_u8 (a:Int):0 <= IntKind.wrap .u8 a/\IntKind.wrap .u8 a < 256:=by
 have:IntKind.wrap .u8 a = a % 256:=IntKind.wrap_u8 a
 rw [this]; omega
theorem zgU {S:List UInt8} {p c:Int} {b:Bool} {y:Scanner} (h:zH () ⟨S,p⟩ = some ((c,b),y)) (hp:p <= (S.length:Int)):y.s = S/\p <= y.pos/\y.pos <= (S.length:Int)/\0 <= c/\c < 256:=by
 unfold zH at h
 cases h1:zb () ⟨S,p⟩ with
 | none=>rw [h1] at h; cases h
 | some r1 =>
  obtain ⟨c1,y1⟩:=r1
  rw [h1] at h
  simp only [zug] at h
  obtain ⟨rfl,q1⟩:=zch h1
  have b1:p <= y1.pos/\y1.pos <= (y1.s.length:Int)/\0 <= c1/\c1 < 256:=by omega
  clear q1 h1
  rcases brS h with ⟨_,h⟩ | ⟨_,h⟩
  ·cases h; exact ⟨rfl,b1.1,b1.2.1,by omega,by omega⟩
  rcases brS h with ⟨_,h⟩ | ⟨_,h⟩
  ·cases h; exact ⟨rfl,b1.1,b1.2.1,b1.2.2.1,b1.2.2.2⟩
  rcases brS h with ⟨_,h⟩ | ⟨_,h⟩
  ·cases h; exact ⟨rfl,b1.1,b1.2.1,b1.2.2.1,b1.2.2.2⟩
  rcases brS h with ⟨_,h⟩ | ⟨_,h⟩
  ·cases h2:zb () y1 with
   | none=>rw [h2] at h; cases h
   | some r2 =>
    obtain ⟨c2,y2⟩:=r2
    rw [h2] at h
    simp only [zug] at h
    obtain ⟨e2,q2⟩:=zch (S:=y1.s) (p:=y1.pos) h2
    cases h3:zb () y2 with
    | none=>rw [h3] at h; cases h
    | some r3 =>
     obtain ⟨c3,y3⟩:=r3
     rw [h3] at h
     simp only [zug] at h
     obtain ⟨e3,q3⟩:=zch (S:=y2.s) (p:=y2.pos) h3
     rw [e2] at q3
     have e4:y3.s = y1.s:=e3.trans e2
     have b3:p <= y3.pos/\y3.pos <= (y1.s.length:Int):=by omega
     obtain ⟨i8,_,h⟩:=bind_some h
     obtain ⟨i9,_,h⟩:=bind_some h
     obtain ⟨m,_,h⟩:=bind_some h
     obtain ⟨n,_,h⟩:=bind_some h
     have wu:=wrap_u8 n
     rcases brS h with ⟨_,h⟩ | ⟨_,h⟩
     ·cases h; exact ⟨e4,b3.1,b3.2,wu.1,wu.2⟩
     ·cases h; exact ⟨e4,b3.1,b3.2,wu.1,wu.2⟩
  ·cases h; exact ⟨rfl,b1.1,b1.2.1,by omega,by omega⟩
noncomputable def nxF (S:List UInt8) (p:Int):Option (Int × Int):=(zb () ⟨S,p⟩).map fun r=>(r.1,r.2.pos)
noncomputable def esF (S:List UInt8) (p:Int):Option ((Int × Bool) × Int):=if p <= (S.length:Int) then (zH () ⟨S,p⟩).map fun r=>(r.1,r.2.pos) else none
noncomputable def zu:Unit->Scanner->Option ((List UInt8 × Bool) × Scanner):=fun _ x =>
 if x.s.length <= 1000000/\0 <= x.pos/\x.pos <= (x.s.length:Int) then (qF x.s.length (nxF x.s) (esF x.s) (x.s.length + 1) [] x.pos).map fun r=>(r.1,⟨x.s,r.2⟩) else none
theorem zjB {len:Int} {nx:Int->Option (Int × Int)} {es:Int->Option ((Int × Bool) × Int)}:∀ {k:Nat} {acc:List UInt8} {p:Int} {a:List UInt8} {ok:Bool} {q:Int},qF len nx es k acc p = some ((a,ok),q)->a.length <= acc.length + k
 | 0,acc,p,a,ok,q,h=>by cases h
 | k + 1,acc,p,a,ok,q,h=>by
  unfold qF at h
  split at h
  ·obtain ⟨r,_,h⟩:=bind_some h
   split at h
   ·cases h; omega
   ·split at h
    ·obtain ⟨e,_,h⟩:=bind_some h
     split at h
     ·have:=zjB h; simp at this; omega
     ·cases h; simp
    ·split at h
     ·have:=zjB h; simp at this; omega
     ·cases h; simp
  ·cases h; simp
theorem zu.fn:FnB Tryz.prog 139 [.l 0 0] [(.Scanner,164)] [.str,.bool] zu:=by
 rintro ⟨⟩ x r y h
 obtain ⟨S,p⟩:=x
 unfold zu at h
 split at h
 case isFalse=>cases h
 rename_i hx
 obtain ⟨hx1,hx2,hx3⟩:=hx
 dsimp only at hx1 hx2 hx3
 cases hq:qF (S.length:Int) (nxF S) (esF S) (S.length + 1) [] p with
 | none=>rw [hq] at h; cases h
 | some t =>
 obtain ⟨⟨acc,ok⟩,p1⟩:=t
 rw [hq] at h
 cases h
 have hSm:S.length <= maxLen:=by unfold maxLen; omega
 have hacc:=zjB hq
 intro w pr lam cargs hl hargs hin hinj hlam
 obtain ⟨s,hs0,hbx,hsp⟩:=hin 0 ⟨[.str S,.int .i64 p],164⟩ rfl
 have hc':cargs = #[.pointer (some ⟨s,0,none⟩)]:=by
  have ha:RL ⟨w,pr,lam⟩ [.loc 0 0] cargs.toList:=hargs
  simp only [RL,R] at ha
  obtain ⟨y,ys,e,⟨b,hb,rfl⟩,rfl⟩:=ha
  rw [hs0] at hb; cases hb
  rw [<- Array.toList_inj]; simpa using e
 subst hc'
 have h0:Bx s ⟨S.toArray⟩ w p:=by
  obtain ⟨cur,h3,h4,_⟩:=hbx.cells (by show 164 < ZL; decide)
  have:=zqC h4
  show w.heap[s]? = _
  rw [h3]
  congr 2
  rw [<- Array.toList_inj,this]
 have hsw:s < w.heap.size:=(Array.getElem?_eq_some_iff.1 h0).1
 have hlw:∀ W,Fr s w W->HL W pr:=fun W hf=>zig hl hf hsp
 have hszS:((⟨S.toArray⟩:ByteArray).size:Int) = (S.length:Int):=by
  rw [show (⟨S.toArray⟩:ByteArray).size = S.length from List.size_toArray]
 refine (zn3 s ⟨S.toArray⟩ (S.length:Int) hszS.symm (nxF S) (esF S) w hsw ?_ ?_ ?_ ?_ ?_ (by omega) p ⟨hx2,hx3⟩ h0 _ acc ok p1 hq).mono ?_
 ·intro W q hf hb
  refine (zfv ym.fn (hlw W hf) hsp hSm hb (zfw _)).mono ?_
  rintro e W' ⟨v,E,rfl,hr,h1,h2⟩
  have hr':R E (.bool (decide (q < (S.length:Int)))) v:=hr
  simp only [R] at hr'
  exact ⟨by rw [hr'],h1,h2⟩
 ·intro W q c q' hf hb hn
  unfold nxF at hn
  cases hg:zb () ⟨S,q⟩ with
  | none=>rw [hg] at hn; cases hn
  | some t =>
   obtain ⟨c1,y1⟩:=t
   rw [hg] at hn
   cases hn
   refine (zfv zb.fn (hlw W hf) hsp hSm hb hg).mono ?_
   rintro e W' ⟨v,E,rfl,hr,h1,h2⟩
   have hr':R E (.int .u8 c1) v:=hr
   simp only [R] at hr'
   rw [(zch hg).1] at h1
   exact ⟨by rw [hr'],h1,h2⟩
 ·intro W q c b q' hf hb hn
  unfold esF at hn
  split at hn
  case isFalse=>cases hn
  rename_i hle
  cases hg:zH () ⟨S,q⟩ with
  | none=>rw [hg] at hn; cases hn
  | some t =>
   obtain ⟨⟨c1,b1⟩,y1⟩:=t
   rw [hg] at hn
   cases hn
   refine (zfv zH.fn (hlw W hf) hsp hSm hb hg).mono ?_
   rintro e W' ⟨v,E,rfl,hr,h1,h2⟩
   have hr':R E (.tup [.int .u8 c,.bool b]) v:=hr
   simp only [R,RL] at hr'
   obtain ⟨xs,rfl,y,ys,rfl,rfl,y2,ys2,rfl,rfl,rfl⟩:=hr'
   rw [(zgU hg hle).1] at h1
   exact ⟨rfl,h1,h2⟩
 ·intro q c q' hq' hn
  unfold nxF at hn
  cases hg:zb () ⟨S,q⟩ with
  | none=>rw [hg] at hn; cases hn
  | some t =>
   obtain ⟨c1,y1⟩:=t
   rw [hg] at hn
   cases hn
   have h3:=(zch hg).2
   dsimp only at h3 ⊢
   omega
 ·intro q c b q' hn hle
  unfold esF at hn
  rw [if_pos hle] at hn
  cases hg:zH () ⟨S,q⟩ with
  | none=>rw [hg] at hn; cases hn
  | some t =>
   obtain ⟨⟨c1,b1⟩,y1⟩:=t
   rw [hg] at hn
   cases hn
   have h3:=zgU hg hle
   dsimp only at h3 ⊢
   omega
 ·rintro e W' ⟨rfl,h1,h2⟩
  refine ⟨_,pr,rfl,?_,fun i B hB=>?_,⟨h2.os,h2.tape,h2.output,DLE.any _ _,h2.size,fun k hk hn=>h2.block k hk (fun e=>hn 0 (by rw [e]; exact hs0)),fun _ _ h=>h,fun _ _ h=>.inl h⟩⟩
  ·show R _ (.tup [.str acc,.bool ok]) _
   simp only [R,RL]
   exact ⟨_,rfl,_,_,rfl,⟨rfl,by unfold maxLen; simp at hacc; omega⟩,_,_,rfl,rfl,rfl⟩
  ·cases i with
   | zero =>
    cases hB
    refine ⟨s,hs0,⟨fun _=>⟨_,h1,?_,?_⟩,fun h=>absurd h (by show ¬ ZL <= 164; decide)⟩,hsp⟩
    ·show RL _ [.str S,.int .i64 p1] [.string ⟨S.toArray⟩,.int .i64 p1]
     simp only [RL,R]
     exact ⟨_,_,rfl,⟨rfl,hSm⟩,_,_,rfl,rfl,rfl⟩
    ·intro y hy; simp at hy; rcases hy with rfl | rfl <;> rfl
   | succ i=>cases hB
noncomputable def zu.spec:ze Tryz.prog:=ze.b 139 [.l 0 0] [(.Scanner,164)] [.str,.bool] zu (by kernel_rfl) zu.fn
end Go.Proofs.YtjcbpfhlgebgdaaGreatDoor
