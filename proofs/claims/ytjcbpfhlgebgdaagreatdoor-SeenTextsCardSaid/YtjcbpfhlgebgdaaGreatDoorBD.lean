import Derived.Test.YtjcbpfhlgebgdaaGreatDoorQD
import Derived.Deep.QuietTactic
import Derived.BigQuiet
set_option linter.unusedSimpArgs false
set_option linter.unusedVariables false
namespace Go.Seq
open Go.RowKit Go.Shelf Go.Proofs
theorem Zz {s:Nat} {S:ByteArray} {A:World} {p:Int} (h:Bx s S A p):A.cell? ⟨s,0,none⟩ = some (.string S):=by
 have h':A.heap[s]? = some (.cells #[.string S,.int .i64 p] 164 (0,0)):=h
 simp [World.cell?,h']
theorem Ys {s:Nat} {S:ByteArray} {A:World} {p:Int} (h:Bx s S A p) (o:Nat):A.frozen? ⟨s,o,none⟩ = false:=by
 have h':A.heap[s]? = some (.cells #[.string S,.int .i64 p] 164 (0,0)):=h
 simp [World.frozen?,h']
theorem zfx {s:Nat} {S:ByteArray} {A:World} {p q:Int} (h:Bx s S A p):Bx s S (A.setCell ⟨s,1,none⟩ (.int .i64 q)) q:=heap_setCell_same _ _ 1 _ _ _ h
theorem zjG {s:Nat} {S:ByteArray} {A:World} {p:Int} (h:Bx s S A p) (o:Obj):Bx s S (A.alloc o) p:=(Below.heap_alloc _ _ _ (Array.getElem?_eq_some_iff.1 h).1).trans h
theorem zlg (s:Nat) (S:ByteArray) (W:World) (p:Int) (h:Bx s S W p):Calls Tryz.prog 99 #[.pointer (some ⟨s,0,none⟩)] W fun e W'=>e = .returned (.bool (decide (p < (S.size:Int))))/\∃ m,W' = W.drewN m:=by
 have h0:=Zz h
 have h1:=qB h
 have mixed:Tryz.prog.follows .mixedOrders = true:=by kernel_rfl
 go_enter Tryz.func99,Tryz.ntmps99
 go_wp2
 go_quiet (fail)
 go_wp2
 go_ret
 exact ⟨rfl,_,rfl⟩
def qr (c:Int):Bool:=decide (32 < c) && decide (c < 127) && !decide (c = 34) && !decide (c = 61) && !decide (c = 92)
theorem zmI (c:Int) (W:World):Calls Tryz.prog 140 #[.int .u8 c] W fun e W'=>e = .returned (.bool (qr c))/\W' = W:=by
 go_enter Tryz.func140,Tryz.ntmps140
 by_cases h1:c = 34
 ·subst h1; go_wp2; go_ret; exact ⟨rfl,rfl⟩
 by_cases h2:c = 61
 ·subst h2; go_wp2; go_ret; exact ⟨rfl,rfl⟩
 by_cases h3:c = 92
 ·subst h3; go_wp2; go_ret; exact ⟨rfl,rfl⟩
 by_cases h4:32 < c
 ·by_cases h5:c < 127
  ·go_wp2; go_ret; exact ⟨by simp [qr,h1,h2,h3,h4,h5],rfl⟩
  ·go_wp2; go_ret; exact ⟨by simp [qr,h1,h2,h3,h4,h5],rfl⟩
 ·go_wp2; go_ret; exact ⟨by simp [qr,h1,h2,h3]; omega,rfl⟩
theorem zcS (s:Nat) (S:ByteArray) (W:World) (p:Int) (h:Bx s S W p) (hp:p < (S.size:Int)):Calls Tryz.prog 99 #[.pointer (some ⟨s,0,none⟩)] W fun e W'=>e = .returned (.bool true)/\∃ m,W' = W.drewN m:=by
 have q:=zlg s S W p h
 rwa [decide_eq_true hp] at q
theorem zii (s:Nat) (S:ByteArray) (W:World) (p:Int) (h:Bx s S W p) (hp:(S.size:Int) <= p):Calls Tryz.prog 99 #[.pointer (some ⟨s,0,none⟩)] W fun e W'=>e = .returned (.bool false)/\∃ m,W' = W.drewN m:=by
 have q:=zlg s S W p h
 rwa [decide_eq_false (Int.not_lt.2 hp)] at q
theorem zoK (c:Int) (W:World) (h:qr c = true):Calls Tryz.prog 140 #[.int .u8 c] W fun e W'=>e = .returned (.bool true)/\W' = W:=by
 have q:=zmI c W
 rwa [h] at q
theorem zjH (c:Int) (W:World) (h:qr c = false):Calls Tryz.prog 140 #[.int .u8 c] W fun e W'=>e = .returned (.bool false)/\W' = W:=by
 have q:=zmI c W
 rwa [h] at q
def yj (l:List UInt8):Nat:=(l.takeWhile fun c=>qr (c.toNat:Int)).length
noncomputable def zhw (S:ByteArray) (qd:Int->Option ((List UInt8 × Bool) × Int)) (bare:List UInt8->Option Bool) (p:Int):Option ((List UInt8 × Bool) × Int) :=
 if S.data[p.toNat]? = some 34 then qd (p + 1) else
  (bare ((S.data.toList.drop p.toNat).take (yj (S.data.toList.drop p.toNat)))).map fun b=>(((S.data.toList.drop p.toNat).take (yj (S.data.toList.drop p.toNat)),b),p + (yj (S.data.toList.drop p.toNat):Nat))
theorem zcT:∀ (l:List UInt8) (j:Nat),(j < yj l->∃ h:j < l.length,qr (l[j].toNat:Int) = true)/\(j = yj l->j <= l.length/\∀ h:j < l.length,qr (l[j].toNat:Int) = false)
 | [],j=>⟨fun h=>absurd h (by simp [yj]),fun h=>⟨by simp [yj] at h; omega,fun h2=>absurd h2 (by simp)⟩⟩
 | x :: l,j=>by
  unfold yj
  rw [List.takeWhile_cons]
  cases hx:qr (x.toNat:Int) with
  | false =>
   rw [if_neg (by simp)]
   refine ⟨fun h=>absurd h (by simp),fun h=>?_⟩
   obtain rfl:j = 0:=by simpa using h
   exact ⟨Nat.zero_le _,fun _=>by simpa using hx⟩
  | true =>
   rw [if_pos rfl]
   cases j with
   | zero=>exact ⟨fun _=>⟨by simp,by simpa using hx⟩,fun h=>absurd h (by simp)⟩
   | succ j =>
    obtain ⟨h1,h2⟩:=zcT l j
    refine ⟨fun h=>?_,fun h=>?_⟩
    ·obtain ⟨q1,q2⟩:=h1 (by simpa [yj] using h)
     exact ⟨by simp; omega,by simpa using q2⟩
    ·obtain ⟨q1,q2⟩:=h2 (by simpa [yj] using h)
     exact ⟨by simp; omega,fun h=>by have:=q2 (by simpa using h); simpa using this⟩
theorem zjI {S:ByteArray} {p0 p:Int} {j:Nat} (hj:j < yj (S.data.toList.drop p0.toNat)) (h0:0 <= p0) (hp:p0 + (j:Int) = p):p < (S.size:Int)/\∃ hpn:p.toNat < S.size,qr ((S[p.toNat]'hpn).toNat:Int) = true:=by
 obtain ⟨h1,h2⟩:=(zcT _ j).1 hj
 have hl:S.data.toList.length = S.size:=Array.length_toList
 rw [List.length_drop,hl] at h1
 have hpn:p.toNat < S.size:=by omega
 refine ⟨by omega,hpn,?_⟩
 rw [List.getElem_drop] at h2
 have e:p0.toNat + j = p.toNat:=by omega
 simp only [e] at h2
 exact h2
theorem zjJ {S:ByteArray} {p0 p:Int} {j:Nat} (hj:j = yj (S.data.toList.drop p0.toNat)) (h0:0 <= p0) (h1:p0 <= (S.size:Int)) (hp:p0 + (j:Int) = p):(S.size:Int) <= p ∨ (p < (S.size:Int)/\∃ hpn:p.toNat < S.size,qr ((S[p.toNat]'hpn).toNat:Int) = false):=by
 obtain ⟨h2,h3⟩:=(zcT _ j).2 hj
 have hl:S.data.toList.length = S.size:=Array.length_toList
 rw [List.length_drop,hl] at h2
 by_cases hlt:p < (S.size:Int)
 ·have hpn:p.toNat < S.size:=by omega
  refine .inr ⟨hlt,hpn,?_⟩
  have h3:=h3 (by rw [List.length_drop,hl]; omega)
  rw [List.getElem_drop] at h3
  have e:p0.toNat + j = p.toNat:=by omega
  simp only [e] at h3
  exact h3
 ·exact .inl (Int.not_lt.1 hlt)
theorem zfy (S:ByteArray) (a b:Nat):S.extract a b = ⟨((S.data.toList.drop a).take (b - a)).toArray⟩:=by
 apply ByteArray.ext
 rw [<- Array.toList_inj]
 simp only [ByteArray.data_extract,Array.toList_extract,List.extract_eq_take_drop]
theorem Fr.drewN (s:Nat) (A:World) (n:Nat):Fr s A (A.drewN n):=⟨rfl,rfl,rfl,Nat.le_refl _,fun _ _ _=>rfl⟩
theorem zlh (s:Nat) (A:World) (v:Value) {o:Nat}:Fr s A (A.setCell ⟨s,o,none⟩ v):=⟨rfl,rfl,rfl,by simp,fun k _ hn=>Below.heap_setCell _ _ _ _ (by simpa using hn)⟩
set_option maxRecDepth 20000 in
set_option maxHeartbeats 8000000 in
theorem zqT (s:Nat) (S:ByteArray) (hS:S.size <= 1000000) (qd:Int->Option ((List UInt8 × Bool) × Int)) (bare:List UInt8->Option Bool) (w:World)
  (hQ:∀ W p r p',Fr s w W->Bx s S W p->qd p = some (r,p')->Calls Tryz.prog 139 #[.pointer (some ⟨s,0,none⟩)] W fun e W'=>e = .returned (.tuple #[.string ⟨r.1.toArray⟩,.bool r.2])/\Bx s S W' p'/\Fr s W W')
  (hB:∀ W l b,Fr s w W->bare l = some b->Calls Tryz.prog 141 #[.string ⟨l.toArray⟩] W fun e W'=>e = .returned (.bool b)/\Below W.heap.size W W')
  (p0:Int) (hp0:0 <= p0/\p0 <= (S.size:Int)) (h0:Bx s S w p0) (r:List UInt8 × Bool) (p1:Int) (hb:zhw S qd bare p0 = some (r,p1)) :
  Calls Tryz.prog 124 #[.pointer (some ⟨s,0,none⟩)] w fun e W'=>e = .returned (.tuple #[.string ⟨r.1.toArray⟩,.bool r.2])/\Bx s S W' p1/\Fr s w W':=by
 have mixed:Tryz.prog.follows .mixedOrders = true:=by kernel_rfl
 have hc0:=Zz h0
 have hc1:=qB h0
 have hf1:=Ys h0 1
 have hsw:s < w.heap.size:=(Array.getElem?_eq_some_iff.1 h0).1
 obtain ⟨h00,h01⟩:=hp0
 have hbx:∀ A:World,Bx s S w p0->Bx s S w p0:=fun _ h=>h
 unfold zhw at hb
 by_cases hlt:p0 < (S.size:Int)
 ·have hpn:p0.toNat < S.size:=by omega
  have hgt:S.data[p0.toNat]? = some (S[p0.toNat]'hpn):=Array.getElem?_eq_getElem hpn
  rw [hgt] at hb
  by_cases h34:(S[p0.toNat]'hpn) = 34
  ·rw [if_pos (by rw [h34])] at hb
   have b34:((S[p0.toNat]'hpn).toNat:Int) = 34:=by rw [h34]; rfl
   go_enter Tryz.func124,Tryz.ntmps124
   go_wp2
   go_quiet ((go_at_call 99; exact Calls.quiet_of (zcS s S _ p0 h0 hlt)))
   have wr1:wrap64 (p0 + 1) = p0 + 1:=IntWalk.wrap64_in _ (by omega)
   have hw2:Bx s S ((w.drewN nq).setCell ⟨s,1,none⟩ (.int .i64 (p0 + 1))) (p0 + 1):=zfx (A:=w.drewN nq) h0
   have fr2:Fr s w ((w.drewN nq).setCell ⟨s,1,none⟩ (.int .i64 (p0 + 1))):=(Fr.drewN s w _).trans (zlh s _ _)
   go_wp2_with (go_at_call 139; refine (hQ _ (p0 + 1) r p1 fr2 hw2 hb).mono ?_; rintro e W1 ⟨rfl,x1,x2⟩)
   go_ret2
   exact ⟨rfl,x1,fr2.trans x2⟩
  ·rw [if_neg (by simpa using h34)] at hb
   cases hbb:bare ((S.data.toList.drop p0.toNat).take (yj (S.data.toList.drop p0.toNat))) with
   | none=>rw [hbb] at hb; cases hb
   | some b =>
   rw [hbb] at hb
   cases hb
   have b34:¬ ((S[p0.toNat]'hpn).toNat:Int) = 34:=fun h=>h34 (UInt8.toNat_inj.1 (by show _ = 34; omega))
   go_enter Tryz.func124,Tryz.ntmps124
   go_wp2
   go_quiet ((go_at_call 99; exact Calls.quiet_of (zcS s S _ p0 h0 hlt)))
   go_wp2
   go_loopw [] (fun wr=>∃ j:Nat,j <= yj (S.data.toList.drop p0.toNat)/\Bx s S wr (p0 + j)/\Fr s w wr)
    (fun wr=>match wr.cell? ⟨s,1,none⟩ with | some (.int _ p)=>((S.size:Int) - p).toNat | _=>0)
   case atStart=>exact ⟨0,Nat.zero_le _,by rw [Int.natCast_zero,Int.add_zero]; exact h0,Fr.drewN _ _ _⟩
   case round =>
    obtain ⟨j,i1,i2,i3⟩:=hrel
    have hcell:=qB i2
    have hcf:=Ys i2 1
    have hc0:=Zz i2
    obtain ⟨p,hp⟩:∃ p,p0 + (j:Int) = p:=⟨_,rfl⟩
    rw [hp] at i2 hcell
    have hp00:0 <= p:=by omega
    by_cases hj:j < yj (S.data.toList.drop p0.toNat)
    ·obtain ⟨hp2,hpn,hpl⟩:=zjI hj h00 hp
     go_wp2
     go_quiet (first | (go_at_call 99; exact Calls.quiet_of (zcS s S _ p i2 hp2)) | (go_at_call 140; exact Calls.quiet_of_same (zoK _ _ hpl)))
     have wr1:wrap64 (p + 1) = p + 1:=IntWalk.wrap64_in _ (by omega)
     go_wp2
     go_roundw
     case rel=>exact ⟨j + 1,hj,by have:=zfx (q:=p + 1) i2; rw [show p0 + ((j + 1:Nat):Int) = p + 1 by omega]; exact this,i3.trans ((Fr.drewN s wr _).trans (zlh s _ _))⟩
     case measure =>
      rw [hcell,qB (zfx (A:=wr.drewN nq) (q:=p + 1) i2)]
      show ((S.size:Int) - (p + 1)).toNat < ((S.size:Int) - p).toNat
      omega
    ·have hje:j = yj (S.data.toList.drop p0.toNat):=by omega
     have hex:S.extract p0.toNat p.toNat = ⟨((S.data.toList.drop p0.toNat).take (yj (S.data.toList.drop p0.toNat))).toArray⟩:=by rw [zfy,<- hje,show p.toNat - p0.toNat = j by omega]
     have hb1:p0 <= p:=by omega
     have hb2:p <= (S.size:Int):=by have:=((zcT _ j).2 hje).1; rw [List.length_drop] at this; have hl:S.data.toList.length = S.size:=Array.length_toList; omega
     rcases zjJ hje h00 h01 hp with hp2 | ⟨hp2,hpn,hpl⟩
     ·go_wp2
      go_quiet ((go_at_call 99; exact Calls.quiet_of (zii s S _ p i2 hp2)))
      go_wp2
      go_quiet (fail)
      go_wp2_with (go_at_call 141; go_loud (refine (hB (wr.drewN _) _ b ⟨i3.os,i3.tape,i3.output,i3.size,i3.block⟩ hbb).mono ?_); rintro e W1 ⟨rfl,x1⟩)
      go_ret2
      refine ⟨by first | rfl | rw [hex],?_,Fr.trans (B:=wr.drewN _) ⟨i3.os,i3.tape,i3.output,i3.size,i3.block⟩ (Fr.of_below x1 (Nat.le_refl _))⟩
      rw [<- hje,hp]
      refine ZO (A:=wr.drewN _) ?_ x1 (Array.getElem?_eq_some_iff.1 i2).1; exact i2 -- (Array.getElem?_eq_some_iff.1 i2).1
     ·go_wp2
      go_quiet (first | (go_at_call 99; exact Calls.quiet_of (zcS s S _ p i2 hp2)) | (go_at_call 140; exact Calls.quiet_of_same (zjH _ _ hpl)))
      go_wp2
      go_quiet (fail)
      go_wp2_with (go_at_call 141; go_loud (refine (hB (wr.drewN _) _ b ⟨i3.os,i3.tape,i3.output,i3.size,i3.block⟩ hbb).mono ?_); rintro e W1 ⟨rfl,x1⟩)
      go_ret2
      refine ⟨by first | rfl | rw [hex],?_,Fr.trans (B:=wr.drewN _) ⟨i3.os,i3.tape,i3.output,i3.size,i3.block⟩ (Fr.of_below x1 (Nat.le_refl _))⟩
      rw [<- hje,hp]
      refine ZO (A:=wr.drewN _) ?_ x1 (Array.getElem?_eq_some_iff.1 i2).1; exact i2 -- (Array.getElem?_eq_some_iff.1 i2).1
 ·have hgt:(S.size:Int) <= p0:=Int.not_lt.1 hlt
  have hge:S.data[p0.toNat]? = none:=Array.getElem?_eq_none (by show S.size <= _; omega)
  rw [if_neg (by rw [hge]; simp)] at hb
  cases hbb:bare ((S.data.toList.drop p0.toNat).take (yj (S.data.toList.drop p0.toNat))) with
  | none=>rw [hbb] at hb; cases hb
  | some b =>
  rw [hbb] at hb
  cases hb
  go_enter Tryz.func124,Tryz.ntmps124
  go_wp2
  go_quiet ((go_at_call 99; exact Calls.quiet_of (zii s S _ p0 h0 hgt)))
  go_wp2
  go_loopw [] (fun wr=>∃ j:Nat,j <= yj (S.data.toList.drop p0.toNat)/\Bx s S wr (p0 + j)/\Fr s w wr)
   (fun wr=>match wr.cell? ⟨s,1,none⟩ with | some (.int _ p)=>((S.size:Int) - p).toNat | _=>0)
  case atStart=>exact ⟨0,Nat.zero_le _,by rw [Int.natCast_zero,Int.add_zero]; exact h0,Fr.drewN _ _ _⟩
  case round =>
   obtain ⟨j,i1,i2,i3⟩:=hrel
   have hcell:=qB i2
   have hcf:=Ys i2 1
   have hc0:=Zz i2
   obtain ⟨p,hp⟩:∃ p,p0 + (j:Int) = p:=⟨_,rfl⟩
   rw [hp] at i2 hcell
   have hp00:0 <= p:=by omega
   by_cases hj:j < yj (S.data.toList.drop p0.toNat)
   ·obtain ⟨hp2,hpn,hpl⟩:=zjI hj h00 hp
    exfalso; omega
   ·have hje:j = yj (S.data.toList.drop p0.toNat):=by omega
    have hex:S.extract p0.toNat p.toNat = ⟨((S.data.toList.drop p0.toNat).take (yj (S.data.toList.drop p0.toNat))).toArray⟩:=by rw [zfy,<- hje,show p.toNat - p0.toNat = j by omega]
    have hb1:p0 <= p:=by omega
    have hb2:p <= (S.size:Int):=by have:=((zcT _ j).2 hje).1; rw [List.length_drop] at this; have hl:S.data.toList.length = S.size:=Array.length_toList; omega
    rcases zjJ hje h00 h01 hp with hp2 | ⟨hp2,hpn,hpl⟩
    ·go_wp2
     go_quiet ((go_at_call 99; exact Calls.quiet_of (zii s S _ p i2 hp2)))
     go_wp2
     go_quiet (fail)
     go_wp2_with (go_at_call 141; go_loud (refine (hB (wr.drewN _) _ b ⟨i3.os,i3.tape,i3.output,i3.size,i3.block⟩ hbb).mono ?_); rintro e W1 ⟨rfl,x1⟩)
     go_ret2
     refine ⟨by first | rfl | rw [hex],?_,Fr.trans (B:=wr.drewN _) ⟨i3.os,i3.tape,i3.output,i3.size,i3.block⟩ (Fr.of_below x1 (Nat.le_refl _))⟩
     rw [<- hje,hp]
     refine ZO (A:=wr.drewN _) ?_ x1 (Array.getElem?_eq_some_iff.1 i2).1; exact i2 -- (Array.getElem?_eq_some_iff.1 i2).1
    ·go_wp2
     go_quiet (first | (go_at_call 99; exact Calls.quiet_of (zcS s S _ p i2 hp2)) | (go_at_call 140; exact Calls.quiet_of_same (zjH _ _ hpl)))
     go_wp2
     go_quiet (fail)
     go_wp2_with (go_at_call 141; go_loud (refine (hB (wr.drewN _) _ b ⟨i3.os,i3.tape,i3.output,i3.size,i3.block⟩ hbb).mono ?_); rintro e W1 ⟨rfl,x1⟩)
     go_ret2
     refine ⟨by first | rfl | rw [hex],?_,Fr.trans (B:=wr.drewN _) ⟨i3.os,i3.tape,i3.output,i3.size,i3.block⟩ (Fr.of_below x1 (Nat.le_refl _))⟩
     rw [<- hje,hp]
     refine ZO (A:=wr.drewN _) ?_ x1 (Array.getElem?_eq_some_iff.1 i2).1; exact i2 -- (Array.getElem?_eq_some_iff.1 i2).1
end Go.Seq
