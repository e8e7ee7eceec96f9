import Derived.Test.YtjcbpfhlgebgdaaDoorR4
noncomputable section
namespace Go.Run
open Go.RowKit
def zeroT (P:Program) (t:TypeId):Option Value:=match P.info? t with
 | some i=>match i.zero with
  | some z=>cond (flat z) (some z) none
  | none=>none
 | none=>none
def bndA (v:Value) (y:Nat):Option Nat :=
 match v with
 | .int _ (.ofNat i)=>cond (Nat.ble i y) (some i) none
 | _=>none
def bndsA (len cap:Nat) (lo hi mx:Option Value):Option (Nat × Nat × Nat) :=
 match (match mx with | some v=>bndA v cap | none=>some cap) with
 | none=>none
 | some m=>match (match hi,mx with | some v,_=>bndA v m | none,none=>some len | none,some _=>none) with
  | none=>none
  | some h=>match (match lo with | some v=>bndA v h | none=>some 0) with
   | none=>none
   | some l=>some (l,h,m)
def sliceA (P:Program) (t:TypeId) (x:Value) (lo hi mx:Option Value):Option Value :=
 match elemT P t with
 | some (some n,e)=>match x with
  | .pointer (some ⟨b,o,none⟩)=>match bndsA n n lo hi mx,sizeT P e with
   | some (l,h,m),some sz=>some (.slice (some ⟨b,cond (Nat.beq m l) o (o + l * sz),none⟩) (h - l) (2 * (m - l)))
   | _,_=>none
  | _=>none
 | some (none,e)=>match x with
  | .slice (some ⟨b,o,none⟩) len cap =>
   match bndsA len (cap / 2) lo hi mx,sizeT P e with
   | some (l,h,m),some sz =>
    cond (isOpen cap && mx.isNone)
     (cond (Nat.beq m l) (cond (Nat.beq h l) (cond (Nat.beq l 0) (some (.slice (some ⟨b,o,none⟩) 0 cap)) (some opq)) none) (cond (Nat.ble l m) (some (.slice (some ⟨b,o + l * sz,none⟩) (h - l) (2 * (m - l) + 1))) none))
     (some (.slice (some ⟨b,cond (Nat.beq m l) o (o + l * sz),none⟩) (h - l) (2 * (m - l))))
   | _,_=>none
  | .slice none 0 0=>match bndsA 0 0 lo hi mx,sizeT P e with
   | some (0,0,0),some _=>some (.slice none 0 0)
   | _,_=>none
  | _=>none
 | none=>none
section
variable {P:Program} {w0:World} {G:Nat} {L:Lam} {H:AH} {w:World}
theorem bndA_spec {v x:Value} {y n:Nat} (h:bndA v y = some n) (hr:VR L v x):∃ k,x = .int k (n:Int)∧n ≤ y:=by
 unfold bndA at h
 split at h
 ·rename_i k j
  cases hr
  cases hb:Nat.ble j y with
  | false=>rw [hb] at h; cases h
  | true=>rw [hb] at h; cases h; exact ⟨k,rfl,by simpa using hb⟩
 ·cases h
theorem bndA_mono {v:Value} {y y' n:Nat} (h:bndA v y = some n) (hy:y ≤ y'):bndA v y' = some n:=by
 unfold bndA at h ⊢
 split at h
 ·rename_i k j
  cases hb:Nat.ble j y with
  | false=>rw [hb] at h; cases h
  | true =>
   rw [hb] at h; cases h
   have:n ≤ y:=by simpa using hb
   have:Nat.ble n y' = true:=by simp; omega
   simp only [this]; rfl
 ·cases h
theorem run_sliceBound {v x:Value} {y n:Nat} (h:bndA v y = some n) (hr:VR L v x) (c:BoundsCode) (w:World):(Instr.sliceBound x y c).run P w = .ok n w:=by
 obtain ⟨k,rfl,hn⟩:=bndA_spec h hr
 have:(0:Int) ≤ n∧(n:Int) ≤ y:=by omega
 simp [Instr.sliceBound,asIntOf,this]
def OR (L:Lam):Option Value→Option Value→Prop
 | none,none=>True
 | some v,some x=>VR L v x
 | _,_=>False
theorem run_sliceBounds {lo hi mx lo' hi' mx':Option Value} {len cap l h m:Nat} (hb:bndsA len cap lo hi mx = some (l,h,m)) (h1:OR L lo lo') (h2:OR L hi hi') (h3:OR L mx mx') (b:Bool) (w:World) :
  (Instr.sliceBounds b len cap lo' hi' mx').run P w = .ok (l,h,m) w:=by
 unfold bndsA at hb
 cases mx with
 | none =>
  cases mx' with
  | some _=>exact h3.elim
  | none =>
   cases hi with
   | none =>
    cases hi' with
    | some _=>exact h2.elim
    | none =>
     cases lo with
     | none =>
      cases lo' with
      | some _=>exact h1.elim
      | none=>simp at hb; obtain ⟨rfl,rfl,rfl⟩:=hb; simp [Instr.sliceBounds]
     | some v =>
      cases lo' with
      | none=>exact h1.elim
      | some x =>
       simp only at hb
       split at hb
       ·cases hb
       ·rename_i l' hl; simp at hb; obtain ⟨rfl,rfl,rfl⟩:=hb
        simp [Instr.sliceBounds,run_sliceBound hl h1]
   | some vh =>
    cases hi' with
    | none=>exact h2.elim
    | some xh =>
     simp only at hb
     split at hb
     ·cases hb
     ·rename_i h' hh
      cases lo with
      | none =>
       cases lo' with
       | some _=>exact h1.elim
       | none=>simp at hb; obtain ⟨rfl,rfl,rfl⟩:=hb; simp [Instr.sliceBounds,run_sliceBound hh h2]
      | some v =>
       cases lo' with
       | none=>exact h1.elim
       | some x =>
        simp only at hb
        split at hb
        ·cases hb
        ·rename_i l' hl; simp at hb; obtain ⟨rfl,rfl,rfl⟩:=hb
         simp [Instr.sliceBounds,run_sliceBound hh h2,run_sliceBound hl h1]
 | some vm =>
  cases mx' with
  | none=>exact h3.elim
  | some xm =>
   cases hi with
   | none =>
    simp only at hb
    split at hb
    ·cases hb
    ·cases hb
   | some vh =>
    cases hi' with
    | none=>exact h2.elim
    | some xh =>
     simp only at hb
     split at hb
     ·cases hb
     ·rename_i m' hm
      split at hb
      ·cases hb
      ·rename_i h' hh
       cases lo with
       | none =>
        cases lo' with
        | some _=>exact h1.elim
        | none=>simp at hb; obtain ⟨rfl,rfl,rfl⟩:=hb; simp [Instr.sliceBounds,run_sliceBound hm h3,run_sliceBound hh h2]
       | some v =>
        cases lo' with
        | none=>exact h1.elim
        | some x =>
         simp only at hb
         split at hb
         ·cases hb
         ·rename_i l' hl; simp at hb; obtain ⟨rfl,rfl,rfl⟩:=hb
          simp [Instr.sliceBounds,run_sliceBound hm h3,run_sliceBound hh h2,run_sliceBound hl h1]
theorem bndsA_grow {lo hi mx:Option Value} {len cap cap' l h m:Nat} (hb:bndsA len cap lo hi mx = some (l,h,m)) (hc:cap ≤ cap'):bndsA len cap' lo hi mx = some (l,h,if mx.isNone then cap' else m):=by
 unfold bndsA at hb ⊢
 cases mx with
 | none =>
  simp only at hb ⊢
  cases hi with
  | none =>
   simp only at hb ⊢
   cases lo with
   | none=>simp at hb ⊢; exact ⟨hb.1,hb.2.1⟩
   | some v =>
    simp only at hb ⊢
    split at hb
    ·cases hb
    ·rename_i l' hl; simp at hb ⊢; exact ⟨hb.1,hb.2.1⟩
  | some vh =>
   simp only at hb ⊢
   split at hb
   ·cases hb
   ·rename_i h' hh
    rw [bndA_mono hh hc]
    simp only
    cases lo with
    | none=>simp at hb ⊢; exact ⟨hb.1,hb.2.1⟩
    | some v =>
     simp only at hb ⊢
     split at hb
     ·cases hb
     ·rename_i l' hl; simp at hb ⊢; exact ⟨hb.1,hb.2.1⟩
 | some vm =>
  simp only at hb ⊢
  split at hb
  ·cases hb
  ·rename_i m' hm
   rw [bndA_mono hm hc]
   simpa using hb
theorem run_slice_any {t e:TypeId} {sz l h m:Nat} {b o len cap:Nat} {lo hi mx lo' hi' mx':Option Value} (hu:P.underlying t = some (.slice e)) (hs:sizeT P e = some sz)
  (hb:bndsA len cap lo hi mx = some (l,h,m)) (h1:OR L lo lo') (h2:OR L hi hi') (h3:OR L mx mx') (w:World) :
  (Instr.sliceAt t (.slice (some ⟨b,o,none⟩) len cap) lo' hi' mx').run P w = .ok (.slice (some ⟨b,if m = l then o else o + l * sz,none⟩) (h - l) (m - l)) w:=by
 have:=run_sliceBounds (P:=P) hb h1 h2 h3 true w
 simp only [Instr.sliceAt,Sem.run_bind,run_underlying hu,Result.andThen_ok,Instr.slice,this,run_sizeOf hs,Sem.run_pure]
 by_cases hm:m = l <;> simp [hm,Addr.add_none]
theorem bndsA_none {lo hi:Option Value} {len cap l h m:Nat} (hb:bndsA len cap lo hi none = some (l,h,m)):m = cap:=by
 unfold bndsA at hb
 simp only at hb
 split at hb
 ·cases hb
 ·split at hb
  ·cases hb
  ·cases hb; rfl
theorem sliceA_spec {t:TypeId} {x y r:Value} {lo hi mx lo' hi' mx':Option Value} (hr:sliceA P t x lo hi mx = some r) (hx:VR L x y) (h1:OR L lo lo') (h2:OR L hi hi') (h3:OR L mx mx') (w:World) :
  ∃ z,(Instr.sliceAt t y lo' hi' mx').run P w = .ok z w∧VR L r z:=by
 have cb:∀ (m l a c:Nat),(bif Nat.beq m l then a else c) = if m = l then a else c:=fun m l a c=>by
  by_cases q:m = l
  ·subst q; simp
  ·rw [beqF q,if_neg q]; rfl
 unfold sliceA at hr
 split at hr
 ·rename_i n e he
  have hu:=elemT_array he
  split at hr
  ·rename_i b o
   split at hr
   ·rename_i l h m sz hb hs
    cases hr
    cases hx with
    | ptr hp =>
     rename_i p
     have:=run_sliceBounds (P:=P) hb h1 h2 h3 false w
     refine ⟨.slice (some ⟨p.b,p.base + (if m = l then o else o + l * sz),none⟩) (h - l) (m - l),?_,?_⟩
     ·simp only [Instr.sliceAt,Sem.run_bind,run_underlying hu,Result.andThen_ok,Instr.sureAddr,this,run_sizeOf hs,Sem.run_pure]
      by_cases hm:m = l <;> simp [hm,Addr.add_none,Nat.add_assoc]
     ·rw [cb]
      have hv:=VR.slice (o:=if m = l then o else o + l * sz) (len:=h - l) (cap:=2 * (m - l)) hp
      rwa [ccap_even] at hv
   ·cases hr
  ·cases hr
 ·rename_i e he
  have hu:=elemT_slice he
  split at hr
  ·rename_i b o len cap
   split at hr
   ·rename_i l h m sz hb hs
    cases hx with
    | slice hp =>
     rename_i p
     cases hop:isOpen cap with
     | false =>
      rw [hop] at hr
      simp only [Bool.false_and,cond_false] at hr
      cases hr
      rw [ccap_closed hop]
      refine ⟨_,run_slice_any hu hs hb h1 h2 h3 w,?_⟩
      rw [cb]
      have hv:=VR.slice (o:=if m = l then o else o + l * sz) (len:=h - l) (cap:=2 * (m - l)) hp
      rw [ccap_even] at hv
      by_cases q:m = l
      ·simpa [q] using hv
      ·simpa [q,Nat.add_assoc] using hv
     | true =>
      rw [hop] at hr
      simp only [Bool.true_and] at hr
      rw [ccap_open hop]
      have hcap:=isOpen_spec hop
      cases mx with
      | some vm =>
       simp only [Option.isNone_some,cond_false] at hr
       cases hr
       have hb':=bndsA_grow (cap':=cap / 2 + p.ext) hb (by omega)
       simp only [Option.isNone_some,Bool.false_eq_true,if_false] at hb'
       refine ⟨_,run_slice_any hu hs hb' h1 h2 h3 w,?_⟩
       rw [cb]
       have hv:=VR.slice (o:=if m = l then o else o + l * sz) (len:=h - l) (cap:=2 * (m - l)) hp
       rw [ccap_even] at hv
       by_cases q:m = l
       ·simpa [q] using hv
       ·simpa [q,Nat.add_assoc] using hv
      | none =>
       simp only [Option.isNone_none,cond_true] at hr
       have hmk:=bndsA_none hb
       have hb':=bndsA_grow (cap':=cap / 2 + p.ext) hb (by omega)
       simp only [Option.isNone_none,if_true] at hb'
       have hrun:=run_slice_any (P:=P) (b:=p.b) (o:=p.base + o) hu hs hb' h1 h2 h3 w
       by_cases q:m = l
       ·rw [q] at hr
        simp only [Nat.beq_refl,cond_true] at hr
        by_cases q2:h = l
        ·subst q2
         simp only [Nat.beq_refl,cond_true] at hr
         by_cases q3:h = 0
         ·subst q3
          simp only [Nat.beq_refl,cond_true] at hr
          cases hr
          refine ⟨_,hrun,?_⟩
          have hv:=VR.slice (o:=o) (len:=0) (cap:=cap) hp
          rw [ccap_open hop] at hv
          simpa using hv
         ·rw [beqF q3] at hr
          simp only [cond_false] at hr
          cases hr
          refine ⟨_,hrun,?_⟩
          rw [Nat.sub_self]
          exact .opq _ _
        ·rw [beqF q2] at hr
         simp only [cond_false] at hr
         cases hr
       ·rw [beqF q] at hr
        simp only [cond_false] at hr
        cases hl:Nat.ble l m with
        | false=>rw [hl] at hr; cases hr
        | true =>
         rw [hl] at hr
         cases hr
         have hl:l ≤ m:=by simpa using hl
         refine ⟨_,hrun,?_⟩
         rw [if_neg (by omega)]
         have hv:=VR.slice (o:=o + l * sz) (len:=h - l) (cap:=2 * (m - l) + 1) hp
         rw [ccap_odd,show m - l + p.ext = cap / 2 + p.ext - l by omega] at hv
         simpa [Nat.add_assoc] using hv
   ·cases hr
  ·split at hr
   ·rename_i sz hb hs
    cases hr
    cases hx
    have:=run_sliceBounds (P:=P) hb h1 h2 h3 true w
    exact ⟨.slice none 0 0,by simp [Instr.sliceAt,Sem.run_bind,run_underlying hu,Instr.slice,this,run_sizeOf hs],.nils⟩
   ·cases hr
  ·cases hr
 ·cases hr
end
end Go.Run
