import Derived.Test.YtjcbpfhlgebgdaaDoorR3
noncomputable section
namespace Go.Run
open Go.RowKit
abbrev Ev:=Operand→Value
def opq:Value:=.slice (some ⟨0,0,some 1⟩) 0 0
def intA:Value→Option Int
 | .int _ n=>some n
 | _=>none
def ixA (v:Value) (n:Nat):Option Nat :=
 match v with
 | .int _ (.ofNat i)=>cond (Nat.blt i n) (some i) none
 | _=>none
def fieldAddrA (P:Program) (s:TypeId) (v:Value) (i:Nat):Option Value :=
 match v with
 | .pointer (some ⟨b,o,none⟩)=>match fieldT P s i with
  | some (off,t)=>match sizeT P t with
   | some (_ + 1)=>some (.pointer (some ⟨b,o + off,none⟩))
   | _=>none
  | none=>none
 | _=>none
def elemT (P:Program) (t:TypeId):Option (Option Nat × TypeId) :=
 match P.underlying t with
 | some (.slice e)=>some (none,e)
 | some (.array n e)=>some (some n,e)
 | _=>none
def indexAddrA (P:Program) (t:TypeId) (x ix:Value):Option Value :=
 match elemT P t with
 | some (some n,e)=>match x,ixA ix n,sizeT P e with
  | .pointer (some ⟨b,o,none⟩),some i,some sz=>some (.pointer (some ⟨b,o + i * sz,none⟩))
  | _,_,_=>none
 | some (none,e)=>match x with
  | .slice (some ⟨b,o,none⟩) len _=>match ixA ix len,sizeT P e with
   | some i,some sz=>some (.pointer (some ⟨b,o + i * sz,none⟩))
   | _,_=>none
  | _=>none
 | none=>none
def fieldA (P:Program) (s:TypeId) (x:Value) (i:Nat):Option Value :=
 match x,fieldT P s i with
 | .agg cs,some (off,t)=>partA P t cs.toList off
 | _,_=>none
def indexA (P:Program) (t:TypeId) (x ix:Value):Option Value :=
 match x,elemT P t with
 | .agg cs,some (some n,e)=>match ixA ix n,sizeT P e with
  | some i,some sz=>partA P e cs.toList (i * sz)
  | _,_=>none
 | _,_=>none
section
variable {P:Program} {w0:World} {G:Nat} {L:Lam} {H:AH} {w:World}
theorem ixA_spec {v x:Value} {n i:Nat} (h:ixA v n = some i) (hr:VR L v x):∃ k,x = .int k (i:Int)∧i < n:=by
 unfold ixA at h
 split at h
 ·rename_i k j
  cases hr
  cases hb:Nat.blt j n with
  | false=>rw [hb] at h; cases h
  | true =>
   rw [hb] at h; cases h
   exact ⟨k,rfl,by simpa using hb⟩
 ·cases h
theorem run_fieldAt {s:TypeId} {i off n:Nat} {t:TypeId} (hf:fieldT P s i = some (off,t)) (hs:sizeT P t = some (n + 1)) (b a:Nat) (w:World) :
  (Instr.fieldAt s (.pointer (some ⟨b,a,none⟩)) i).run P w = .ok (.pointer (some ⟨b,a + off,none⟩)) w:=by
 obtain ⟨fs,f,hu,hi,h1,h2⟩:=fieldT_spec hf
 subst h2; subst h1
 simp [Instr.fieldAt,Sem.run_bind,run_underlying hu,hi,Instr.sureAddr,fieldPlace,run_sizeOf hs,Addr.add_none]
theorem fieldAddrA_spec {s:TypeId} {v x r:Value} {i:Nat} (h:fieldAddrA P s v i = some r) (hr:VR L v x) (w:World):∃ y,(Instr.fieldAt s x i).run P w = .ok y w∧VR L r y:=by
 unfold fieldAddrA at h
 split at h
 ·rename_i b o
  cases hr with
  | ptr hp =>
   rename_i p
   split at h
   ·rename_i off t hf
    split at h
    ·rename_i n hs
     cases h
     refine ⟨_,run_fieldAt hf hs _ _ w,?_⟩
     have:=VR.ptr (o:=o + off) hp
     rwa [← Nat.add_assoc] at this
    ·cases h
   ·cases h
 ·cases h
theorem elemT_slice {t e:TypeId} (h:elemT P t = some (none,e)):P.underlying t = some (.slice e):=by
 unfold elemT at h
 split at h <;> first | (cases h; done) | (cases h; assumption)
theorem elemT_array {t e:TypeId} {n:Nat} (h:elemT P t = some (some n,e)):P.underlying t = some (.array n e):=by
 unfold elemT at h
 split at h <;> first | (cases h; done) | (cases h; assumption)
theorem indexAddrA_spec {t:TypeId} {v ix x y r:Value} (h:indexAddrA P t v ix = some r) (hr:VR L v x) (hi:VR L ix y) (w:World):∃ z,(Instr.indexAt t x y).run P w = .ok z w∧VR L r z:=by
 unfold indexAddrA at h
 split at h
 ·rename_i n e he
  have hu:=elemT_array he
  split at h
  ·rename_i b o i sz hix hs
   cases h
   cases hr with
   | ptr hp =>
    rename_i p
    obtain ⟨k,rfl,hlt⟩:=ixA_spec hix hi
    refine ⟨.pointer (some ⟨p.b,p.base + o + i * sz,none⟩),?_,?_⟩
    ·have h2:(0:Int) ≤ i∧(i:Int) < n:=by omega
     simp [Instr.indexAt,Sem.run_bind,asIntOf,run_underlying hu,Instr.sureAddr,h2,run_sizeOf hs,Addr.add_none]
     intro h3; omega
    ·have:=VR.ptr (o:=o + i * sz) hp
     rwa [← Nat.add_assoc] at this
  ·cases h
 ·rename_i e he
  have hu:=elemT_slice he
  split at h
  ·rename_i b o len cap
   split at h
   ·rename_i i sz hix hs
    cases h
    cases hr with
    | slice hp =>
     rename_i p
     obtain ⟨k,rfl,hlt⟩:=ixA_spec hix hi
     refine ⟨.pointer (some ⟨p.b,p.base + o + i * sz,none⟩),?_,?_⟩
     ·have h2:(0:Int) ≤ i∧(i:Int) < len:=by omega
      simp [Instr.indexAt,Sem.run_bind,asIntOf,run_underlying hu,h2,run_sizeOf hs,Addr.add_none]
      intro h3; omega
     ·have:=VR.ptr (o:=o + i * sz) hp
      rwa [← Nat.add_assoc] at this
   ·cases h
  ·cases h
 ·cases h
theorem fieldA_spec {s:TypeId} {v x r:Value} {i:Nat} (h:fieldA P s v i = some r) (hr:VR L v x) (w:World):∃ y,(Instr.field s x i).run P w = .ok y w∧VR L r y:=by
 unfold fieldA at h
 split at h
 ·rename_i cs off t hf
  obtain ⟨fs,f,hu,hi,h1,h2⟩:=fieldT_spec hf
  subst h2; subst h1
  cases hr with
  | agg a b =>
   rename_i xs
   obtain ⟨y,h1,h2⟩:=partA_spec h ⟨a,b⟩ w
   exact ⟨y,by simp [Instr.field,Sem.run_bind,run_underlying hu,hi,asAgg,h1],h2⟩
 ·cases h
theorem indexA_spec {t:TypeId} {v ix x y r:Value} (h:indexA P t v ix = some r) (hr:VR L v x) (hi:VR L ix y) (w:World):∃ z,(Instr.index t x y).run P w = .ok z w∧VR L r z:=by
 unfold indexA at h
 split at h
 ·rename_i cs n e he
  have hu:=elemT_array he
  split at h
  ·rename_i i sz hix hs
   cases hr with
   | agg a b =>
    rename_i xs
    obtain ⟨k,rfl,hlt⟩:=ixA_spec hix hi
    obtain ⟨z,h1,h2⟩:=partA_spec h ⟨a,b⟩ w
    have h3:(0:Int) ≤ i∧(i:Int) < n:=by omega
    exact ⟨z,by simp [Instr.index,Sem.run_bind,asIntOf,run_underlying hu,h3,run_sizeOf hs,h1]; intro h4; omega,h2⟩
  ·cases h
 ·cases h
end
end Go.Run
