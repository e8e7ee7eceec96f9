import Derived.Test.YtjcbpfhlgebgdaaDoorR2
noncomputable section
namespace Go.Run
open Go.RowKit
def aggT (P:Program) (t:TypeId):Option Bool:=match P.underlying t with
 | some (.struct _) | some (.array _ _)=>some true
 | some _=>some false
 | none=>none
def sizeT (P:Program) (t:TypeId):Option Nat:=(P.info? t).map (·.size)
section
variable {P:Program}
theorem run_isAgg {t:TypeId} {b:Bool} (h:aggT P t = some b) (w:World):(isAgg t).run P w = .ok b w:=by
 unfold aggT at h
 unfold isAgg
 cases hu:P.underlying t with
 | none=>rw [hu] at h; simp at h
 | some d =>
  rw [hu] at h
  rw [Sem.run_bind,run_underlying hu w]
  cases d <;> simp_all
theorem run_sizeOf {t:TypeId} {n:Nat} (h:sizeT P t = some n) (w:World):(sizeOf t).run P w = .ok n w:=by
 unfold sizeT at h
 cases hi:P.info? t with
 | none=>simp [hi] at h
 | some i=>simp [hi] at h; simp [sizeOf,typeInfo,hi,h]
theorem Addr.add_none (b off n:Nat):(⟨b,off,none⟩:Addr).add n = ⟨b,off + n,none⟩:=by
 unfold Addr.add; split <;> simp_all
theorem run_loadVar_agg {t:TypeId} {b off:Nat} {w:World} {xs:List Value} (ha:aggT P t = some true) (hs:sizeT P t = some xs.length)
  (hc:∀ j x,xs[j]? = some x→w.cell? ⟨b,off + j,none⟩ = some x):(loadVar t ⟨b,off,none⟩).run P w = .ok (.agg xs.toArray) w:=by
 have hl:(loadCells ⟨b,off,none⟩ xs.length).run P w = .ok xs.toArray w :=
  run_loadCells_list (P:=P) w ⟨b,off,none⟩ xs (fun j v hv=>by rw [Addr.add_none]; exact hc j v hv)
 simp [loadVar,Sem.run_bind,run_isAgg ha,run_sizeOf hs,hl]
theorem run_loadVar_one {t:TypeId} {b off:Nat} {w:World} {x:Value} (ha:aggT P t = some false)
  (hc:w.cell? ⟨b,off,none⟩ = some x):(loadVar t ⟨b,off,none⟩).run P w = .ok x w:=by
 simp [loadVar,Sem.run_bind,run_isAgg ha,run_load,hc]
def loadA (P:Program) (H:AH) (t:TypeId) (v:Value):Option Value :=
 match v with
 | .pointer (some ⟨b,off,none⟩) =>
  match aggT P t,sizeT P t with
  | some true,some k=>match cellsA H b off k with
   | some vs=>some (.agg vs.toArray)
   | none=>none
  | some false,_=>match cellsA H b off 1 with
   | some [v]=>some v
   | _=>none
  | _,_=>none
 | _=>none
variable {w0:World} {G:Nat} {L:Lam} {H:AH} {w:World}
theorem loadA_spec (h:HRel w0 G L H w) {t:TypeId} {v r x:Value} (hr:loadA P H t v = some r) (hx:VR L v x):∃ a,x = .pointer (some a)∧∃ y,(loadVar t a).run P w = .ok y w∧VR L r y:=by
 unfold loadA at hr
 split at hr
 ·rename_i b off
  cases hx with
  | ptr hp =>
   rename_i p
   refine ⟨_,rfl,?_⟩
   split at hr
   ·rename_i k ha hs
    split at hr
    ·rename_i vs hc
     cases hr
     obtain ⟨xs,q1,q2,q3⟩:=cellsA_spec h hc hp
     refine ⟨.agg xs.toArray,run_loadVar_agg ha (by rw [q2]; exact hs) (fun j x e=>(q3 j x e).1),?_⟩
     exact .agg q1.toArray.1 q1.toArray.2
    ·cases hr
   ·rename_i ha
    split at hr
    ·rename_i v' hc
     cases hr
     obtain ⟨xs,q1,q2,q3⟩:=cellsA_spec h hc hp
     obtain ⟨y,ys,rfl,h1,h2⟩:=q1.cons_inv
     have:=(q3 0 y (by simp)).1
     exact ⟨y,run_loadVar_one ha (by simpa using this),h1⟩
    ·cases hr
   ·cases hr
 ·cases hr
def fieldT (P:Program) (s:TypeId) (i:Nat):Option (Nat × TypeId) :=
 match P.underlying s with
 | some (.struct fs)=>match fs[i]? with
  | some f=>some (f.offset,f.type)
  | none=>none
 | _=>none
theorem fieldT_spec {s:TypeId} {i off:Nat} {t:TypeId} (h:fieldT P s i = some (off,t)):∃ fs f,P.underlying s = some (.struct fs)∧fs[i]? = some f∧f.offset = off∧f.type = t:=by
 unfold fieldT at h
 split at h
 ·rename_i fs hu
  split at h
  ·rename_i f hf; cases h; exact ⟨fs,f,hu,hf,rfl,rfl⟩
  ·cases h
 ·cases h
def partA (P:Program) (t:TypeId) (cs:List Value) (off:Nat):Option Value :=
 match aggT P t,sizeT P t with
 | some true,some n=>some (.agg ((cs.drop off).take n).toArray)
 | some false,_=>cs[off]?
 | _,_=>none
theorem run_part_agg {t:TypeId} {n off:Nat} {xs:Array Value} (ha:aggT P t = some true) (hs:sizeT P t = some n) (w:World) :
  (part t xs off).run P w = .ok (.agg ((xs.toList.drop off).take n).toArray) w:=by
 have:xs.extract off (off + n) = ((xs.toList.drop off).take n).toArray:=by
  apply Array.ext'
  simp [List.extract,Nat.add_sub_cancel_left]
 simp [part,Sem.run_bind,run_isAgg ha,run_sizeOf hs,this]
theorem run_part_one {t:TypeId} {off:Nat} {xs:Array Value} {x:Value} (ha:aggT P t = some false) (hx:xs[off]? = some x) (w:World) :
  (part t xs off).run P w = .ok x w:=by
 simp [part,Sem.run_bind,run_isAgg ha,hx]
theorem partA_spec {t:TypeId} {cs xs:Array Value} {off:Nat} {r:Value} (hr:partA P t cs.toList off = some r) (h:AR L cs xs) (w:World):∃ y,(part t xs off).run P w = .ok y w∧VR L r y:=by
 unfold partA at hr
 split at hr
 ·rename_i n ha hs
  cases hr
  refine ⟨_,run_part_agg ha hs w,?_⟩
  have:=(h.toList.drop off).take n
  exact .agg this.toArray.1 this.toArray.2
 ·rename_i ha
  obtain ⟨x,h1,h2⟩:=h.get (i:=off) (v:=r) (by simpa using hr)
  exact ⟨x,run_part_one ha h1 w,h2⟩
 ·cases hr
end
end Go.Run
