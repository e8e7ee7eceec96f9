import Derived.Test.YtjcbpfhlgebgdaaDoorR9
noncomputable section
namespace Go.Run
open Go.RowKit
def NF (fz:Nat × Nat) (a b:Nat):Prop:=∀ j,a ≤ j→j < b→¬ (fz.1 ≤ j∧j < fz.2)
theorem run_storeCells_any (P:Program) (g o:Nat) (t:TypeId) (fz:Nat × Nat):∀ (vs:List Value) (i:Nat) (cur:Array Value) (w:World),w.heap[g]? = some (.cells cur t fz)→NF fz (o + i) (o + i + vs.length)→o + i + vs.length ≤ cur.size→(∀ v ∈ vs,v.oneCell' = true) →
  (storeCells ⟨g,o,none⟩ vs i).run P w = .ok () (w.setRow g (cur.toList.take (o + i)++vs++cur.toList.drop (o + i + vs.length)).toArray)
 | [],i,cur,w,hg,_,_,_=>by
  simp only [storeCells,List.append_nil,List.length_nil,Nat.add_zero,List.take_append_drop,Array.toArray_toList]
  rw [setRow_self w g cur t fz hg]
  rfl
 | v :: rest,i,cur,w,hg,hfz,hl,h1=>by
  have hi:o + i < cur.size:=by simp at hl; omega
  have hadd:(⟨g,o,none⟩:Addr).add i = ⟨g,o + i,none⟩:=by unfold Addr.add; split <;> simp_all
  have hcell:w.cell? ⟨g,o + i,none⟩ = some cur[o + i]:=by simp [World.cell?,hg,hi]
  have hfro:w.frozen? ⟨g,o + i,none⟩ = false:=by
   obtain ⟨lo,hi'⟩:=fz
   have:=hfz (o + i) (Nat.le_refl _) (by simp)
   simp only [World.frozen?,hg,Bool.and_eq_false_iff,decide_eq_false_iff_not]
   simp only at this
   omega
  have hst:(store ((⟨g,o,none⟩:Addr).add i) v).run P w = .ok () (w.setRow g (cur.setIfInBounds (o + i) v)):=by
   rw [hadd,run_store P w _ v _ (h1 v (by simp)),hcell]
   simp [hfro,setCell_eq_setRow w g (o + i) cur t fz v hg]
  have ih:=run_storeCells_any P g o t fz rest (i + 1) (cur.setIfInBounds (o + i) v) (w.setRow g (cur.setIfInBounds (o + i) v)) (setRow_heap w g cur _ t _ hg) (fun j a b=>hfz j (by omega) (by simp; omega)) (by simp at hl ⊢; omega) (fun x hx=>h1 x (by simp [hx]))
  simp only [storeCells,Sem.run_bind,hst,Result.andThen_ok,ih,setRow_setRow]
  congr 3
  have e:=list_seg_step cur.toList (o + i) v rest (by simp at hl ⊢; omega)
  simpa [Array.toList_setIfInBounds,Nat.add_assoc] using e
structure Wrote (b:Nat) (w w':World):Prop where
 size:w'.heap.size = w.heap.size
 block:∀ k,k ≠ b→w'.heap[k]? = w.heap[k]?
 os:w'.os = w.os
 tape:w'.tape = w.tape
 output:w'.output = w.output
theorem Wrote.setRow (w:World) (b:Nat) (cs:Array Value):Wrote b w (w.setRow b cs) :=
 ⟨setRow_size w b cs,fun k hk=>setRow_other w b k cs hk,rfl,rfl,rfl⟩
section
variable {P:Program} {w0:World} {G:Nat} {L:Lam} {H:AH} {w:World}
theorem NF_of {fz fr:Nat × Nat} {base size a b:Nat} (h:(fz = (0,0)∧fr = (0,0)) ∨ (fz = (1,0)∧(fr.2 ≤ fr.1 ∨ size ≤ fr.1)) ∨ (base = 0∧fr = fz) ∨ size < fz.2) (ha:fz.2 ≤ a) (hb:base + b ≤ size):NF fr (base + a) (base + b):=by
 intro j j1 j2 ⟨q1,q2⟩
 rcases h with ⟨rfl,rfl⟩ | ⟨rfl,h | h⟩ | ⟨rfl,rfl⟩ | h
 ·simp at q2
 ·omega
 ·omega
 ·omega
 ·omega
theorem HRel.write (h:HRel w0 G L H w) {b n:Nat} {t:T Value} {ty:TypeId} {op:Option Nat} {fz:Nat × Nat} {p:Pl} (hb:H.get b = some (.cells n t ty op fz)) (hp:L b = some p) (hG:G ≤ b) (hs:small b = true) {off:Nat} {cs xs:List Value}
  (hfit:off + cs.length ≤ n) (_hsm:small n = true) (ho:cs.all (·.oneCell') = true) (hfz:fz.2 ≤ off) (hr:LR L cs xs) :
  ∃ w',(storeCells ⟨p.b,p.base + off,none⟩ xs 0).run P w = .ok () w'∧HRel w0 G L (H.set b (.cells n (t.setRow off cs) ty op fz)) w'∧Wrote p.b w w':=by
 obtain ⟨cur,fr,h1,h2,h3,h4⟩:=h.obj b _ p hb hp
 have hsize:p.base + n ≤ cur.size:=by
  cases op with
  | none=>simp only at h3; omega
  | some sz=>simp only at h3; omega
 have hxl:xs.length = cs.length:=hr.1.symm
 have hone:∀ v ∈ xs,v.oneCell' = true:=by
  intro x hx
  obtain ⟨i,hi,rfl⟩:=List.getElem_of_mem hx
  have hi':i < cs.length:=by omega
  have:=hr.2 i _ _ (List.getElem?_eq_getElem hi') (List.getElem?_eq_getElem hi)
  rw [this.oneCell]
  exact List.all_eq_true.1 ho _ (List.getElem_mem hi')
 have hrun:=run_storeCells_any P p.b (p.base + off) ty fr xs 0 cur w h1 (by
  have:=NF_of (b:=off + xs.length) h2 hfz (by omega)
  simpa [Nat.add_assoc] using this) (by omega) hone
 simp only [Nat.add_zero] at hrun
 refine ⟨_,hrun,?_,Wrote.setRow _ _ _⟩
 have hw:=Wrote.setRow w p.b (cur.toList.take (p.base + off)++xs++cur.toList.drop (p.base + off + xs.length)).toArray
 refine h.upd hb rfl hp hG hs hw.block hw.size hw.os hw.tape hw.output ?_
 refine ⟨_,fr,setRow_heap w p.b cur _ ty fr h1,?_,?_,fun i hi=>?_⟩
 ·rcases h2 with h2 | ⟨a,c | c⟩ | h2 | h2
  ·exact .inl h2
  ·exact .inr (.inl ⟨a,.inl c⟩)
  ·exact .inr (.inl ⟨a,.inr (by simp; omega)⟩)
  ·exact .inr (.inr (.inl h2))
  ·exact .inr (.inr (.inr (by simp; omega)))
 ·have hlen:(cur.toList.take (p.base + off)++xs++cur.toList.drop (p.base + off + xs.length)).toArray.size = cur.size:=by simp; omega
  rw [hlen]; exact h3
 ·rw [T.get_setRow cs t off rfl]
  simp only [List.getElem?_toArray]
  by_cases q:off ≤ i∧i < off + cs.length
  ·rw [if_pos q]
   have hi':i - off < cs.length:=by omega
   obtain ⟨x,q1,q2⟩:=hr.get (List.getElem?_eq_getElem hi')
   refine ⟨_,x,List.getElem?_eq_getElem hi',?_,q2,?_⟩
   ·rw [List.append_assoc,List.getElem?_append_right (by simp; omega)]
    rw [List.getElem?_append_left (by simp; omega)]
    rw [← q1]
    congr 1
    simp; omega
   ·rw [q2.oneCell]; exact List.all_eq_true.1 ho _ (List.getElem_mem hi')
  ·rw [if_neg q]
   obtain ⟨v,x,a1,a2,a3,a4⟩:=h4 i hi
   refine ⟨v,x,a1,?_,a3,a4⟩
   rcases Nat.lt_or_ge i off with r | r
   ·rw [List.append_assoc,List.getElem?_append_left (by simp; omega),List.getElem?_take,if_pos (by omega)]
    simpa using a2
   ·rw [List.getElem?_append_right (by simp; omega),List.getElem?_drop]
    rw [show p.base + off + xs.length + (p.base + i - (List.take (p.base + off) cur.toList++xs).length) = p.base + i by simp; omega]
    simpa using a2
def XOK (r:Result Next) (x:Value) (w':World):Prop:=r = .ok (.value x) w' ∨ (x = undef∧r = .ok .skip w')
def XRel (w0:World) (G:Nat) (L:Lam) (n:Nat) (l:List (Value × AH)) (r:Result Next):Prop :=
 ∃ v H',(v,H') ∈ l∧n ≤ H'.nx∧∃ x w' L',Lam.ext n L L'∧HRel w0 G L' H' w'∧VR L' v x∧XOK r x w'
def storeA (P:Program) (G:Nat) (H:AH) (t:TypeId) (x y:Value):Option AH :=
 match x,sizeT P t with
 | .pointer (some ⟨b,off,none⟩),some sz=>match H.get b with
  | some (.cells n tr ty op fz)=>cond (Nat.ble G b && small b && Nat.beq y.cells.size sz && Nat.ble (off + sz) n && small n && y.cells.toList.all (·.oneCell') && Nat.ble fz.2 off) (some (H.set b (.cells n (tr.setRow off y.cells.toList) ty op fz))) none
  | _=>none
 | _,_=>none
theorem storeA_spec (h:HRel w0 G L H w) {t:TypeId} {v u x y:Value} {H':AH} (hr:storeA P G H t v u = some H') (hx:VR L v x) (hy:VR L u y):∃ w',(Instr.storeAt t x y).run P w = .ok () w'∧HRel w0 G L H' w':=by
 unfold storeA at hr
 split at hr
 ·rename_i b off sz hs
  split at hr
  ·rename_i n tr ty op fz hb
   cases hc:(Nat.ble G b && small b && Nat.beq u.cells.size sz && Nat.ble (off + sz) n && small n && u.cells.toList.all (·.oneCell') && Nat.ble fz.2 off) with
   | false=>rw [hc] at hr; cases hr
   | true =>
    rw [hc] at hr; cases hr
    simp only [Bool.and_eq_true] at hc
    obtain ⟨⟨⟨⟨⟨⟨c1,c2⟩,c3⟩,c4⟩,c5⟩,c6⟩,c7⟩:=hc
    have hsz:u.cells.size = sz:=Nat.eq_of_beq_eq_true c3
    cases hx with
    | ptr hp =>
     rename_i p
     obtain ⟨w',q1,q2,_⟩:=h.write (P:=P) hb hp (by simpa using c1) c2 (off:=off) (cs:=u.cells.toList) (xs:=y.cells.toList) (by simp [hsz]; simpa using c4) c5 c6 (by simpa using c7) hy.cells.toList
     have hys:y.cells.size = sz:=by rw [← hy.cells.1]; exact hsz
     exact ⟨w',by simp [Instr.storeAt,Instr.sureAddr,storeVar,run_sizeOf hs,hys,q1],q2⟩
  ·cases hr
 ·cases hr
end
end Go.Run
