import Derived.Test.YtjcbpfhlgebgdaaDoorR5
noncomputable section
namespace Go.Run
open Go.RowKit
theorem VR.oneCell {L:Lam} {v x:Value} (h:VR L v x):x.oneCell' = v.oneCell':=by cases h <;> rfl
theorem run_getObj {P:Program} {w:World} {r:Nat} {o:Obj} (h:w.heap[r]? = some o) (hc:(match o with | .cells ..=>false | _=>true) = true):(getObj r).run P w = .ok o w:=by
 cases o <;> first | (simp at hc; done) | simp [getObj,Sem.run,h]
section
variable {P:Program} {w0:World} {G:Nat} {L:Lam} {H:AH} {w:World}
theorem zeroT_spec {t:TypeId} {z:Value} (h:zeroT P t = some z):(∀ w,(zeroValue t).run P w = .ok z w)∧flat z = true:=by
 unfold zeroT at h
 split at h
 ·rename_i i hi
  split at h
  ·rename_i z' hz
   cases hf:flat z' with
   | false=>rw [hf] at h; cases h
   | true =>
    rw [hf] at h; cases h
    exact ⟨fun w=>by simp [zeroValue,typeInfo,hi,hz],hf⟩
  ·cases h
 ·cases h
def fillA (place:Nat→Option (Nat × Nat)) (cells:List Value):List (Nat × Value)→Option (List Value)
 | []=>some cells
 | (i,v) :: rest=>match place i with
  | some (off,size)=>cond (Nat.beq v.cells.size size && Nat.ble (off + size) cells.length) (fillA place (cells.take off++v.cells.toList++cells.drop (off + size)) rest) none
  | none=>none
theorem foldl_set (xs:List Value):∀ (j:Nat) (cs:Array Value) (off:Nat),off + j + xs.length ≤ cs.size →
  ((xs.zipIdx j).foldl (fun cs (c,j)=>cs.setIfInBounds (off + j) c) cs).toList = cs.toList.take (off + j)++xs++cs.toList.drop (off + j + xs.length):=by
 induction xs with
 | nil=>intro j cs off h; simp
 | cons x xs ih =>
  intro j cs off h
  simp only [List.zipIdx_cons,List.foldl_cons]
  rw [ih (j + 1) _ off (by simp at h ⊢; omega)]
  have e:∀ (l:List Value) (k:Nat),k + (x :: xs).length ≤ l.length→(l.set k x).take (k + 1)++xs++(l.set k x).drop (k + 1 + xs.length) = l.take k++(x :: xs)++l.drop (k + (x :: xs).length):=by
   intro l k hk
   simp only [List.length_cons] at hk
   have h1:(l.set k x).take (k + 1) = l.take k++[x]:=by
    rw [List.take_add_one,List.take_set_of_le (Nat.le_refl k)]
    congr 1
    rw [List.getElem?_set_self (by omega)]; rfl
   have h2:(l.set k x).drop (k + 1 + xs.length) = l.drop (k + (x :: xs).length):=by
    rw [List.drop_set_of_lt (by omega)]
    simp [Nat.add_assoc,Nat.add_comm 1]
   rw [h1,h2]; simp
  have:=e cs.toList (off + j) (by simp only [List.length_cons,Array.length_toList] at h ⊢; omega)
  simpa [Array.toList_setIfInBounds,Nat.add_assoc] using this
theorem fillA_spec {place:Nat→Option (Nat × Nat)}:∀ (parts vals:List (Nat × Value)) (cells:List Value) (cur:Array Value) (out:List Value),
  parts.map (·.1) = vals.map (·.1)→LR L (parts.map (·.2)) (vals.map (·.2))→LR L cells cur.toList→fillA place cells parts = some out →
  ∃ cur':Array Value,Instr.fill place cur vals = some cur'∧LR L out cur'.toList
 | [],vals,cells,cur,out,h1,_,h3,h5=>by
  simp only [fillA,Option.some.injEq] at h5; subst h5
  have:vals = []:=by cases vals with | nil=>rfl | cons _ _=>simp at h1
  subst this
  exact ⟨cur,rfl,h3⟩
 | (i,v) :: parts,vals,cells,cur,out,h1,h2,h3,h5=>by
  cases vals with
  | nil=>simp at h1
  | cons x vals =>
   obtain ⟨i',x⟩:=x
   simp only [List.map_cons,List.cons.injEq] at h1
   obtain ⟨rfl,h1⟩:=h1
   simp only [List.map_cons] at h2
   obtain ⟨hv,h2⟩:=h2.of_cons
   simp only [fillA] at h5
   split at h5
   ·rename_i off size hp
    cases hc:(Nat.beq v.cells.size size && Nat.ble (off + size) cells.length) with
    | false=>rw [hc] at h5; cases h5
    | true =>
     rw [hc] at h5
     simp only [cond_true] at h5
     simp only [Bool.and_eq_true] at hc
     have hsz:v.cells.size = size:=Nat.eq_of_beq_eq_true hc.1
     have hfit:off + size ≤ cells.length:=by simpa using hc.2
     have hcells:=hv.cells
     have hsx:x.cells.size = size:=by rw [← hcells.1]; exact hsz
     have hlen:=h3.1
     simp at hlen
     have hfold:=foldl_set x.cells.toList 0 cur off (by simp [hsx]; omega)
     simp only [Nat.add_zero,Array.length_toList,hsx] at hfold
     generalize hcur':(x.cells.zipIdx.foldl (fun cs (c,j)=>cs.setIfInBounds (off + j) c) cur) = cur'
     have hcur'':cur'.toList = cur.toList.take off++x.cells.toList++cur.toList.drop (off + size):=by
      rw [← hfold,← hcur',← Array.foldl_toList,Array.toList_zipIdx]
     obtain ⟨cf,q1,q2⟩:=fillA_spec parts vals _ cur' out h1 h2 (by
      rw [hcur'']; exact ((h3.take off).append hcells.toList).append (h3.drop (off + size))) h5
     refine ⟨cf,?_,q2⟩
     simp only [Instr.fill,hp,hsx]
     rw [if_neg (by simp; omega),hcur']
     exact q1
   ·cases h5
def placesA (P:Program):List Field→Option (List (Nat × Nat))
 | []=>some []
 | f :: fs=>match sizeT P f.type,placesA P fs with
  | some n,some l=>some ((f.offset,n) :: l)
  | _,_=>none
theorem placesA_spec {g:Field→Sem (Nat × Nat)} (hg:∀ f n w,sizeT P f.type = some n→(g f).run P w = .ok (f.offset,n) w):∀ (fs:List Field) (l:List (Nat × Nat)) (w:World),placesA P fs = some l →
  (fs.mapM g).run P w = .ok l w
 | [],l,w,h=>by simp only [placesA,Option.some.injEq] at h; subst h; simp
 | f :: fs,l,w,h=>by
  simp only [placesA] at h
  split at h
  ·rename_i n l' hs hr
   cases h
   simp [List.mapM_cons,hg f n w hs,placesA_spec hg fs l' w hr]
  ·cases h
def buildA (P:Program) (t:TypeId) (parts:List (Nat × Value)):Option Value :=
 match zeroT P t with
 | none=>none
 | some z=>match P.underlying t with
  | some (.struct fs)=>match placesA P fs.toList with
   | some l=>match fillA (fun i=>l[i]?) z.cells.toList parts with
    | some out=>some (.agg out.toArray)
    | none=>none
   | none=>none
  | some (.array _ e)=>match sizeT P e with
   | some n=>match fillA (fun i=>some (i * n,n)) z.cells.toList parts with
    | some out=>some (.agg out.toArray)
    | none=>none
   | none=>none
  | _=>none
theorem buildA_spec {t:TypeId} {parts vals:List (Nat × Value)} {r:Value} (hr:buildA P t parts = some r) (h1:parts.map (·.1) = vals.map (·.1)) (h2:LR L (parts.map (·.2)) (vals.map (·.2))) (w:World) :
  ∃ y,(Instr.build t vals.toArray).run P w = .ok y w∧VR L r y:=by
 unfold buildA at hr
 split at hr
 ·cases hr
 ·rename_i z hz
  obtain ⟨hzr,hzf⟩:=zeroT_spec hz
  have hz0:LR L z.cells.toList z.cells.toList:=((VR.refl_flat (L:=L) hzf).cells).toList
  split at hr
  ·rename_i fs hu
   split at hr
   ·rename_i l hl
    split at hr
    ·rename_i out ho
     cases hr
     obtain ⟨cur,q1,q2⟩:=fillA_spec parts vals _ z.cells out h1 h2 hz0 ho
     have hm:∀ g:Field→Sem (Nat × Nat),(∀ f n w,sizeT P f.type = some n→(g f).run P w = .ok (f.offset,n) w)→(fs.mapM g).run P w = .ok l.toArray w:=by
      intro g hg
      rw [← Array.toArray_toList (xs:=fs),List.mapM_toArray]
      simp [placesA_spec hg fs.toList l w hl]
     have hm':=hm (fun f=>Prod.mk f.offset <$> sizeOf f.type) (fun f n w hs=>by simp [run_sizeOf hs])
     exact ⟨.agg cur,by simp [Instr.build,hzr w,run_underlying hu,hm',q1],.agg (by simpa using q2.1) (AR.of_toList q2).2⟩
    ·cases hr
   ·cases hr
  ·rename_i len e hu
   split at hr
   ·rename_i n hs
    split at hr
    ·rename_i out ho
     cases hr
     obtain ⟨cur,q1,q2⟩:=fillA_spec parts vals _ z.cells out h1 h2 hz0 ho
     exact ⟨.agg cur,by simp [Instr.build,hzr w,run_underlying hu,run_sizeOf hs,q1],.agg (by simpa using q2.1) (AR.of_toList q2).2⟩
    ·cases hr
   ·cases hr
  ·cases hr
def lenA (P:Program) (H:AH) (t:TypeId) (x:Value):Option Value :=
 match P.underlying t with
 | some (.array n _)=>some (goInt n)
 | some (.pointer e)=>match P.underlying e with
  | some (.array n _)=>some (goInt n)
  | _=>none
 | some (.slice _)=>match x with
  | .slice _ n _=>some (goInt n)
  | _=>none
 | some (.map _ _)=>match x with
  | .map (some b)=>match H.get b with
   | some (.map es _)=>some (goInt es.length)
   | _=>none
  | .map none=>some (goInt 0)
  | _=>none
 | some .string=>match x with
  | .string s=>some (goInt s.size)
  | _=>none
 | _=>none
theorem lenA_spec (h:HRel w0 G L H w) {t u:TypeId} {v x r:Value} (hr:lenA P H t v = some r) (hx:VR L v x):(Builtin.len_ #[t] u #[x]).run P w = .ok r w∧flat r = true:=by
 unfold lenA at hr
 split at hr
 ·rename_i n e hu
  cases hr
  exact ⟨by simp [Builtin.len_,run_underlying hu],rfl⟩
 ·rename_i e hu
  split at hr
  ·rename_i n e2 hu2
   cases hr
   exact ⟨by simp [Builtin.len_,run_underlying hu,run_underlying hu2],rfl⟩
  ·cases hr
 ·rename_i e hu
  split at hr
  ·rename_i b n c
   cases hr
   cases hx <;> exact ⟨by simp [Builtin.len_,run_underlying hu],rfl⟩
  ·cases hr
 ·rename_i k e hu
  split at hr
  ·rename_i b
   split at hr
   ·rename_i es clock hb
    cases hr
    cases hx with
    | map hp =>
     rename_i p
     obtain ⟨es',h1,h2⟩:=h.obj b _ p hb hp
     have:es'.size = es.length:=by have:=h2.1; simpa using this.symm
     exact ⟨by simp [Builtin.len_,run_underlying hu,run_getObj h1 rfl,this],rfl⟩
   ·cases hr
  ·cases hr
   cases hx
   exact ⟨by simp [Builtin.len_,run_underlying hu],rfl⟩
  ·cases hr
 ·rename_i hu
  split at hr
  ·cases hr
   cases hx
   exact ⟨by simp [Builtin.len_,run_underlying hu],rfl⟩
  ·cases hr
 ·cases hr
def capA (P:Program) (t:TypeId) (x:Value):Option Value :=
 match P.underlying t with
 | some (.slice _)=>match x with
  | .slice (some ⟨_,_,none⟩) _ c=>cond (isOpen c) none (some (goInt (c / 2:Nat)))
  | .slice none 0 0=>some (goInt 0)
  | _=>none
 | some (.array n _)=>some (goInt n)
 | _=>none
theorem capA_spec {t u:TypeId} {v x r:Value} (hr:capA P t v = some r) (hx:VR L v x) (w:World):(Builtin.cap_ #[t] u #[x]).run P w = .ok r w∧flat r = true:=by
 unfold capA at hr
 split at hr
 ·rename_i e hu
  split at hr
  ·rename_i b o n c
   cases hc:isOpen c with
   | true=>rw [hc] at hr; cases hr
   | false =>
    rw [hc] at hr; cases hr
    cases hx with
    | slice hp=>exact ⟨by simp [Builtin.cap_,run_underlying hu,ccap_closed hc],rfl⟩
  ·cases hr
   cases hx
   exact ⟨by simp [Builtin.cap_,run_underlying hu],rfl⟩
  ·cases hr
 ·rename_i n e hu
  cases hr
  exact ⟨by simp [Builtin.cap_,run_underlying hu],rfl⟩
 ·cases hr
end
end Go.Run
