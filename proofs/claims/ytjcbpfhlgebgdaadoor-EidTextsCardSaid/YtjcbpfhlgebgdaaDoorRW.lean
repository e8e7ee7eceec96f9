import Derived.Test.YtjcbpfhlgebgdaaDoorR12
noncomputable section
namespace Go.Run
open Go.RowKit
section
variable {P:Program} {w0:World} {G:Nat} {L:Lam} {H:AH} {w:World}
def mapEntryA (P:Program) (G:Nat) (H:AH) (t:TypeId) (m k:Value):Option (Value × AH) :=
 match mapT P t with
 | none=>none
 | some (kt,et)=>match m with
  | .map (some b)=>match H.get b with
   | some (.map es clock)=>cond (Nat.ble G b && small b) (match pureRun P (Instr.checkKey false 10000 kt k),findA P kt k es with
    | some _,some (some j)=>match es[j]? with
     | some e=>cond (Instr.sameBits 10000 e.key k) (some (.tuple #[e.val,goInt e.born],H.set b (.map (es.set j { e with key:=k }) clock))) none
     | none=>none
    | some _,some none=>match zeroT P et with
     | some z=>some (.tuple #[z,goInt clock],H.set b (.map (es++[{ key:=k,val:=z,born:=clock }]) (clock + 1)))
     | none=>none
    | _,_=>none) none
   | _=>none
  | _=>none
def entryStoreA (G:Nat) (H:AH) (m s v:Value):Option AH :=
 match m,s with
 | .map (some b),.int _ (.ofNat n)=>match H.get b with
  | some (.map es clock)=>cond (Nat.ble G b && small b) (match es.findIdx? (fun e=>Nat.beq e.born n) with
   | some j=>match es[j]? with
    | some e=>some (H.set b (.map (es.set j { e with val:=v }) clock))
    | none=>none
   | none=>none) none
  | _=>none
 | _,_=>none
def deleteA (P:Program) (G:Nat) (H:AH) (t:TypeId) (m k:Value):Option AH :=
 match mapT P t with
 | none=>none
 | some (kt,_)=>match m with
  | .map (some b)=>match H.get b with
   | some (.map es clock)=>cond (Nat.ble G b && small b) (match findA P kt k es with
    | some (some j)=>some (H.set b (.map (es.eraseIdx j) clock))
    | some none=>some (H.set b (.map es clock))
    | none=>none) none
   | _=>none
  | _=>none
theorem MR.findIdx {p:Nat→Bool}:∀ {es es':List MapEntry},MR L es es'→es'.findIdx? (fun e=>p e.born) = es.findIdx? (fun e=>p e.born)
 | [],es',h=>by
  have:es' = []:=List.eq_nil_of_length_eq_zero (by simpa using h.1.symm)
  subst this; rfl
 | e :: es,[],h=>by have:=h.1; simp at this
 | e :: es,e' :: es',h=>by
  have h0:=h.2 0 e e' (by simp) (by simp)
  have ht:MR L es es':=⟨by have:=h.1; simpa using this,fun i a b h1 h2=>h.2 (i + 1) a b (by simpa using h1) (by simpa using h2)⟩
  rw [List.findIdx?_cons,List.findIdx?_cons,MR.findIdx ht,h0.born]
theorem MR.eraseIdx {es es':List MapEntry} (h:MR L es es') (j:Nat):MR L (es.eraseIdx j) (es'.eraseIdx j) :=
 ⟨by simp only [List.length_eraseIdx,h.1],fun i a b h1 h2=>by
  rw [List.getElem?_eraseIdx] at h1 h2
  split at h1
  ·rename_i q; rw [if_pos q] at h2; exact h.2 i a b h1 h2
  ·rename_i q; rw [if_neg q] at h2; exact h.2 (i + 1) a b h1 h2⟩
theorem toList_modify (es:Array MapEntry) {j:Nat} {e:MapEntry} (hj:es[j]? = some e) (f:MapEntry→MapEntry):(es.modify j f).toList = es.toList.set j (f e):=by
 apply List.ext_getElem?
 intro i
 rw [Array.getElem?_toList,Array.getElem?_modify,List.getElem?_set,Array.getElem?_toList]
 by_cases q:j = i
 ·subst q
  have:j < es.size:=(Array.getElem?_eq_some_iff.1 hj).1
  have hje:es[j] = e:=(Array.getElem?_eq_some_iff.1 hj).2
  simp [this,hje]
 ·simp [q]
theorem HRel.setMap (h:HRel w0 G L H w) {b:Nat} {es:List MapEntry} {clock:Nat} {p:Pl} {es':Array MapEntry} (hb:H.get b = some (.map es clock)) (hp:L b = some p) (hG:G ≤ b) (hs:small b = true) (h1:w.heap[p.b]? = some (.map es' clock))
  {es2:List MapEntry} {es2':Array MapEntry} {c2:Nat} (hm:MR L es2 es2'.toList):HRel w0 G L (H.set b (.map es2 c2)) { w with heap:=w.heap.setIfInBounds p.b (.map es2' c2) }:=by
 have hw:=Wrote.setObj w p.b (.map es2' c2)
 exact h.upd hb rfl hp hG hs hw.block hw.size hw.os hw.tape hw.output ⟨es2',at_setObj h1,hm⟩
theorem mapEntryA_spec (h:HRel w0 G L H w) {t:TypeId} {m k v m' k':Value} {H':AH} (hr:mapEntryA P G H t m k = some (v,H')) (hm:VR L m m') (hk:VR L k k'):∃ x w',(Instr.mapEntry t m' k').run P w = .ok x w'∧VR L v x∧HRel w0 G L H' w':=by
 unfold mapEntryA at hr
 split at hr
 ·cases hr
 ·rename_i kt et ht
  have hu:=mapT_spec ht
  split at hr
  ·rename_i b
   split at hr
   ·rename_i es clock hb
    obtain ⟨c0,hr⟩:=cc hr
    simp only [Bool.and_eq_true] at c0
    cases hm with
    | map hp =>
     rename_i p
     obtain ⟨es',h1,h2⟩:=h.obj b _ p hb hp
     split at hr
     ·rename_i u j hck hf
      obtain ⟨rfl,q1,e,e',q2,q3,q4,q5⟩:=findA_spec hf hk h2 w
      rw [q2] at hr
      simp only at hr
      obtain ⟨c1,hr⟩:=cc hr
      cases hr
      have hck':=pureRun_run _ hck w
      have hkey:e'.key = e.key:=by
       unfold findA at hf
       obtain ⟨c2,_⟩:=cc hf
       simp only [Bool.and_eq_true,List.all_eq_true] at c2
       exact q4.key.eq_flat (c2.2 e (List.mem_of_getElem? q2))
      have hj:es'[j]? = some e':=by simpa using q3
      refine ⟨.tuple #[e'.val,goInt e.born],_,?_,VR.pair q4.val (.int _ _),h.setMap hb hp (ble c0.1) c0.2 h1 (es2':=es'.modify j fun e=>{ e with key:=k' }) (c2:=clock) (by
       rw [toList_modify es' hj]
       exact h2.set ⟨hk,q4.val,q4.born⟩)⟩
      ·simp [Instr.mapEntry,run_underlying hu,run_getObj h1 rfl,hck',q5,Instr.keyThatStays,hj,hkey,c1,q4.born,run_setObj' h1 rfl]
     ·rename_i u hck hf
      obtain ⟨rfl,q1,q5⟩:=findA_spec hf hk h2 w
      split at hr
      ·rename_i z hz
       obtain ⟨z1,z2⟩:=zeroT_spec hz
       cases hr
       have hck':=pureRun_run _ hck w
       refine ⟨.tuple #[z,goInt clock],_,?_,VR.pair (VR.refl_flat z2) (.int _ _),h.setMap hb hp (ble c0.1) c0.2 h1 (es2':=es'.push { key:=k',val:=z,born:=clock }) (c2:=clock + 1) (by
        have:=h2.push (e:={ key:=k',val:=z,born:=clock }) (e':={ key:=k',val:=z,born:=clock }) ⟨hk,VR.refl_flat z2,rfl⟩
        simpa using this)⟩
       ·simp [Instr.mapEntry,run_underlying hu,run_getObj h1 rfl,hck',q5,z1,run_setObj' h1 rfl]
      ·cases hr
     ·cases hr
   ·cases hr
  ·cases hr
theorem entryStoreA_spec (h:HRel w0 G L H w) {t:TypeId} {m s v m' s' v':Value} {H':AH} (hr:entryStoreA G H m s v = some H') (hm:VR L m m') (hs:VR L s s') (hv:VR L v v'):∃ w',(Instr.entryStore t m' s' v').run P w = .ok () w'∧HRel w0 G L H' w':=by
 unfold entryStoreA at hr
 split at hr
 ·rename_i b ki n
  split at hr
  ·rename_i es clock hb
   obtain ⟨c0,hr⟩:=cc hr
   simp only [Bool.and_eq_true] at c0
   cases hs
   cases hm with
   | map hp =>
    rename_i p
    obtain ⟨es',h1,h2⟩:=h.obj b _ p hb hp
    split at hr
    ·rename_i j hj
     split at hr
     ·rename_i e he
      cases hr
      have hfi:es'.findIdx? (fun e=>(e.born:Int) == Int.ofNat n) = some j:=by
       have e0:es'.findIdx? (fun e=>(e.born:Int) == Int.ofNat n) = es'.toList.findIdx? (fun e=>(e.born:Int) == Int.ofNat n):=by
        cases es'; simp
       rw [e0]
       have e1:(fun e:MapEntry=>(e.born:Int) == Int.ofNat n) = fun e=>(fun k=>Nat.beq k n) e.born:=by
        funext e
        show ((e.born:Int) == (n:Int)) = Nat.beq e.born n
        cases q:Nat.beq e.born n
        ·have:e.born ≠ n:=fun hh=>by rw [hh] at q; simp at q
         exact beq_eq_false_iff_ne.2 (fun hh=>this (Int.ofNat.inj hh))
        ·have:=Nat.eq_of_beq_eq_true q
         simp [this]
       rw [e1,MR.findIdx (p:=fun k=>Nat.beq k n) h2]
       exact hj
      have hlt:j < es'.toList.length:=by rw [← h2.1]; exact (List.getElem?_eq_some_iff.1 he).1
      obtain ⟨e',he'⟩:∃ e',es'.toList[j]? = some e':=⟨_,List.getElem?_eq_getElem hlt⟩
      have q4:=h2.2 j e e' he he'
      have hj':es'[j]? = some e':=by simpa using he'
      refine ⟨_,?_,h.setMap hb hp (ble c0.1) c0.2 h1 (es2':=es'.modify j fun e=>{ e with val:=v' }) (c2:=clock) (by
       rw [toList_modify es' hj']
       exact h2.set ⟨q4.key,hv,q4.born⟩)⟩
      simp only [Instr.entryStore,Sem.run_bind,run_getObj h1 rfl,Result.andThen_ok,asInt,asIntOf,Sem.run_pure,hfi]
      exact run_setObj' h1 rfl
     ·cases hr
    ·cases hr
  ·cases hr
 ·cases hr
theorem deleteA_spec (h:HRel w0 G L H w) {t t2 ty:TypeId} {m k m' k':Value} {H':AH} (hr:deleteA P G H t m k = some H') (hm:VR L m m') (hk:VR L k k'):∃ w',(Builtin.delete_ #[t,t2] ty #[m',k']).run P w = .ok (.tuple #[]) w'∧HRel w0 G L H' w':=by
 unfold deleteA at hr
 split at hr
 ·cases hr
 ·rename_i kt et ht
  have hu:=mapT_spec ht
  split at hr
  ·rename_i b
   split at hr
   ·rename_i es clock hb
    have c0:=(cc hr).1
    replace hr:=(cc hr).2
    simp only [Bool.and_eq_true] at c0
    cases hm with
    | map hp =>
     rename_i p
     obtain ⟨es',h1,h2⟩:=h.obj b _ p hb hp
     have hemp:es'.toList.isEmpty = es'.isEmpty:=by cases es'; simp
     split at hr
     ·rename_i j hf
      obtain ⟨rfl,q1,e,e',q2,q3,q4,q5⟩:=findA_spec hf hk h2 w
      rw [hemp] at q1
      injection hr with hr
      subst hr
      refine ⟨_,?_,h.setMap hb hp (ble c0.1) c0.2 h1 (es2':=es'.eraseIdxIfInBounds j) (c2:=clock) (by
       rw [Array.toList_eraseIdxIfInBounds]
       exact h2.eraseIdx j)⟩
      simp [Builtin.delete_,run_underlying hu,run_getObj h1 rfl,q1,q5,run_setObj' h1 rfl]
     ·rename_i hf
      obtain ⟨rfl,q1,q5⟩:=findA_spec hf hk h2 w
      rw [hemp] at q1
      injection hr with hr
      subst hr
      refine ⟨_,?_,h.setMap hb hp (ble c0.1) c0.2 h1 (es2':=es') (c2:=clock) h2⟩
      simp [Builtin.delete_,run_underlying hu,run_getObj h1 rfl,q1,q5,run_setObj' h1 rfl]
     ·cases hr
   ·cases hr
  ·cases hr
def ustrA (P:Program) (G:Nat) (H:AH) (pt:TypeId) (p l:Value):Option (Value × AH) :=
 match p,l with
 | .pointer none,.int .i64 (.ofNat 0)=>some (.string .empty,H)
 | .pointer (some ⟨b,o,none⟩),.int .i64 (.ofNat n)=>match P.underlying pt,H.get b with
  | some (.pointer e),some (.cells _ _ ty _ _)=>cond (Nat.beq ty e && Nat.beq (P.cellsOf e) 1 && Nat.ble G b && small b && Nat.blt 0 n && Nat.ble n 4294967296) (match cellsA H b o n with
   | some vs=>(match bytesOf vs with
    | some s=>some (.string ⟨s.toArray⟩,H.set b .dead)
    | none=>none)
   | none=>none) none
  | _,_=>none
 | _,_=>none
theorem liesAt_byteso {e:TypeId} (hc:P.cellsOf e = 1) (count o n:Nat) (hn:o + n ≤ count):liesAt P P.depth e count o e n = true:=by
 have hd:P.depth = (2 * (P.types.size + Made.depth) + 1) + 1:=rfl
 rw [hd]
 simp only [liesAt,Bool.or_eq_true]
 left
 rw [hd]
 simp only [rowAt,hc]
 rw [if_neg (by decide)]
 simp only [Nat.div_one,Nat.mod_one,Bool.or_eq_true,Bool.and_eq_true,decide_eq_true_eq]
 left
 exact ⟨⟨rfl,hn⟩,by simp [sameLayout]⟩
theorem ustrA_spec (h:HRel w0 G L H w) {pt it ty:TypeId} {p l p' l' v:Value} {H':AH} (hr:ustrA P G H pt p l = some (v,H')) (hp:VR L p p') (hl:VR L l l') :
  ∃ w',(Builtin.unsafeString_ #[pt,it] ty #[p',l']).run P w = .ok v w'∧flat v = true∧HRel w0 G L H' w':=by
 unfold ustrA at hr
 split at hr
 ·cases hr
  cases hp; cases hl
  exact ⟨w,Lib.run_unsafeString_none w pt it ty none,rfl,h⟩
 ·rename_i b o n
  cases hl
  cases hp with
  | ptr hp =>
   rename_i q
   split at hr
   ·rename_i e nn tr te op fz hu hb
    have c0:=(cc hr).1
    replace hr:=(cc hr).2
    split at hr
    ·rename_i vs hcl
     split at hr
     ·rename_i s hs
      cases hr
      simp only [Bool.and_eq_true] at c0
      obtain ⟨⟨⟨⟨⟨c1,c2⟩,c3⟩,c4⟩,c5⟩,c6⟩:=c0
      have c1:=Nat.eq_of_beq_eq_true c1
      subst c1
      have c2:=Nat.eq_of_beq_eq_true c2
      have c5:0 < n:=by simpa using c5
      have c6:=ble c6
      obtain ⟨cur,fr,h1,_,_,h4⟩:=h.obj b _ q hb hp
      obtain ⟨xs,q1,q2,q3⟩:=cellsA_spec h hcl hp
      have hvs:=bytesOf_spec hs
      have hfl:vs.all flat = true:=by rw [hvs]; simp [flat,flatF]
      have hxs:xs = vs:=q1.eq_flat hfl
      have hlen:s.length = n:=by
       have:vs.length = s.length:=by rw [hvs]; simp
       rw [← this,← hxs]; exact q2
      have hcell:∀ j x,s[j]? = some x→w.cell? ((⟨q.b,q.base + o,none⟩:Addr).add j) = some (.int .u8 x.toNat):=fun j x hx=>by
       rw [Addr.add_none]
       refine (q3 j _ ?_).1
       rw [hxs,hvs,List.getElem?_map,hx]; rfl
      have hsize:q.base + o + n ≤ cur.size:=by
       have hj:s[n - 1]? = some (s[n - 1]'(by omega)):=List.getElem?_eq_getElem (by omega)
       have:=(q3 (n - 1) _ (by rw [hxs,hvs,List.getElem?_map,hj]; rfl)).1
       simp only [World.cell?,h1] at this
       have hlt:q.base + o + (n - 1) < cur.size:=by
        rcases Nat.lt_or_ge (q.base + o + (n - 1)) cur.size with g | g
        ·exact g
        ·simp [Array.getElem?_eq_none g] at this
       omega
      have hsh:w.shape? q.b = some (te,cur.size):=by simp [World.shape?,h1]
      have hlies:=liesAt_byteso (P:=P) c2 (cur.size / P.cellsOf te) (q.base + o) n (by rw [c2]; simpa using hsize)
      have hlb:=Lib.run_loadBytes (P:=P) w s ⟨q.b,q.base + o,none⟩ .empty hcell
      rw [hlen] at hlb
      have hrun:(Builtin.unsafeString_ #[pt,it] ty #[.pointer (some ⟨q.b,q.base + o,none⟩),.int .i64 (n:Int)]).run P w = .ok (.string ⟨s.toArray⟩) (w.freeze ⟨q.b,q.base + o,none⟩ n):=by
       have hdef:Builtin.unsafeString_ #[pt,it] ty #[.pointer (some ⟨q.b,q.base + o,none⟩),.int .i64 (n:Int)] =
         (do
          let n ← asInt (.int .i64 (n:Int))
          if n < 0 then runtimePanic (.error "unsafe.String: len out of range")
          if n > IntKind.i64.max then unsupported (.unsafePointer "String: a length above the largest int")
          if n = 0 then pure (.string .empty)
          else if ← variablesAt ⟨q.b,q.base + o,none⟩ (← elemOf pt) n.toNat then do
           let s ← loadBytes ⟨q.b,q.base + o,none⟩ .empty n.toNat
           freeze ⟨q.b,q.base + o,none⟩ n.toNat
           pure (.string s)
          else unsupported (.unsafePointer "String: not so many bytes at ptr")) := rfl
       rw [hdef]
       have hmax:IntKind.i64.max = 9223372036854775807:=rfl
       have e0:¬ (9223372036854775807:Int) < (n:Int):=by omega
       have e1:¬ n = 0:=by omega
       have e2:¬ (n:Int) < 0:=by omega
       simp [asInt,asIntOf,hmax,e0,e1,e2,variablesAt,hsh,elemOf,run_underlying hu,hlies,hlb]
      have n0:¬ n = 0:=by omega
      refine ⟨_,hrun,rfl,h.upd hb rfl hp (ble c3) c4 (fun k hk=>?_) ?_ ?_ ?_ ?_ trivial⟩
      ·unfold World.freeze
       rw [if_neg n0]
       simp only [Array.getElem?_modify]
       rw [if_neg (Ne.symm hk)]
      all_goals (unfold World.freeze; rw [if_neg n0])
      simp
     ·cases hr
    ·cases hr
   ·cases hr
 ·cases hr
theorem ustrA_nx {pt:TypeId} {p l v:Value} {H':AH} (h:ustrA P G H pt p l = some (v,H')):H.nx ≤ H'.nx:=by
 unfold ustrA at h
 split at h
 ·cases h; exact Nat.le_refl _
 ·split at h
  ·replace h:=(cc h).2
   split at h
   ·split at h
    ·simp only [Option.some.injEq,Prod.mk.injEq] at h; rw [← h.2]; exact Nat.le_refl _
    ·cases h
   ·cases h
  ·cases h
 ·cases h
theorem mapEntryA_nx {t:TypeId} {m k v:Value} {H':AH} (h:mapEntryA P G H t m k = some (v,H')):H.nx ≤ H'.nx:=by
 unfold mapEntryA at h
 split at h
 ·cases h
 ·split at h
  ·split at h
   ·replace h:=(cc h).2
    split at h
    ·split at h
     ·replace h:=(cc h).2; simp only [Option.some.injEq,Prod.mk.injEq] at h; rw [← h.2]; exact Nat.le_refl _
     ·cases h
    ·split at h
     ·simp only [Option.some.injEq,Prod.mk.injEq] at h; rw [← h.2]; exact Nat.le_refl _
     ·cases h
    ·cases h
   ·cases h
  ·cases h
theorem entryStoreA_nx {m s v:Value} {H':AH} (h:entryStoreA G H m s v = some H'):H.nx ≤ H'.nx:=by
 unfold entryStoreA at h
 split at h
 ·split at h
  ·replace h:=(cc h).2
   split at h
   ·split at h
    ·simp only [Option.some.injEq] at h; rw [← h]; exact Nat.le_refl _
    ·cases h
   ·cases h
  ·cases h
 ·cases h
theorem deleteA_nx {t:TypeId} {m k:Value} {H':AH} (h:deleteA P G H t m k = some H'):H.nx ≤ H'.nx:=by
 unfold deleteA at h
 split at h
 ·cases h
 ·split at h
  ·split at h
   ·replace h:=(cc h).2
    split at h
    ·simp only [Option.some.injEq] at h; rw [← h]; exact Nat.le_refl _
    ·simp only [Option.some.injEq] at h; rw [← h]; exact Nat.le_refl _
    ·cases h
   ·cases h
  ·cases h
end
end Go.Run
