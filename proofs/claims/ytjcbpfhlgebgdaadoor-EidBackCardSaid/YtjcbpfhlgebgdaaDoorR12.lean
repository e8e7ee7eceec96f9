import Derived.Test.YtjcbpfhlgebgdaaDoorR11
noncomputable section
namespace Go.Run
open Go.RowKit
section
variable {P:Program} {w0:World} {G:Nat} {L:Lam} {H:AH} {w:World}
def mapPutA (P:Program) (G:Nat) (H:AH) (t:TypeId) (m k v:Value):Option AH :=
 match mapT P t with
 | none=>none
 | some (kt,_)=>match m with
  | .map (some b)=>match H.get b with
   | some (.map es clock)=>cond (Nat.ble G b && small b) (match pureRun P (Instr.checkKey false 10000 kt k),findA P kt k es with
    | some _,some (some j)=>match es[j]? with
     | some e=>cond (Instr.sameBits 10000 e.key k) (some (H.set b (.map (es.set j { e with key:=k,val:=v }) clock))) none
     | none=>none
    | some _,some none=>some (H.set b (.map (es++[{ key:=k,val:=v,born:=clock }]) (clock + 1)))
    | _,_=>none) none
   | _=>none
  | _=>none
theorem MR.set {es es':List MapEntry} (h:MR L es es') {j:Nat} {e e':MapEntry} (he:ER L e e'):MR L (es.set j e) (es'.set j e') :=
 ⟨by simp [h.1],fun i a b h1 h2=>by
  rw [List.getElem?_set] at h1 h2
  by_cases q:j = i
  ·subst q
   simp only [if_true] at h1 h2
   split at h1
   ·rw [if_pos (by rw [← h.1]; assumption)] at h2
    cases h1; cases h2; exact he
   ·cases h1
  ·rw [if_neg q] at h1 h2; exact h.2 i a b h1 h2⟩
theorem MR.push {es es':List MapEntry} (h:MR L es es') {e e':MapEntry} (he:ER L e e'):MR L (es++[e]) (es'++[e']) :=
 ⟨by simp [h.1],fun i a b h1 h2=>by
  rw [List.getElem?_append] at h1 h2
  rw [h.1] at h1
  split at h1
  ·rename_i hi; rw [if_pos hi] at h2; exact h.2 i a b h1 h2
  ·rename_i hi
   rw [if_neg hi] at h2
   cases hq:i - es'.length with
   | zero=>rw [hq] at h1 h2; simp at h1 h2; subst h1; subst h2; exact he
   | succ n=>rw [hq] at h1; simp at h1⟩
theorem run_setObj' {r:Nat} {o o':Obj} (h:w.heap[r]? = some o) (hc:(match o with | .cells ..=>false | _=>true) = true):(setObj r o').run P w = .ok () { w with heap:=w.heap.setIfInBounds r o' }:=by
 cases o <;> first | (simp at hc; done) | simp [setObj,Sem.run,h]
theorem Wrote.setObj (w:World) (b:Nat) (o:Obj):Wrote b w { w with heap:=w.heap.setIfInBounds b o } :=
 ⟨by simp,fun k hk=>by simp [Ne.symm hk],rfl,rfl,rfl⟩
theorem at_setObj {b:Nat} {o o':Obj} (h:w.heap[b]? = some o):({ w with heap:=w.heap.setIfInBounds b o' }:World).heap[b]? = some o':=by
 have:b < w.heap.size:=(Array.getElem?_eq_some_iff.1 h).1
 simp [this]
theorem mapPutA_spec (h:HRel w0 G L H w) {t:TypeId} {m k v m' k' v':Value} {H':AH} (hr:mapPutA P G H t m k v = some H') (hm:VR L m m') (hk:VR L k k') (hv:VR L v v'):∃ w',(Instr.mapUpdate t m' k' v').run P w = .ok () w'∧HRel w0 G L H' w':=by
 unfold mapPutA at hr
 split at hr
 ·cases hr
 ·rename_i kt et ht
  have hu:=mapT_spec ht
  split at hr
  ·rename_i b
   split at hr
   ·rename_i es clock hb
    obtain ⟨c0,hr⟩:=cc hr
    simp only [Bool.and_eq_true] at c0
    cases hm with
    | map hp =>
     rename_i p
     obtain ⟨es',h1,h2⟩:=h.obj b _ p hb hp
     have hset:∀ es2 es2' c2,MR L es2 es2'.toList→HRel w0 G L (H.set b (.map es2 c2)) { w with heap:=w.heap.setIfInBounds p.b (.map es2' c2) }:=fun es2 es2' c2 hm2=>by
      have hw:=Wrote.setObj w p.b (.map es2' c2)
      exact h.upd hb rfl hp (ble c0.1) c0.2 hw.block hw.size hw.os hw.tape hw.output ⟨es2',at_setObj h1,hm2⟩
     split at hr
     ·rename_i u j hck hf
      obtain ⟨rfl,q1,e,e',q2,q3,q4,q5⟩:=findA_spec hf hk h2 w
      rw [q2] at hr
      simp only at hr
      obtain ⟨c1,hr⟩:=cc hr
      cases hr
      have hck':=pureRun_run _ hck w
      have hfl:flat k' = true:=by
       unfold findA at hf
       obtain ⟨c2,_⟩:=cc hf
       simp only [Bool.and_eq_true] at c2
       exact c2.1
      have hkey:e'.key = e.key:=by
       unfold findA at hf
       obtain ⟨c2,_⟩:=cc hf
       simp only [Bool.and_eq_true,List.all_eq_true] at c2
       exact q4.key.eq_flat (c2.2 e (List.mem_of_getElem? q2))
      have hj:es'[j]? = some e':=by simpa using q3
      refine ⟨_,?_,hset (es.set j { e with key:=k',val:=v }) (es'.modify j fun e=>{ e with key:=k',val:=v' }) clock ?_⟩
      ·simp [Instr.mapUpdate,run_underlying hu,run_getObj h1 rfl,hck',q5,Instr.keyThatStays,hj,hkey,c1,run_setObj' h1 rfl]
      ·have:(es'.modify j fun e=>{ e with key:=k',val:=v' }).toList = es'.toList.set j { e' with key:=k',val:=v' }:=by
        apply List.ext_getElem?
        intro i
        rw [Array.getElem?_toList,Array.getElem?_modify,List.getElem?_set,Array.getElem?_toList]
        by_cases q:j = i
        ·subst q
         have:j < es'.size:=(Array.getElem?_eq_some_iff.1 hj).1
         have hje:es'[j] = e':=(Array.getElem?_eq_some_iff.1 hj).2
         simp [this,hje]
        ·simp [q]
       rw [this]
       exact h2.set ⟨hk,hv,q4.born⟩
     ·rename_i u hck hf
      obtain ⟨rfl,q1,q5⟩:=findA_spec hf hk h2 w
      cases hr
      have hck':=pureRun_run _ hck w
      refine ⟨_,?_,hset (es++[{ key:=k',val:=v,born:=clock }]) (es'.push { key:=k',val:=v',born:=clock }) (clock + 1) (by
       have:=h2.push (e:={ key:=k',val:=v,born:=clock }) (e':={ key:=k',val:=v',born:=clock }) ⟨hk,hv,rfl⟩
       simpa using this)⟩
      simp [Instr.mapUpdate,run_underlying hu,run_getObj h1 rfl,hck',q5,run_setObj' h1 rfl]
     ·cases hr
   ·cases hr
  ·cases hr
def goOn (i:Nat) (r:Int):Value:=.tuple #[.bool true,goInt i,.int .i32 r]
def nextA (G:Nat) (H:AH) (it:Value) (isString:Bool):List (Value × AH) :=
 match it with
 | .pointer (some ⟨b,0,none⟩)=>match H.get b,isString with
  | some (.siter s pos),true=>cond (Nat.ble G b && small b) (cond (Nat.blt pos s.size) [(goOn pos (Utf8.decode s pos).1,H.set b (.siter s (pos + (Utf8.decode s pos).2)))] [(.tuple #[.bool false],H)]) []
  | some (.miter none _ _ _),false=>[(.tuple #[.bool false],H)]
  | some (.miter (some m) since seen last),false=>match H.get m with
   | some (.map es clock)=>cond (Nat.ble G b && small b && !(!seen.isEmpty && !es.isEmpty && es.all (fun e=>Nat.ble last e.born)))
    (let left:=es.filter fun e=>!seen.toList.contains e.born
     let old:=left.filter fun e=>Nat.blt e.born since
     let new:=left.filter fun e=>Nat.ble since e.born
     (cond old.isEmpty [(.tuple #[.bool false],H)] [])++(old++new).map fun e=>(.tuple #[.bool true,e.key,e.val],H.set b (.miter (some m) since (seen.push e.born) clock))) []
   | _=>[]
  | _,_=>[]
 | _=>[]
theorem MR.filter {p:Nat→Bool}:∀ {es es':List MapEntry},MR L es es'→MR L (es.filter fun e=>p e.born) (es'.filter fun e=>p e.born)
 | [],es',h=>by
  have:es' = []:=List.eq_nil_of_length_eq_zero (by simpa using h.1.symm)
  subst this; exact h
 | e :: es,[],h=>by have:=h.1; simp at this
 | e :: es,e' :: es',h=>by
  have h0:=h.2 0 e e' (by simp) (by simp)
  have ht:MR L es es':=⟨by have:=h.1; simpa using this,fun i a b h1 h2=>h.2 (i + 1) a b (by simpa using h1) (by simpa using h2)⟩
  have ih:=MR.filter (p:=p) ht
  simp only [List.filter_cons,h0.born]
  cases p e.born with
  | false=>exact ih
  | true =>
   refine ⟨by simp [ih.1],fun i a b h1 h2=>?_⟩
   cases i with
   | zero=>simp at h1 h2; subst h1; subst h2; exact h0
   | succ i=>simp at h1 h2; exact ih.2 i a b h1 h2
theorem MR.append {es es' fs fs':List MapEntry} (h:MR L es es') (k:MR L fs fs'):MR L (es++fs) (es'++fs') :=
 ⟨by simp [h.1,k.1],fun i a b h1 h2=>by
  rw [List.getElem?_append] at h1 h2
  rw [h.1] at h1
  split at h1
  ·rename_i hi; rw [if_pos hi] at h2; exact h.2 i a b h1 h2
  ·rename_i hi; rw [if_neg hi] at h2; exact k.2 _ a b h1 h2⟩
theorem MR.all {p:Nat→Bool}:∀ {es es':List MapEntry},MR L es es'→(es'.all fun e=>p e.born) = es.all fun e=>p e.born
 | [],es',h=>by
  have:es' = []:=List.eq_nil_of_length_eq_zero (by simpa using h.1.symm)
  subst this; rfl
 | e :: es,[],h=>by have:=h.1; simp at this
 | e :: es,e' :: es',h=>by
  have h0:=h.2 0 e e' (by simp) (by simp)
  have ht:MR L es es':=⟨by have:=h.1; simpa using this,fun i a b h1 h2=>h.2 (i + 1) a b (by simpa using h1) (by simpa using h2)⟩
  simp only [List.all_cons,h0.born,MR.all (p:=p) ht]
theorem run_choose_lt (n:Nat) (hn:0 < n) (w:World):∃ i w',i < n∧(choose (.mapNext n)).run P w = .ok i w'∧w'.heap = w.heap∧w'.os = w.os∧w'.tape = w.tape∧w'.output = w.output:=by
 by_cases h:n ≤ 1
 ·exact ⟨0,w,hn,by simp [choose,Sem.run,Question.forced,h],rfl,rfl,rfl,rfl⟩
 ·refine ⟨w.tape w.drawn (.mapNext n) % n,{ w with drawn:=w.drawn + 1 },Nat.mod_lt _ hn,?_,rfl,rfl,rfl,rfl⟩
  simp [choose,Sem.run,Question.forced,h,Question.cut]
theorem VR.triple {a a' b b' c c':Value} (h1:VR L a a') (h2:VR L b b') (h3:VR L c c'):VR L (.tuple #[a,b,c]) (.tuple #[a',b',c']):=by
 have:=(((LR.nil L).cons h3).cons h2).cons h1
 exact .tuple this.toArray.1 this.toArray.2
theorem nextA_spec (h:HRel w0 G L H w) {it it':Value} {s:Bool} {ty:TypeId} (hl:nextA G H it s ≠ []) (hit:VR L it it'):∃ v H',(v,H') ∈ nextA G H it s∧∃ x w',(Instr.next it' s ty).run P w = .ok x w'∧HRel w0 G L H' w'∧VR L v x:=by
 generalize hq:nextA G H it s = l at hl
 unfold nextA at hq
 have over:∀ {L:Lam},VR L (.tuple #[.bool false]) (.tuple #[.bool false]):=VR.refl_flat rfl
 split at hq
 ·rename_i b
  cases hit with
  | ptr hp =>
   rename_i p
   split at hq
   ·rename_i str pos hb
    obtain ⟨hb0,hb1⟩:=h.obj b _ p hb hp
    cases c0:(Nat.ble G b && small b) with
    | false=>rw [c0] at hq; exact (hl hq.symm).elim
    | true =>
     rw [c0] at hq
     simp only [cond_true] at hq
     simp only [Bool.and_eq_true] at c0
     rw [hb0]
     cases hlt:Nat.blt pos str.size with
     | true =>
      rw [hlt] at hq
      subst hq
      have hlt:pos < str.size:=by simpa using hlt
      have hw:=Wrote.setObj w p.b (.stringIter str (pos + (Utf8.decode str pos).2))
      refine ⟨_,_,List.mem_singleton.2 rfl,goOn pos (Utf8.decode str pos).1,_,?_,h.upd hb rfl hp (ble c0.1) c0.2 hw.block hw.size hw.os hw.tape hw.output ⟨hb0,at_setObj hb1⟩,VR.refl_flat rfl⟩
      simp [Instr.next,run_getObj hb1 rfl,hlt,run_setObj' hb1 rfl,goOn]
     | false =>
      rw [hlt] at hq
      subst hq
      have hlt:¬ pos < str.size:=by
       intro q
       rw [show Nat.blt pos str.size = true by simpa using q] at hlt; cases hlt
      exact ⟨_,_,List.mem_singleton.2 rfl,.tuple #[.bool false],w,by simp [Instr.next,run_getObj hb1 rfl,hlt],h,over⟩
   ·rename_i since seen last hb
    obtain ⟨hb0,m',hb1,hb2⟩:=h.obj b _ p hb hp
    cases hb2
    subst hq
    rw [hb0]
    exact ⟨_,_,List.mem_singleton.2 rfl,.tuple #[.bool false],w,by simp [Instr.next,run_getObj hb1 rfl],h,over⟩
   ·rename_i m since seen last hb
    obtain ⟨hb0,m',hb1,hb2⟩:=h.obj b _ p hb hp
    cases hb2 with
    | map hpm =>
     rename_i pm
     split at hq
     ·rename_i es clock hm
      obtain ⟨es',hm1,hm2⟩:=h.obj m _ pm hm hpm
      cases c0:(Nat.ble G b && small b && !(!seen.isEmpty && !es.isEmpty && es.all (fun e=>Nat.ble last e.born))) with
      | false=>rw [c0] at hq; exact (hl hq.symm).elim
      | true =>
       rw [c0] at hq
       simp only [cond_true] at hq
       simp only [Bool.and_eq_true] at c0
       rw [hb0]
       have hleft:=hm2.filter (p:=fun n=>!seen.toList.contains n)
       have hold:=hleft.filter (p:=fun n=>Nat.blt n since)
       have hnew:=hleft.filter (p:=fun n=>Nat.ble since n)
       generalize e1:(List.filter (fun e=>Nat.blt e.born since) (List.filter (fun e=>!seen.toList.contains e.born) es)) = old at hq hold
       generalize e2:(List.filter (fun e=>Nat.ble since e.born) (List.filter (fun e=>!seen.toList.contains e.born) es)) = new at hq hnew
       generalize e1':(List.filter (fun e=>Nat.blt e.born since) (List.filter (fun e=>!seen.toList.contains e.born) es'.toList)) = old' at hold
       generalize e2':(List.filter (fun e=>Nat.ble since e.born) (List.filter (fun e=>!seen.toList.contains e.born) es'.toList)) = new' at hnew
       have hall:=hold.append hnew
       have hoe:old'.isEmpty = old.isEmpty:=by
        have:=hold.1
        cases old <;> cases old' <;> simp_all
       let cands:List (Option MapEntry):=(if old'.isEmpty then [none] else [])++(old'++new').map some
       have hcl:0 < cands.length:=by
        simp only [cands,List.length_append,List.length_map]
        cases hq2:old' with
        | nil=>simp; omega
        | cons a b=>simp; omega
       obtain ⟨ix,w1,hix,hch,v1,v2,v3,v4⟩:=run_choose_lt (P:=P) cands.length hcl w
       have h1:=h.same v1 v2 v3 v4
       have hemp:es'.isEmpty = es.isEmpty:=by
        have:=hm2.1
        rw [← Array.isEmpty_toList]
        cases es <;> cases hc:es'.toList <;> simp_all
       have hcond:(!seen.isEmpty && !es'.isEmpty && es'.all (fun e=>decide (e.born ≥ last))) = false:=by
        have ha:es'.all (fun e=>decide (e.born ≥ last)) = es.all (fun e=>Nat.ble last e.born):=by
         rw [← hm2.all (p:=fun n=>Nat.ble last n),← Array.all_toList]
         congr 1
         funext e
         rw [Bool.eq_iff_iff]; simp
        rw [hemp,ha]
        cases hx:(!seen.isEmpty && !es.isEmpty && es.all (fun e=>Nat.ble last e.born)) with
        | false=>rfl
        | true=>rw [hx] at c0; exact absurd c0.2 (by simp)
       have eo:(es'.filter (fun e=>!seen.contains e.born)).filter (fun e=>decide (e.born < since)) = old'.toArray:=by
        rw [← e1']
        apply Array.ext'
        rw [Array.toList_filter,Array.toList_filter]
        congr 1
        ·funext e; rw [Bool.eq_iff_iff]; simp
        ·congr 1
         funext e; simp
       have en:(es'.filter (fun e=>!seen.contains e.born)).filter (fun e=>decide (e.born ≥ since)) = new'.toArray:=by
        rw [← e2']
        apply Array.ext'
        rw [Array.toList_filter,Array.toList_filter]
        congr 1
        ·funext e; rw [Bool.eq_iff_iff]; simp
        ·congr 1
         funext e; simp
       have hc':(if old'.toArray.isEmpty then #[none] else #[])++(old'.toArray++new'.toArray).map some = cands.toArray:=by
        apply Array.ext'
        simp only [cands]
        cases old' <;> simp
       have hcsz:cands.toArray.size = cands.length:=by simp
       have key:(Instr.next (.pointer (some ⟨p.b,0,none⟩)) false ty).run P w = (match cands.toArray[ix]? with
         | some (some e)=>(do setObj p.b (.mapIter (some pm.b) since (seen.push e.born) clock); pure (.tuple #[.bool true,e.key,e.val]):Sem Value)
         | some none=>pure (.tuple #[.bool false])
         | none => stuck "Next: no such candidate").run P w1 := by
        simp only [Instr.next,Sem.run_bind,run_getObj hb1 rfl,run_getObj hm1 rfl,Result.andThen_ok]
        rw [if_neg (by rw [hcond]; simp),eo,en,hc',hcsz,Sem.run_bind,hch]
        rfl
       rw [key]
       have some_case:∀ (j:Nat) (e':MapEntry),(old'++new')[j]? = some e'→cands.toArray[ix]? = some (some e') →
         ∃ v H',(v,H') ∈ l∧∃ x w',(match cands.toArray[ix]? with
         | some (some e)=>(do setObj p.b (.mapIter (some pm.b) since (seen.push e.born) clock); pure (.tuple #[.bool true,e.key,e.val]):Sem Value)
         | some none=>pure (.tuple #[.bool false])
         | none => stuck "Next: no such candidate").run P w1 = .ok x w' ∧ HRel w0 G L H' w' ∧ VR L v x := by
        intro j e' hj hc
        rw [hc]
        have hlt:j < (old++new).length:=by rw [hall.1]; exact (List.getElem?_eq_some_iff.1 hj).1
        have her:=hall.2 j _ _ (List.getElem?_eq_getElem hlt) hj
        have hb1':w1.heap[p.b]? = some (.mapIter (some pm.b) since seen last):=by rw [v1]; exact hb1
        have hw:=Wrote.setObj w1 p.b (.mapIter (some pm.b) since (seen.push e'.born) clock)
        refine ⟨.tuple #[.bool true,(old++new)[j].key,(old++new)[j].val],H.set b (.miter (some m) since (seen.push (old++new)[j].born) clock),?_,.tuple #[.bool true,e'.key,e'.val],{ w1 with heap:=w1.heap.setIfInBounds p.b (.mapIter (some pm.b) since (seen.push e'.born) clock) },?_,h1.upd hb rfl hp (ble c0.1.1) c0.1.2 hw.block hw.size hw.os hw.tape hw.output (o':=.miter (some m) since (seen.push (old++new)[j].born) clock) ⟨hb0,some pm.b,by rw [← her.born]; exact at_setObj hb1',.map hpm⟩,(VR.bool true).triple her.key her.val⟩
        ·rw [← hq,List.mem_append]
         right
         rw [List.mem_map]
         exact ⟨(old++new)[j],List.getElem_mem hlt,rfl⟩
        ·simp [run_setObj' hb1' rfl]
       cases hoi:old'.isEmpty with
       | true =>
        have hoi':old.isEmpty = true:=by rw [← hoe]; exact hoi
        have hcd:cands = none :: (old'++new').map some:=by simp only [cands,hoi]; rfl
        cases ix with
        | zero =>
         have:cands.toArray[0]? = some none:=by rw [hcd]; simp
         rw [this]
         exact ⟨.tuple #[.bool false],H,by rw [← hq,hoi']; simp,.tuple #[.bool false],w1,by simp,h1,over⟩
        | succ j =>
         have hj:j < (old'++new').length:=by rw [hcd] at hix; simpa using hix
         exact some_case j _ (List.getElem?_eq_getElem hj) (by rw [hcd,List.getElem?_toArray,List.getElem?_cons_succ,List.getElem?_map,List.getElem?_eq_getElem hj]; rfl)
       | false =>
        have hcd:cands = (old'++new').map some:=by simp only [cands,hoi]; rfl
        have hj:ix < (old'++new').length:=by rw [hcd] at hix; simpa using hix
        exact some_case ix _ (List.getElem?_eq_getElem hj) (by rw [hcd,List.getElem?_toArray,List.getElem?_map,List.getElem?_eq_getElem hj]; rfl)
     ·exact (hl hq.symm).elim
   ·exact (hl hq.symm).elim
 ·exact (hl hq.symm).elim
def entryA (H:AH) (it:Value):Option Value :=
 match it with
 | .pointer (some ⟨b,0,none⟩)=>match H.get b with
  | some (.miter (some m) _ seen stepped)=>match seen.back?,H.get m with
   | some stamp,some (.map es clock)=>cond (Nat.beq clock stepped) (match es.find? (fun e=>e.born == stamp) with
    | some e=>some (.tuple #[e.key,e.val])
    | none=>none) none
   | _,_=>none
  | _=>none
 | _=>none
theorem MR.find {p:Nat→Bool}:∀ {es es':List MapEntry} {e:MapEntry},MR L es es'→es.find? (fun e=>p e.born) = some e→∃ e',es'.find? (fun e=>p e.born) = some e'∧ER L e e'
 | [],_,_,_,h=>by simp at h
 | e :: es,[],_,h,_=>by have:=h.1; simp at this
 | e :: es,e' :: es',a,h,hf=>by
  have h0:=h.2 0 e e' (by simp) (by simp)
  have ht:MR L es es':=⟨by have:=h.1; simpa using this,fun i a b h1 h2=>h.2 (i + 1) a b (by simpa using h1) (by simpa using h2)⟩
  simp only [List.find?_cons,h0.born] at hf ⊢
  cases hp:p e.born with
  | true=>rw [hp] at hf; simp only [Option.some.injEq] at hf; subst hf; exact ⟨e',rfl,h0⟩
  | false=>rw [hp] at hf; exact MR.find ht hf
theorem cc' {α:Type} {c:Bool} {q:Option α} {r:α} (h:(bif c then q else none) = some r):c = true∧q = some r:=cc h
theorem entryA_spec (h:HRel w0 G L H w) {it it' v:Value} (hv:entryA H it = some v) (hit:VR L it it'):∃ x,(Instr.entry it').run P w = .ok x w∧VR L v x:=by
 unfold entryA at hv
 split at hv
 ·rename_i b
  split at hv
  ·rename_i m since seen stepped hb
   split at hv
   ·rename_i stamp es clock hs hm
    have c0:clock = stepped:=Nat.eq_of_beq_eq_true (cc' hv).1
    replace hv:=(cc' hv).2
    subst c0
    split at hv
    ·rename_i e he
     cases hv
     cases hit with
     | ptr hp =>
      rename_i p
      obtain ⟨hb0,m',hb1,hb2⟩:=h.obj b _ p hb hp
      cases hb2 with
      | map hpm =>
       rename_i pm
       obtain ⟨es',hm1,hm2⟩:=h.obj m _ pm hm hpm
       obtain ⟨e',q1,q2⟩:=hm2.find (p:=fun n=>n == stamp) he
       have q1':es'.find? (fun e=>e.born == stamp) = some e':=by
        rw [← Array.find?_toList]; exact q1
       rw [hb0]
       refine ⟨.tuple #[e'.key,e'.val],?_,q2.key.pair q2.val⟩
       simp [Instr.entry,run_getObj hb1 rfl,run_getObj hm1 rfl,hs,q1']
    ·cases hv
   ·cases hv
  ·cases hv
 ·cases hv
end
end Go.Run
