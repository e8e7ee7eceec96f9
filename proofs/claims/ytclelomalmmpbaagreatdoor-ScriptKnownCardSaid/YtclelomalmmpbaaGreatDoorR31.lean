import Derived.Test.YtclelomalmmpbaaGreatDoorR27
import Derived.LaidSub
import Derived.LaidHandle
import Derived.LaidMore
set_option linter.unusedSimpArgs false
set_option linter.unusedVariables false
noncomputable section
namespace Go.Run
open Go.RowKit
def tabL (G bm:Nat):Lam:=fun c=>if c + 1 = G then some ⟨bm,0,0⟩ else if c < G then some ⟨c,0,0⟩ else none
theorem tabL_inv {G bm c:Nat} {p:Pl} (h:tabL G bm c = some p):(c + 1 = G∧p = ⟨bm,0,0⟩) ∨ (c + 1 < G∧p = ⟨c,0,0⟩):=by
 unfold tabL at h
 split at h
 ·cases h; exact .inl ⟨by assumption,rfl⟩
 ·split at h
  ·cases h; exact .inr ⟨by omega,rfl⟩
  ·cases h
theorem tabL_at {G bm:Nat}:tabL (G + 1) bm G = some ⟨bm,0,0⟩:=if_pos rfl
def GlobT (G bm:Nat) (w0:World) (m:T AObj):Prop:=∀ b o,m.get b = some o→(b + 1 < G∧b ≠ bm∧ORel (tabL G bm) w0 ⟨b,0,0⟩ o) ∨ (b + 1 = G∧ORel (tabL G bm) w0 ⟨bm,0,0⟩ o)
theorem globT_nil {G bm:Nat} {w0:World}:GlobT G bm w0 .nil:=fun b o h=>by simp [T.get_nil] at h
theorem globT_set {G bm:Nat} {w0:World} {m:T AObj} (h:GlobT G bm w0 m) {g:Nat} {o:AObj} (hg:g + 1 < G) (hne:g ≠ bm) (ho:ORel (tabL G bm) w0 ⟨g,0,0⟩ o):GlobT G bm w0 (m.set g o):=by
 intro b o' hb
 rw [T.get_set (by rfl)] at hb
 by_cases e:b = g
 ·subst e
  rw [if_pos rfl] at hb; cases hb
  exact .inl ⟨hg,hne,ho⟩
 ·rw [if_neg e] at hb
  exact h b o' hb
theorem globT_map {G bm:Nat} {w0:World} {m:T AObj} (h:GlobT (G + 1) bm w0 m) {o:AObj} (ho:ORel (tabL (G + 1) bm) w0 ⟨bm,0,0⟩ o):GlobT (G + 1) bm w0 (m.set G o):=by
 intro b o' hb
 rw [T.get_set (by rfl)] at hb
 by_cases e:b = G
 ·subst e
  rw [if_pos rfl] at hb; cases hb
  exact .inr ⟨rfl,ho⟩
 ·rw [if_neg e] at hb
  exact h b o' hb
theorem tabCell_rel {G bm g:Nat} {w0:World} {ty:TypeId} {fr:Nat × Nat} (h:w0.heap[g]? = some (.cells #[.map (some bm)] ty fr)) :
  ORel (tabL (G + 1) bm) w0 ⟨g,0,0⟩ (.cells 1 (T.set .nil 0 (.map (some G))) ty none (0,2)):=by
 refine ⟨#[.map (some bm)],fr,h,.inr (.inr (.inr (by show 1 < 2; omega))),⟨rfl,rfl⟩,fun i hi=>?_⟩
 have:i = 0:=by omega
 subst this
 refine ⟨.map (some G),.map (some bm),?_,rfl,VR.map (p:=⟨bm,0,0⟩) tabL_at,rfl⟩
 rw [T.get_set (by rfl),if_pos rfl]
theorem tabMap_rel {L:Lam} {bm k:Nat} {w0:World} {es:Array MapEntry} {l:List MapEntry} (h:w0.heap[bm]? = some (.map es k)) (hl:es.toList = l) (hf:∀ x ∈ l,flat x.key = true∧flat x.val = true) :
  ORel L w0 ⟨bm,0,0⟩ (.map l k):=by
 subst hl
 refine ⟨es,h,rfl,fun i e e' h1 h2=>?_⟩
 rw [h1] at h2; cases h2
 have hx:=hf e (List.mem_of_getElem? h1)
 exact ⟨VR.refl_flat hx.1,VR.refl_flat hx.2,rfl⟩
section
variable {P:Program} {F:T Func} {w0:World} {G bm:Nat} {f0:FuncId}
theorem start_relT {m:T AObj} (hg:GlobT G bm w0 m) (hsz:G ≤ w0.heap.size + 1) (hbm:bm < w0.heap.size):HRel w0 G (tabL G bm) ⟨G,m⟩ w0:=by
 refine ⟨fun b o p h1 h2=>?_,fun b b' o o' p p' h1 h2 _ _ h3 h4 he=>?_,fun b p h=>?_,fun b p hG h=>?_,fun b p h=>?_,⟨rfl,rfl,rfl,Nat.le_refl _,fun _ _=>rfl⟩,fun g hgl=>?_,Nat.le_refl _⟩
 ·rcases tabL_inv h2 with ⟨q,rfl⟩ | ⟨q,rfl⟩ <;> rcases hg b o h1 with ⟨k,_,k3⟩ | ⟨k,k3⟩
  ·omega
  ·exact k3
  ·exact k3
  ·omega
 ·rcases tabL_inv h3 with ⟨q,rfl⟩ | ⟨q,rfl⟩ <;> rcases tabL_inv h4 with ⟨q',rfl⟩ | ⟨q',rfl⟩
  ·omega
  ·rcases hg b' o' h2 with ⟨_,k2,_⟩ | ⟨k,_⟩
   ·exact absurd he.symm k2
   ·omega
  ·rcases hg b o h1 with ⟨_,k2,_⟩ | ⟨k,_⟩
   ·exact absurd he k2
   ·omega
  ·exact he
 ·show b < G
  rcases tabL_inv h with ⟨q,_⟩ | ⟨q,_⟩ <;> omega
 ·rcases tabL_inv h with ⟨q,_⟩ | ⟨q,_⟩ <;> omega
 ·rcases tabL_inv h with ⟨q,rfl⟩ | ⟨q,rfl⟩
  ·exact hbm
  ·show b < _; omega
 ·unfold tabL
  rw [if_neg (by omega),if_pos (by omega)]
theorem calls_of_leadsT (hF:FunOK P F) {fn:Func} {m:T AObj} (hg:GlobT G bm w0 m) (hsz:G ≤ w0.heap.size + 1) (hbm:bm < w0.heap.size) (hf:F.get f0 = some fn) (hsm:small fn.ntmps = true) {r:Value} (hr:flat r = true)
  (h:Leads P G (fun v _=>veq v r) (start fn f0 G [] m)):Calls P f0 #[] w0 fun e w'=>e = .returned r∧Kept w0 w':=by
 intro cs
 have hH:=start_relT hg hsz hbm
 obtain ⟨h1,h2,h3⟩:=hF f0 fn hf
 cases hb:fn.body with
 | none=>rw [hb] at h2; cases h2
 | some body =>
  have hLR:LR (tabL G bm) [] []:=LR.refl_flat fun c hc=>by cases hc
  have htop:=enter_rel (G:=G) (H:=⟨G,m⟩) hF hf hb hLR (Nat.zero_le _) hsm
  have hsim:Sim P w0 G cs f0 (start fn f0 G [] m) (lone (Frame.enter P f0 #[] .normal) ([]++cs) w0):=by
   refine ⟨_,_,[],w0,rfl,hH,?_,.nil,Nat.le_refl _,Nat.le_refl _,rfl⟩
   simpa [start,hb] using htop
  obtain ⟨L,v,H',x,fr,w',q0,q1,q2,q3,q4,q5⟩:=h _ _ _ _ hsim
  have hv:=veq_eq q0
  subst hv
  have hx:=q5.eq_flat hr
  subst hx
  exact ⟨.returned x,w',fr,⟨rfl,q4.keep⟩,q1,q2,q3⟩
end
end Go.Run
noncomputable section
namespace Go.Run
open Go.RowKit
theorem insert_one {H:Type} {x y:Lit × DataW H}:DataW.insert x [y] = [x,y] ∨ DataW.insert x [y] = [y,x]:=by
 simp only [DataW.insert]
 split
 ·exact .inl rfl
 ·exact .inr rfl
theorem insert_length {H:Type} (x:Lit × DataW H):∀ l:List (Lit × DataW H),(DataW.insert x l).length = l.length + 1
 | []=>rfl
 | y :: r=>by
  simp only [DataW.insert]
  split
  ·rfl
  ·simp [insert_length x r]
theorem sorted_length {H:Type}:∀ l:List (Lit × DataW H),(l.foldr DataW.insert []).length = l.length
 | []=>rfl
 | x :: r=>by simp [insert_length,sorted_length r]
theorem sorted_two {H:Type} {l:List (Lit × DataW H)} {a b:Lit × DataW H} (h:l.foldr DataW.insert [] = [a,b]):l = [a,b] ∨ l = [b,a]:=by
 have hl:=sorted_length l
 rw [h] at hl
 match l,hl,h with
 | [x,y],_,h =>
  have e:[x,y].foldr DataW.insert [] = DataW.insert x [y]:=rfl
  rw [e] at h
  rcases insert_one (x:=x) (y:=y) with q | q <;> rw [q] at h <;> cases h
  ·exact .inl rfl
  ·exact .inr rfl
theorem mapM_two {α β:Type} {f:α→Option β} {x y:β}:∀ {L:List α},L.mapM f = some [x,y]→∃ e1 e2,L = [e1,e2]∧f e1 = some x∧f e2 = some y
 | [],m1=>by simp at m1
 | [a],m1=>by
  simp only [List.mapM_cons,List.mapM_nil] at m1
  simp only [Option.bind_eq_bind,Option.bind_eq_some_iff] at m1
  obtain ⟨u,_,v,hv,hw⟩:=m1
  cases hv; cases hw
 | [a,c],m1=>by
  simp only [List.mapM_cons,List.mapM_nil] at m1
  simp only [Option.bind_eq_bind,Option.bind_eq_some_iff] at m1
  obtain ⟨u,hu1,v,⟨u2,hu2,v2,hv2,hw2⟩,hw⟩:=m1
  cases hv2; cases hw2; cases hw
  exact ⟨a,c,rfl,hu1,hu2⟩
 | a :: c :: d :: r,m1=>by
  simp only [List.mapM_cons] at m1
  simp only [Option.bind_eq_bind,Option.bind_eq_some_iff] at m1
  obtain ⟨u,hu1,v,⟨u2,hu2,v2,⟨u3,hu3,v3,hv3,hw3⟩,hw2⟩,hw⟩:=m1
  cases hw3; cases hw2; cases hw
theorem map_two {α β:Type} {f:α→β} {a b:β}:∀ {l:List α},l.map f = [a,b]→∃ x y,l = [x,y]∧f x = a∧f y = b
 | [],h=>by cases h
 | [x],h=>by cases h
 | [x,y],h=>by
  simp only [List.map_cons,List.map_nil,List.cons.injEq,and_true] at h
  exact ⟨x,y,rfl,h.1,h.2⟩
 | x :: y :: z :: r,h=>by cases h
section
variable {P:Program} {w:World}
theorem entry_fn {base:Nat} {sp:Nat→Bool} {n:Nat} {k e:TypeId} {ps rs:Array TypeId} {va:Bool} {x:MapEntry} {kb:List UInt8} {b:UInt8} {r:List UInt8} {q:List MemPlace} {f0:FuncId}
  (hk:P.underlying k = some .string) (he:P.underlying e = some (.func ps rs va)) (hone:((List.range P.funcs.size).filter fun f=>(P.funcs[f]?).any (·.name.toUTF8.data.toList == b :: r)) = [f0])
  (h:((keyOf P k x.key).bind fun key=>if x.val.formed P e then (DataW.trod (funcToken P) P w base sp true n e x.val.cells.toList).map fun y=>((key,y.1),y.2) else none) = some ((.string kb,.held (b :: r)),q)) :
  x.key = .string ⟨kb.toArray⟩∧x.val = .func (.func f0) #[] #[]:=by
 simp only [Option.bind_eq_some_iff] at h
 obtain ⟨key,h1,h2⟩:=h
 split at h2
 ·rename_i hform
  simp only [Option.map_eq_some_iff] at h2
  obtain ⟨y,h3,h4⟩:=h2
  simp only [Prod.mk.injEq] at h4
  obtain ⟨⟨rfl,h5⟩,rfl⟩:=h4
  constructor
  ·unfold keyOf at h1
   simp only [hk] at h1
   unfold mapKey at h1
   rw [hk] at h1
   split at h1 <;> try (simp_all; done)
   rename_i s _ hs
   split at h1
   ·simp only [Option.some.injEq,Lit.string.injEq] at h1
    rw [hs]
    subst h1
    cases s
    simp
   ·cases h1
  ·have hc:∃ v,x.val.cells.toList = [v]∧x.val = v:=by
    cases hv:x.val with
    | agg cs =>
     rw [hv] at hform
     simp [Value.formed,he] at hform
    | tuple cs =>
     rw [hv] at hform
     simp [Value.formed] at hform
    | _=>exact ⟨_,rfl,rfl⟩
   obtain ⟨v,c1,c2⟩:=hc
   rw [c1] at h3
   rw [c2]
   refine func_of_trod (q:=y.2) he hone (fuel:=n) (base:=base) (sp:=sp) (w:=w) ?_
   rw [h3,← h5]
 ·cases h2
theorem table_at {n:String} {d:DataW Unit} {g:Nat} {t k e:TypeId} {ps rs:Array TypeId} {va:Bool} {k1 k2:List UInt8} {b1 b2:UInt8} {r1 r2:List UInt8} {f1 f2:FuncId}
  (h:funcsAt P w n d) (hg:P.globalNamed n = some g) (ht:(P.globals[g]?).map (·.type) = some t) (hu:P.underlying t = some (.map k e)) (hk:P.underlying k = some .string) (he:P.underlying e = some (.func ps rs va))
  (hd:d.funcsOut = .map [(.string k1,.held (b1 :: r1)),(.string k2,.held (b2 :: r2))])
  (hone1:((List.range P.funcs.size).filter fun f=>(P.funcs[f]?).any (·.name.toUTF8.data.toList == b1 :: r1)) = [f1])
  (hone2:((List.range P.funcs.size).filter fun f=>(P.funcs[f]?).any (·.name.toUTF8.data.toList == b2 :: r2)) = [f2]) :
  ∃ b,(∃ ty fr,w.heap[g]? = some (.cells #[.map (some b)] ty fr))∧∃ es clock,w.heap[b]? = some (.map es clock)∧∃ (o:Bool) (n1 n2:Nat),
   es.toList = cond o [⟨.string ⟨k1.toArray⟩,.func (.func f1) #[] #[],n1⟩,⟨.string ⟨k2.toArray⟩,.func (.func f2) #[] #[],n2⟩] [⟨.string ⟨k2.toArray⟩,.func (.func f2) #[] #[],n2⟩,⟨.string ⟨k1.toArray⟩,.func (.func f1) #[] #[],n1⟩]:=by
 obtain ⟨g',t',cs,fuel,p,q1,q2,q3,q4⟩:=h
 rw [hg] at q1; cases q1
 rw [ht] at q2; cases q2
 rw [hd] at q4
 cases fuel with
 | zero=>simp [DataW.trod] at q4
 | succ m =>
  have hcell:∃ ty fr,w.heap[g]? = some (.cells cs ty fr):=by
   simp only [World.var?,hg,Option.bind_some] at q3
   split at q3
   ·rename_i c ty fr hh
    cases q3; exact ⟨ty,fr,hh⟩
   ·cases q3
  unfold DataW.trod at q4
  rw [hu] at q4
  split at q4 <;> try (simp_all; done)
  rename_i k' e' b hkk hcs
  cases hkk
  split at q4
  ·rename_i es clock hb
   split at q4
   ·simp only [Option.bind_eq_some_iff] at q4
    obtain ⟨entries,m1,m2⟩:=q4
    split at m2
    ·simp only [Option.some.injEq,Prod.mk.injEq,DataW.map.injEq] at m2
     have hcs':cs = #[.map (some b)]:=by
      apply Array.toList_inj.1
      rw [hcs]
     rw [hcs'] at hcell
     refine ⟨b,hcell,es,clock,hb,?_⟩
     have hs:=sorted_two m2.1
     generalize es.toList = L at m1 ⊢
     have fin:∀ {o:Bool} {kA kB:List UInt8} {bA bB:UInt8} {rA rB:List UInt8} {fA fB:FuncId},
       ((List.range P.funcs.size).filter fun f=>(P.funcs[f]?).any (·.name.toUTF8.data.toList == bA :: rA)) = [fA] →
       ((List.range P.funcs.size).filter fun f=>(P.funcs[f]?).any (·.name.toUTF8.data.toList == bB :: rB)) = [fB] →
       entries.map (·.1) = [(.string kA,.held (bA :: rA)),(.string kB,.held (bB :: rB))] →
       ∃ nA nB,L = [⟨.string ⟨kA.toArray⟩,.func (.func fA) #[] #[],nA⟩,⟨.string ⟨kB.toArray⟩,.func (.func fB) #[] #[],nB⟩]:=fun {o kA kB bA bB rA rB fA fB} hA hB hs=>by
      obtain ⟨⟨x1,x2⟩,⟨y1,y2⟩,rfl,rfl,rfl⟩:=map_two hs
      obtain ⟨e1,e2,rfl,z1,z2⟩:=mapM_two m1
      obtain ⟨a1,a2⟩:=entry_fn hk he hA z1
      obtain ⟨c1,c2⟩:=entry_fn hk he hB z2
      refine ⟨e1.born,e2.born,?_⟩
      cases e1; cases e2
      simp only at a1 a2 c1 c2
      subst a1; subst a2; subst c1; subst c2
      rfl
     rcases hs with hs | hs
     ·obtain ⟨nA,nB,q⟩:=fin (o:=true) hone1 hone2 hs
      exact ⟨true,nA,nB,q⟩
     ·obtain ⟨nA,nB,q⟩:=fin (o:=false) hone2 hone1 hs
      exact ⟨false,nB,nA,q⟩
    ·cases m2
   ·cases q4
  ·cases q4
end
end Go.Run
noncomputable section
namespace Go.Run
open Go.RowKit
section
variable {P:Program} {F:T Func} {w0:World} {G:Nat} {L:Lam} {H:AH} {w:World} {cs0:List Frame} {f0:FuncId} {C:World→Prop}
def LeadsC (C:World→Prop) (P:Program) (G:Nat) (test:Value→AH→Bool) (c:Cfg):Prop :=
 ∀ (w0:World) (cs0:List Frame) (f0:FuncId) (m:Machine),C w0→Sim P w0 G cs0 f0 c m →
  ∃ L v H' x fr w',test v H' = true∧Steps P m (lone fr cs0 w')∧fr.fn = f0∧fr.leaving P w' (.returned x)∧HRel w0 G L H' w'∧VR L v x
theorem leadsC_run (hF:FunOK P F) (hm:P.follows .mixedOrders = true) {test:Value→AH→Bool} {n:Nat} {c:Cfg} (h:runF P F G test n c = true):LeadsC C P G test c :=
 fun _ _ _ m _ hs=>run_spec hF hm n c m hs (by rw [← runF_run]; exact h)
theorem leadsC_steps (hF:FunOK P F) (hm:P.follows .mixedOrders = true) {test:Value→AH→Bool}:∀ (n:Nat) (c c':Cfg),stepsF P F G n c = some c'→LeadsC C P G test c'→LeadsC C P G test c
 | 0,c,c',h,hl=>by simp only [stepsF,Option.some.injEq] at h; subst h; exact hl
 | n + 1,c,c',h,hl=>by
  simp only [stepsF] at h
  split at h
  ·rename_i c1 h1
   intro w0 cs0 f0 m hc hs
   rw [astepF_eq] at h1
   obtain ⟨c2,m1,m',s1,hs'⟩:=sim_step hF hm hs h1 (by simp)
   simp only [List.mem_singleton] at m1
   subst m1
   obtain ⟨L,v,H',x,fr,w',q0,q1,q2⟩:=leadsC_steps hF hm n c2 c' h hl w0 cs0 f0 m' hc hs'
   exact ⟨L,v,H',x,fr,w',q0,s1.trans q1,q2⟩
  ·cases h
theorem leadsC_cut (hF:FunOK P F) (hm:P.follows .mixedOrders = true) {test:Value→AH→Bool} {n:Nat} {live:List Nat} {c c':Cfg} (h:cutF P F G n live c = some c') (hl:LeadsC C P G test c'):LeadsC C P G test c:=by
 unfold cutF at h
 split at h
 ·rename_i c1 h1
  split at h
  ·rename_i hd
   cases h
   refine leadsC_steps hF hm n c c1 h1 fun w0 cs0 f0 m hc hs=>?_
   exact hl w0 cs0 f0 m hc (hs.only hd live)
  ·cases h
 ·cases h
theorem callsC_of_leads (hF:FunOK P F) {fn:Func} {m:T AObj} (hg:GlobOK G w0 m) (hsz:G ≤ w0.heap.size) (hf:F.get f0 = some fn) (hsm:small fn.ntmps = true) {r:Value} (hr:flat r = true) (hc:C w0)
  (h:LeadsC C P G (fun v _=>veq v r) (start fn f0 G [] m)):Calls P f0 #[] w0 fun e w'=>e = .returned r∧Kept w0 w':=by
 intro cs
 have hH:=start_rel hg hsz
 obtain ⟨h1,h2,h3⟩:=hF f0 fn hf
 cases hb:fn.body with
 | none=>rw [hb] at h2; cases h2
 | some body =>
  have hLR:LR (fun c=>if c < G then some ⟨c,0,0⟩ else none) [] []:=LR.refl_flat fun c hc=>by cases hc
  have htop:=enter_rel (G:=G) (H:=⟨G,m⟩) hF hf hb hLR (Nat.zero_le _) hsm
  have hsim:Sim P w0 G cs f0 (start fn f0 G [] m) (lone (Frame.enter P f0 #[] .normal) ([]++cs) w0):=by
   refine ⟨_,_,[],w0,rfl,hH,?_,.nil,Nat.le_refl _,Nat.le_refl _,rfl⟩
   simpa [start,hb] using htop
  obtain ⟨L,v,H',x,fr,w',q0,q1,q2,q3,q4,q5⟩:=h _ _ _ _ hc hsim
  have hv:=veq_eq q0
  subst hv
  have hx:=q5.eq_flat hr
  subst hx
  exact ⟨.returned x,w',fr,⟨rfl,q4.keep⟩,q1,q2,q3⟩
structure More (w w':World):Prop where
 os:w'.os = w.os
 tape:w'.tape = w.tape
 output:w'.output = w.output
 size:w.heap.size ≤ w'.heap.size
 block:∀ k,k < w.heap.size→w'.heap[k]? = w.heap[k]?
theorem More.refl (w:World):More w w:=⟨rfl,rfl,rfl,Nat.le_refl _,fun _ _=>rfl⟩
theorem More.alloc {w w':World} (h:More w w') (o:Obj):More w (w'.alloc o):=by
 have g:=Grew.alloc w' o
 exact ⟨g.os.trans h.os,g.tape.trans h.tape,g.output.trans h.output,by rw [g.size]; have:=h.size; omega,fun k hk=>(g.block k (Nat.lt_of_lt_of_le hk h.size)).trans (h.block k hk)⟩
theorem HRel.more (h:HRel w0 G L H w) {w':World} (hw:More w w'):HRel w0 G L H w' :=
 ⟨fun b o p h1 h2=>(h.obj b o p h1 h2).mono (Lam.le_refl L) (hw.block _ (h.lt b p h2)),h.inj,h.dom,h.own,fun b p q=>Nat.lt_of_lt_of_le (h.lt b p q) hw.size,
  ⟨hw.os.trans h.keep.os,hw.tape.trans h.keep.tape,hw.output.trans h.keep.output,Nat.le_trans h.keep.size hw.size,fun k hk=>(hw.block k (Nat.lt_of_lt_of_le hk h.keep.size)).trans (h.keep.block k hk)⟩,h.glob,h.gnx⟩
structure AsK (C:World→Prop) (P:Program) (f:FuncId) (M Q:TypeId):Prop where
 kept:∀ w0 w,C w0→Kept w0 w→C w
 hit:∀ (n:Int) (t:Addr) (old:Value) (w:World),C w→w.cell? t = some old→w.frozen? t = false →
  Calls P f #[.iface M (.agg #[.int .i64 n]),.iface Q (.pointer (some t))] w fun e w'=>e = .returned (.bool true)∧∃ wg,More w wg∧w' = wg.setCell t (.int .i64 n)
 store:∀ (t:Addr) (x old:Value) (w:World),x.oneCell' = true→w.cell? t = some old→w.frozen? t = false→(storeVar M t (.agg #[x])).run P w = .ok () (w.setCell t x)
def restU (tm:T Value) (nt:Nat):Bool:=(List.range nt).all fun s=>Nat.blt s 2 || veq (tget tm s) undef
theorem tmps_two {L:Lam} {tm:T Value} {tmps:Array Value} (h:TR L tm tmps) {nt:Nat} (hs:tmps.size = nt) (h2:2 ≤ nt) (hr:restU tm nt = true) :
  ∃ x0 x1,VR L (tget tm 0) x0∧VR L (tget tm 1) x1∧tmps = #[x0,x1]++Array.replicate (nt - 2) undef:=by
 have h0:0 < tmps.size:=by omega
 have h1:1 < tmps.size:=by omega
 have e:∀ s (hs:s < tmps.size),tmps.getD s undef = tmps[s]:=fun s hs=>by rw [Array.getD_eq_getD_getElem?,Array.getElem?_eq_getElem hs]; rfl
 refine ⟨tmps[0],tmps[1],by have:=h 0; rwa [e 0 h0] at this,by have:=h 1; rwa [e 1 h1] at this,?_⟩
 apply Array.ext
 ·simp; omega
 ·intro i hi hi'
  rw [Array.getElem_append]
  by_cases q:i < 2
  ·rw [dif_pos (by simpa using q)]
   rcases (by omega:i = 0 ∨ i = 1) with rfl | rfl <;> rfl
  ·rw [dif_neg (by simpa using q),Array.getElem_replicate]
   have hu:=List.all_eq_true.1 hr i (List.mem_range.2 (by omega))
   simp only [Bool.or_eq_true,Nat.blt_eq] at hu
   rcases hu with hu | hu
   ·omega
   ·have hv:=h i
    rw [e i hi,veq_eq hu] at hv
    exact hv.eq_flat (by rfl)
theorem leads_as {M Q:TypeId} {f:FuncId} {fn:Func} {body:Code} (hK:AsK C P f M Q) (hf:P.funcs[f]? = some fn) (hb:fn.body = some body) (h2:2 ≤ fn.ntmps)
  {test:Value→AH→Bool} {tm:T Value} {lo:Nat} {ca:AFr} {cs:List AFr} {c':Cfg} {n:Int} {tb:Nat} {ty:TypeId} {t:T Value} {old:Value}
  (g0:tget tm 0 = .iface M (.agg #[.int .i64 n])) (g1:tget tm 1 = .iface Q (.pointer (some ⟨tb,0,none⟩))) (hr:restU tm fn.ntmps = true)
  (ho:H.get tb = some (.cells 1 t ty none (0,0))) (ht:t.get 0 = some old) (hst:storeA P G H M (.pointer (some ⟨tb,0,none⟩)) (.agg #[.int .i64 n]) = some (H.set tb (.cells 1 (t.setRow 0 [.int .i64 n]) ty none (0,0))))
  (hca:ca.ret = false) (hfin:finishA P ca cs (H.set tb (.cells 1 (t.setRow 0 [.int .i64 n]) ty none (0,0))) (.bool true) = [c'])
  (hl:LeadsC C P G test c') :
  LeadsC C P G test ⟨{ fn:=f,nt:=fn.ntmps,tm:=tm,todo:=[.code body],dr:=none,defers:=[],ret:=false,rnd:=none,lo:=lo },ca :: cs,H⟩:=by
 intro w0 cs0 f0 m hC0 hs
 obtain ⟨L,cf,cfs,w,rfl,hH,⟨b,a,hB,hT⟩,hCR,hlo,hG,hbot⟩:=hs
 dsimp only at hH hB hT hCR hlo hG hbot
 rcases hT with ⟨_,todo,rfl,hbody⟩ | ⟨k,_⟩
 rotate_left
 ·cases k
 obtain ⟨hI,hTR⟩:=hbody
 have htodo:todo = [.code body]:=by
  cases hI with
  | same hp hk=>cases hk; rfl
 subst htodo
 obtain ⟨x0,x1,v0,v1,htm⟩:=tmps_two hTR hB.size h2 hr
 rw [g0] at v0
 rw [g1] at v1
 have e0:x0 = .iface M (.agg #[.int .i64 n]):=v0.eq_flat (by rfl)
 subst e0
 obtain ⟨p,hp,rfl⟩:∃ p,L tb = some p∧x1 = .iface Q (.pointer (some ⟨p.b,p.base + 0,none⟩)):=by
  cases v1 with
  | iface h =>
   cases h with
   | ptr hp=>exact ⟨_,hp,rfl⟩
 obtain ⟨cur,fr,k1,k2,⟨k3,k3'⟩,k4⟩:=hH.obj tb _ p ho hp
 have hfr:fr = (0,0):=by
  rcases k2 with ⟨_,h⟩ | ⟨h,_⟩ | ⟨_,h⟩ | h
  ·exact h
  ·cases h
  ·exact h
  ·simp at h
 subst hfr
 obtain ⟨v,x,q1,q2,q3,q4⟩:=k4 0 (by omega)
 rw [k3] at q2
 have hcell:w.cell? ⟨p.b,p.base + 0,none⟩ = some x:=by rw [k3]; simp [World.cell?,k1,q2]
 have hfrz:w.frozen? ⟨p.b,p.base + 0,none⟩ = false:=by simp [World.frozen?,k1]
 cases hCR with
 | cons hw hw1 hw2 hk =>
  rename_i cf2 cfs2
  rcases hw with hw | ⟨hret,_⟩
  rotate_left
  ·rw [hca] at hret; cases hret
  have hframe:b.atR a [.code body] = Frame.enter P f #[.iface M (.agg #[.int .i64 n]),.iface Q (.pointer (some ⟨p.b,p.base + 0,none⟩))] .normal:=by
   have r1:=hB.fn
   have r2:=hB.kind
   have r3:a.defers = []:=hB.defers.nil_inv
   have r4:b.roundOf = none:=by
    have:=hB.rnd
    cases hq:b.roundOf with
    | none=>rfl
    | some l=>rw [hq] at this; cases this
   have r5:kindD false = .normal:=rfl
   simp only [Frame.atR,Frame.enter,r1,r2,r3,r4,htm,hf,hb,r5,Option.map_some,Option.getD_some,Option.bind_some]
   rfl
  have hC:=hK.kept w0 w hC0 hH.keep
  obtain ⟨e,w',fr',⟨rfl,wg,hmore,rfl⟩,hcomes,hfn,hleave⟩:=hK.hit n ⟨p.b,p.base + 0,none⟩ x w hC hcell hfrz (cf2 :: cfs2++cs0)
  have hstep:=step_leave_returned (P:=P) (c:=cf2) (cs:=cfs2++cs0) hleave
  have hcg:wg.cell? ⟨p.b,p.base + 0,none⟩ = some x:=by
   have:=hmore.block p.b (hH.lt tb p hp)
   rw [k3]; simp [World.cell?,this,k1,q2]
  have hfg:wg.frozen? ⟨p.b,p.base + 0,none⟩ = false:=by
   have:=hmore.block p.b (hH.lt tb p hp)
   simp [World.frozen?,this,k1]
  obtain ⟨w2,s1,s2⟩:=storeA_spec (hH.more hmore) hst (VR.ptr hp) (VR.refl_flat (by rfl):VR L (.agg #[.int .i64 n]) (.agg #[.int .i64 n]))
  have s3:=hK.store ⟨p.b,p.base + 0,none⟩ (.int .i64 n) x wg rfl hcg hfg
  have s4:w2 = wg.setCell ⟨p.b,p.base + 0,none⟩ (.int .i64 n):=by
   simp only [Instr.storeAt,Instr.sureAddr,Sem.run_bind] at s1
   simp only [s3,Sem.run_pure,Result.andThen_ok] at s1
   cases s1; rfl
  subst s4
  obtain ⟨c2,m1,hsim⟩:=finish_met (P:=P) (f0:=f0) (cs0:=cs0) s2 hw hw1 (by exact hlo) hw2 hk (VR.refl_flat (by rfl):VR L (.bool true) (.bool true)) (by exact hbot) (by rw [hfin]; simp)
  rw [hfin,List.mem_singleton] at m1
  subst m1
  obtain ⟨L',v',H',x',fr2,w3,z0,z1,z2⟩:=hl w0 cs0 f0 _ hC0 hsim
  refine ⟨L',v',H',x',fr2,w3,z0,?_,z2⟩
  rw [hframe]
  exact (show Steps P _ _ from hcomes).trans ((Steps.one hstep).trans z1)
end
end Go.Run
