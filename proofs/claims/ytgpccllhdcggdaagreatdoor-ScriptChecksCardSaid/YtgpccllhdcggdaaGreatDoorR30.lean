import Derived.Test.YtgpccllhdcggdaaGreatDoorR27
import Derived.LaidSub
set_option linter.unusedSimpArgs false
set_option linter.unusedVariables false
noncomputable section
namespace Go.Run
open Go.RowKit
def tabL (G bm:Nat):Lam:=fun c=>if c + 1 = G then some ⟨bm,0,0⟩ else if c < G then some ⟨c,0,0⟩ else none
theorem zax {G bm c:Nat} {p:Pl} (h:tabL G bm c = some p):(c + 1 = G/\p = ⟨bm,0,0⟩) ∨ (c + 1 < G/\p = ⟨c,0,0⟩):=by
 unfold tabL at h
 split at h
 ·cases h; exact .inl ⟨by assumption,rfl⟩
 ·split at h
  ·cases h; exact .inr ⟨by omega,rfl⟩
  ·cases h
theorem zvs {G bm:Nat}:tabL (G + 1) bm G = some ⟨bm,0,0⟩:=if_pos rfl
def GlobT (G bm:Nat) (w0:World) (m:T AObj):Prop:=∀ b o,m.get b = some o->(b + 1 < G/\b ≠ bm/\Y7 (tabL G bm) w0 ⟨b,0,0⟩ o) ∨ (b + 1 = G/\Y7 (tabL G bm) w0 ⟨bm,0,0⟩ o)
theorem globT_nil {G bm:Nat} {w0:World}:GlobT G bm w0 .nil:=fun b o h=>by simp [T.get_nil] at h
theorem globT_set {G bm:Nat} {w0:World} {m:T AObj} (h:GlobT G bm w0 m) {g:Nat} {o:AObj} (hg:g + 1 < G) (hne:g ≠ bm) (ho:Y7 (tabL G bm) w0 ⟨g,0,0⟩ o):GlobT G bm w0 (m.set g o):=by
 intro b o' hb
 rw [T.get_set (by rfl)] at hb
 by_cases e:b = g
 ·subst e
  rw [if_pos rfl] at hb; cases hb
  exact .inl ⟨hg,hne,ho⟩
 ·rw [if_neg e] at hb
  exact h b o' hb
theorem globT_map {G bm:Nat} {w0:World} {m:T AObj} (h:GlobT (G + 1) bm w0 m) {o:AObj} (ho:Y7 (tabL (G + 1) bm) w0 ⟨bm,0,0⟩ o):GlobT (G + 1) bm w0 (m.set G o):=by
 intro b o' hb
 rw [T.get_set (by rfl)] at hb
 by_cases e:b = G
 ·subst e
  rw [if_pos rfl] at hb; cases hb
  exact .inr ⟨rfl,ho⟩
 ·rw [if_neg e] at hb
  exact h b o' hb
theorem tabCell_rel {G bm g:Nat} {w0:World} {ty:TypeId} {fr:Nat × Nat} (h:w0.heap[g]? = some (.cells #[.map (some bm)] ty fr)) :
  Y7 (tabL (G + 1) bm) w0 ⟨g,0,0⟩ (.cells 1 (T.set .nil 0 (.map (some G))) ty none (0,2)):=by
 refine ⟨#[.map (some bm)],fr,h,.inr (.inr (.inr (by show 1 < 2; omega))),⟨rfl,rfl⟩,fun i hi=>?_⟩
 have:i = 0:=by omega
 subst this
 refine ⟨.map (some G),.map (some bm),?_,rfl,VR.map (p:=⟨bm,0,0⟩) zvs,rfl⟩
 rw [T.get_set (by rfl),if_pos rfl]
theorem tabMap_rel {L:Lam} {bm k:Nat} {w0:World} {es:Array MapEntry} {l:List MapEntry} (h:w0.heap[bm]? = some (.map es k)) (hl:es.toList = l) (hf:∀ x ∈ l,flat x.key = true/\flat x.val = true) :
  Y7 L w0 ⟨bm,0,0⟩ (.map l k):=by
 subst hl
 refine ⟨es,h,rfl,fun i e e' h1 h2=>?_⟩
 rw [h1] at h2; cases h2
 have hx:=hf e (List.mem_of_getElem? h1)
 exact ⟨VR.refl_flat hx.1,VR.refl_flat hx.2,rfl⟩
section
variable {P:Program} {F:T Func} {w0:World} {G bm:Nat} {f0:FuncId}
theorem zoI {m:T AObj} (hg:GlobT G bm w0 m) (hsz:G <= w0.heap.size + 1) (hbm:bm < w0.heap.size):zH w0 G (tabL G bm) ⟨G,m⟩ w0:=by
 refine ⟨fun b o p h1 h2=>?_,fun b b' o o' p p' h1 h2 _ _ h3 h4 he=>?_,fun b p h=>?_,fun b p hG h=>?_,fun b p h=>?_,⟨rfl,rfl,rfl,Nat.le_refl _,fun _ _=>rfl⟩,fun g hgl=>?_,Nat.le_refl _⟩
 ·rcases zax h2 with ⟨q,rfl⟩ | ⟨q,rfl⟩ <;> rcases hg b o h1 with ⟨k,_,k3⟩ | ⟨k,k3⟩
  ·omega
  ·exact k3
  ·exact k3
  ·omega
 ·rcases zax h3 with ⟨q,rfl⟩ | ⟨q,rfl⟩ <;> rcases zax h4 with ⟨q',rfl⟩ | ⟨q',rfl⟩
  ·omega
  ·rcases hg b' o' h2 with ⟨_,k2,_⟩ | ⟨k,_⟩
   ·exact absurd he.symm k2
   ·omega
  ·rcases hg b o h1 with ⟨_,k2,_⟩ | ⟨k,_⟩
   ·exact absurd he k2
   ·omega
  ·exact he
 ·show b < G
  rcases zax h with ⟨q,_⟩ | ⟨q,_⟩ <;> omega
 ·rcases zax h with ⟨q,_⟩ | ⟨q,_⟩ <;> omega
 ·rcases zax h with ⟨q,rfl⟩ | ⟨q,rfl⟩
  ·exact hbm
  ·show b < _; omega
 ·unfold tabL
  rw [if_neg (by omega),if_pos (by omega)]
theorem calls_of_leadsT (hF:Yn P F) {fn:Func} {m:T AObj} (hg:GlobT G bm w0 m) (hsz:G <= w0.heap.size + 1) (hbm:bm < w0.heap.size) (hf:F.get f0 = some fn) (hsm:zq fn.ntmps = true) {r:Value} (hr:flat r = true)
  (h:Leads P G (fun v _=>veq v r) (start fn f0 G [] m)):Calls P f0 #[] w0 fun e w'=>e = .returned r/\Kept w0 w':=by
 intro cs
 have hH:=zoI hg hsz hbm
 obtain ⟨h1,h2,h3⟩:=hF f0 fn hf
 cases hb:fn.body with
 | none=>rw [hb] at h2; cases h2
 | some body =>
  have hLR:LR (tabL G bm) [] []:=LR.refl_flat fun c hc=>by cases hc
  have htop:=zeB (G:=G) (H:=⟨G,m⟩) hF hf hb hLR (Nat.zero_le _) hsm
  have hsim:Sim P w0 G cs f0 (start fn f0 G [] m) (lone (Frame.enter P f0 #[] .normal) ([]++cs) w0):=by
   refine ⟨_,_,[],w0,rfl,hH,?_,.nil,Nat.le_refl _,Nat.le_refl _,rfl⟩
   simpa [start,hb] using htop
  obtain ⟨L,v,H',x,fr,w',q0,q1,q2,q3,q4,q5⟩:=h _ _ _ _ hsim
  have hv:=zhc q0
  subst hv
  have hx:=q5.eq_flat hr
  subst hx
  exact ⟨.returned x,w',fr,⟨rfl,q4.keep⟩,q1,q2,q3⟩
end
end Go.Run
noncomputable section
namespace Go.Run
open Go.RowKit
theorem zoJ {H:Type} {x y:Lit × DataW H}:DataW.insert x [y] = [x,y] ∨ DataW.insert x [y] = [y,x]:=by
 simp only [DataW.insert]
 split
 ·exact .inl rfl
 ·exact .inr rfl
theorem zcB {H:Type} (x:Lit × DataW H):∀ l:List (Lit × DataW H),(DataW.insert x l).length = l.length + 1
 | []=>rfl
 | y :: r=>by
  simp only [DataW.insert]
  split
  ·rfl
  ·simp [zcB x r]
theorem zcC {H:Type}:∀ l:List (Lit × DataW H),(l.foldr DataW.insert []).length = l.length
 | []=>rfl
 | x :: r=>by simp [zcB,zcC r]
theorem zoK {H:Type} {l:List (Lit × DataW H)} {a b:Lit × DataW H} (h:l.foldr DataW.insert [] = [a,b]):l = [a,b] ∨ l = [b,a]:=by
 have hl:=zcC l
 rw [h] at hl
 match l,hl,h with
 | [x,y],_,h =>
  have e:[x,y].foldr DataW.insert [] = DataW.insert x [y]:=rfl
  rw [e] at h
  rcases zoJ (x:=x) (y:=y) with q | q <;> rw [q] at h <;> cases h
  ·exact .inl rfl
  ·exact .inr rfl
theorem ztg {α β:Type} {f:α->Option β} {x y:β}:∀ {L:List α},L.mapM f = some [x,y]->∃ e1 e2,L = [e1,e2]/\f e1 = some x/\f e2 = some y
 | [],m1=>by simp at m1
 | [a],m1=>by
  simp only [List.mapM_cons,List.mapM_nil] at m1
  simp only [Option.bind_eq_bind,Option.bind_eq_some_iff] at m1
  obtain ⟨u,_,v,hv,hw⟩:=m1
  cases hv; cases hw
 | [a,c],m1=>by
  simp only [List.mapM_cons,List.mapM_nil] at m1
  simp only [Option.bind_eq_bind,Option.bind_eq_some_iff] at m1
  obtain ⟨u,hu1,v,⟨u2,hu2,v2,hv2,hw2⟩,hw⟩:=m1
  cases hv2; cases hw2; cases hw
  exact ⟨a,c,rfl,hu1,hu2⟩
 | a :: c :: d :: r,m1=>by
  simp only [List.mapM_cons] at m1
  simp only [Option.bind_eq_bind,Option.bind_eq_some_iff] at m1
  obtain ⟨u,hu1,v,⟨u2,hu2,v2,⟨u3,hu3,v3,hv3,hw3⟩,hw2⟩,hw⟩:=m1
  cases hw3; cases hw2; cases hw
theorem zvt {α β:Type} {f:α->β} {a b:β}:∀ {l:List α},l.map f = [a,b]->∃ x y,l = [x,y]/\f x = a/\f y = b
 | [],h=>by cases h
 | [x],h=>by cases h
 | [x,y],h=>by
  simp only [List.map_cons,List.map_nil,List.cons.injEq,and_true] at h
  exact ⟨x,y,rfl,h.1,h.2⟩
 | x :: y :: z :: r,h=>by cases h
section
variable {P:Program} {w:World}
theorem zmJ {base:Nat} {sp:Nat->Bool} {n:Nat} {k e:TypeId} {ps rs:Array TypeId} {va:Bool} {x:MapEntry} {kb:List UInt8} {b:UInt8} {r:List UInt8} {q:List MemPlace} {f0:FuncId}
  (hk:P.underlying k = some .string) (he:P.underlying e = some (.func ps rs va)) (hone:((List.range P.funcs.size).filter fun f=>(P.funcs[f]?).any (·.name.toUTF8.data.toList == b :: r)) = [f0])
  (h:((keyOf P k x.key).bind fun key=>if x.val.formed P e then (DataW.trod (funcToken P) P w base sp true n e x.val.cells.toList).map fun y=>((key,y.1),y.2) else none) = some ((.string kb,.held (b :: r)),q)) :
  x.key = .string ⟨kb.toArray⟩/\x.val = .func (.func f0) #[] #[]:=by
 simp only [Option.bind_eq_some_iff] at h
 obtain ⟨key,h1,h2⟩:=h
 split at h2
 ·rename_i hform
  simp only [Option.map_eq_some_iff] at h2
  obtain ⟨y,h3,h4⟩:=h2
  simp only [Prod.mk.injEq] at h4
  obtain ⟨⟨rfl,h5⟩,rfl⟩:=h4
  constructor
  ·unfold keyOf at h1
   simp only [hk] at h1
   unfold mapKey at h1
   rw [hk] at h1
   split at h1 <;> try (simp_all; done)
   rename_i s _ hs
   split at h1
   ·simp only [Option.some.injEq,Lit.string.injEq] at h1
    rw [hs]
    subst h1
    cases s
    simp
   ·cases h1
  ·have hc:∃ v,x.val.cells.toList = [v]/\x.val = v:=by
    cases hv:x.val with
    | agg cs =>
     rw [hv] at hform
     simp [Value.formed,he] at hform
    | tuple cs =>
     rw [hv] at hform
     simp [Value.formed] at hform
    | _=>exact ⟨_,rfl,rfl⟩
   obtain ⟨v,c1,c2⟩:=hc
   rw [c1] at h3
   rw [c2]
   refine func_of_trod (q:=y.2) he hone (fuel:=n) (base:=base) (sp:=sp) (w:=w) ?_
   rw [h3,<- h5]
 ·cases h2
theorem table_at {n:String} {d:DataW Unit} {g:Nat} {t k e:TypeId} {ps rs:Array TypeId} {va:Bool} {k1 k2:List UInt8} {b1 b2:UInt8} {r1 r2:List UInt8} {f1 f2:FuncId}
  (h:funcsAt P w n d) (hg:P.globalNamed n = some g) (ht:(P.globals[g]?).map (·.type) = some t) (hu:P.underlying t = some (.map k e)) (hk:P.underlying k = some .string) (he:P.underlying e = some (.func ps rs va))
  (hd:d.funcsOut = .map [(.string k1,.held (b1 :: r1)),(.string k2,.held (b2 :: r2))])
  (hone1:((List.range P.funcs.size).filter fun f=>(P.funcs[f]?).any (·.name.toUTF8.data.toList == b1 :: r1)) = [f1])
  (hone2:((List.range P.funcs.size).filter fun f=>(P.funcs[f]?).any (·.name.toUTF8.data.toList == b2 :: r2)) = [f2]) :
  ∃ b,(∃ ty fr,w.heap[g]? = some (.cells #[.map (some b)] ty fr))/\∃ es clock,w.heap[b]? = some (.map es clock)/\∃ (o:Bool) (n1 n2:Nat),
   es.toList = cond o [⟨.string ⟨k1.toArray⟩,.func (.func f1) #[] #[],n1⟩,⟨.string ⟨k2.toArray⟩,.func (.func f2) #[] #[],n2⟩] [⟨.string ⟨k2.toArray⟩,.func (.func f2) #[] #[],n2⟩,⟨.string ⟨k1.toArray⟩,.func (.func f1) #[] #[],n1⟩]:=by
 obtain ⟨g',t',cs,fuel,p,q1,q2,q3,q4⟩:=h
 rw [hg] at q1; cases q1
 rw [ht] at q2; cases q2
 rw [hd] at q4
 cases fuel with
 | zero=>simp [DataW.trod] at q4
 | succ m =>
  have hcell:∃ ty fr,w.heap[g]? = some (.cells cs ty fr):=by
   simp only [World.var?,hg,Option.bind_some] at q3
   split at q3
   ·rename_i c ty fr hh
    cases q3; exact ⟨ty,fr,hh⟩
   ·cases q3
  unfold DataW.trod at q4
  rw [hu] at q4
  split at q4 <;> try (simp_all; done)
  rename_i k' e' b hkk hcs
  cases hkk
  split at q4
  ·rename_i es clock hb
   split at q4
   ·simp only [Option.bind_eq_some_iff] at q4
    obtain ⟨entries,m1,m2⟩:=q4
    split at m2
    ·simp only [Option.some.injEq,Prod.mk.injEq,DataW.map.injEq] at m2
     have hcs':cs = #[.map (some b)]:=by
      apply Array.toList_inj.1
      rw [hcs]
     rw [hcs'] at hcell
     refine ⟨b,hcell,es,clock,hb,?_⟩
     have hs:=zoK m2.1
     generalize es.toList = L at m1 ⊢
     have fin:∀ {o:Bool} {kA kB:List UInt8} {bA bB:UInt8} {rA rB:List UInt8} {fA fB:FuncId},
       ((List.range P.funcs.size).filter fun f=>(P.funcs[f]?).any (·.name.toUTF8.data.toList == bA :: rA)) = [fA] ->
       ((List.range P.funcs.size).filter fun f=>(P.funcs[f]?).any (·.name.toUTF8.data.toList == bB :: rB)) = [fB] ->
       entries.map (·.1) = [(.string kA,.held (bA :: rA)),(.string kB,.held (bB :: rB))] ->
       ∃ nA nB,L = [⟨.string ⟨kA.toArray⟩,.func (.func fA) #[] #[],nA⟩,⟨.string ⟨kB.toArray⟩,.func (.func fB) #[] #[],nB⟩]:=fun {o kA kB bA bB rA rB fA fB} hA hB hs=>by
      obtain ⟨⟨x1,x2⟩,⟨y1,y2⟩,rfl,rfl,rfl⟩:=zvt hs
      obtain ⟨e1,e2,rfl,z1,z2⟩:=ztg m1
      obtain ⟨a1,a2⟩:=zmJ hk he hA z1
      obtain ⟨c1,c2⟩:=zmJ hk he hB z2
      refine ⟨e1.born,e2.born,?_⟩
      cases e1; cases e2
      simp only at a1 a2 c1 c2
      subst a1; subst a2; subst c1; subst c2
      rfl
     rcases hs with hs | hs
     ·obtain ⟨nA,nB,q⟩:=fin (o:=true) hone1 hone2 hs
      exact ⟨true,nA,nB,q⟩
     ·obtain ⟨nA,nB,q⟩:=fin (o:=false) hone2 hone1 hs
      exact ⟨false,nB,nA,q⟩
    ·cases m2
   ·cases q4
  ·cases q4
end
end Go.Run
