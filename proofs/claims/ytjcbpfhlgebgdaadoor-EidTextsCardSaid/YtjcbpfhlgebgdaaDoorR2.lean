import Derived.Test.YtjcbpfhlgebgdaaDoorR1
noncomputable section
namespace Go.Run
open Go.RowKit
inductive AObj where
  | cells (n:Nat) (t:T Value) (ty:TypeId) (op:Option Nat) (fz:Nat × Nat)
 | map (es:List MapEntry) (clock:Nat)
 | siter (s:ByteArray) (pos:Nat)
 | miter (m:Option Nat) (since:Nat) (seen:Array Nat) (stepped:Nat)
 | loop (state:LoopState) (pend:Option Code) (fn:FuncId) (nt:Nat) (tm:T Value) (params:Array Tmp) (assign body:Code) (dblk:Nat)
 | dfr (some_:Bool)
 | dead
def AObj.alive:AObj→Bool
 | .dead=>false
 | _=>true
structure AH where
 nx:Nat
 m:T AObj
def AH.get (H:AH) (b:Nat):Option AObj:=H.m.get b
def AH.push (H:AH) (o:AObj):AH:=⟨H.nx + 1,H.m.set H.nx o⟩
def AH.set (H:AH) (b:Nat) (o:AObj):AH:=⟨H.nx,H.m.set b o⟩
theorem AH.get_push {H:AH} {o:AObj} (h:small H.nx = true) (b:Nat):(H.push o).get b = if b = H.nx then some o else H.get b:=T.get_set h b
theorem AH.get_set {H:AH} {b:Nat} {o:AObj} (h:small b = true) (c:Nat):(H.set b o).get c = if c = b then some o else H.get c:=T.get_set h c
def tget (t:T Value) (s:Nat):Value:=(t.get s).getD undef
def TR (L:Lam) (tm:T Value) (tmps:Array Value):Prop:=∀ s,VR L (tget tm s) (tmps.getD s undef)
theorem VR.undef (L:Lam):VR L undef undef:=VR.refl_flat (by rfl)
theorem TR.mono {L L':Lam} (hl:L.le L') {tm:T Value} {tmps:Array Value} (h:TR L tm tmps):TR L' tm tmps:=fun s=>(h s).mono hl
structure ER (L:Lam) (e e':MapEntry):Prop where
 key:VR L e.key e'.key
 val:VR L e.val e'.val
 born:e'.born = e.born
theorem ER.mono {L L':Lam} (hl:L.le L') {e e':MapEntry} (h:ER L e e'):ER L' e e':=⟨h.key.mono hl,h.val.mono hl,h.born⟩
def MR (L:Lam) (es es':List MapEntry):Prop:=es.length = es'.length∧∀ (i:Nat) (e e':MapEntry),es[i]? = some e→es'[i]? = some e'→ER L e e'
theorem MR.mono {L L':Lam} (hl:L.le L') {es es':List MapEntry} (h:MR L es es'):MR L' es es':=⟨h.1,fun i e e' a b=>(h.2 i e e' a b).mono hl⟩
def ORel (L:Lam) (w:World) (p:Pl):AObj→Prop
 | .cells n t ty op fz=>∃ cur fr,w.heap[p.b]? = some (.cells cur ty fr)∧((fz = (0,0)∧fr = (0,0)) ∨ (fz = (1,0)∧(fr.2 ≤ fr.1 ∨ cur.size ≤ fr.1)) ∨ (p.base = 0∧fr = fz) ∨ cur.size < fz.2) ∧
   (match op with | none=>p.base = 0∧cur.size = n | some sz=>cur.size = p.base + n + p.ext * sz) ∧
   ∀ i,i < n→∃ v x,t.get i = some v∧cur[p.base + i]? = some x∧VR L v x∧x.oneCell' = true
 | .map es clock=>∃ es',w.heap[p.b]? = some (.map es' clock)∧MR L es es'.toList
 | .siter s pos=>p.base = 0∧w.heap[p.b]? = some (.stringIter s pos)
 | .miter m since seen stepped=>p.base = 0∧∃ m',w.heap[p.b]? = some (.mapIter m' since seen stepped)∧VR L (.map m) (.map m')
 | .loop st pend fn nt tm params assign body dblk=>∃ tmps d,w.heap[p.b]? = some (.loop { state:=st,pending:=pend,fn:=fn,tmps:=tmps,params:=params,assign:=assign,body:=body,defers:=d }) ∧
   tmps.size = nt∧TR L tm tmps∧∃ q,L dblk = some q∧d = q.b
 | .dfr s=>w.heap[p.b]? = some (.deferred (if s then some [] else none))
 | .dead=>True
theorem ORel.mono {L L':Lam} {w w':World} {p:Pl} (hl:L.le L') (hw:w'.heap[p.b]? = w.heap[p.b]?) {o:AObj} (h:ORel L w p o):ORel L' w' p o:=by
 cases o with
 | cells n t ty op fz =>
  obtain ⟨cur,fr,h1,h2,h3,h4⟩:=h
  refine ⟨cur,fr,hw.trans h1,h2,h3,fun i hi=>?_⟩
  obtain ⟨v,x,q1,q2,q3,q4⟩:=h4 i hi
  exact ⟨v,x,q1,q2,q3.mono hl,q4⟩
 | map es clock =>
  obtain ⟨es',h1,h2⟩:=h
  exact ⟨es',hw.trans h1,h2.mono hl⟩
 | siter s pos=>exact ⟨h.1,hw.trans h.2⟩
 | miter m since seen stepped =>
  obtain ⟨h0,m',h1,h2⟩:=h
  exact ⟨h0,m',hw.trans h1,h2.mono hl⟩
 | loop st pend fn nt tm params assign body dblk =>
  obtain ⟨tmps,d,h1,h2,h3,q,h4,h5⟩:=h
  exact ⟨tmps,d,hw.trans h1,h2,h3.mono hl,q,hl _ _ h4,h5⟩
 | dfr s=>exact hw.trans h
 | dead=>trivial
theorem ORel.lt {L:Lam} {w:World} {p:Pl} {o:AObj} (h:ORel L w p o) (ha:o.alive = true):p.b < w.heap.size:=by
 have:∀ {ob:Obj},w.heap[p.b]? = some ob→p.b < w.heap.size:=fun h=>(Array.getElem?_eq_some_iff.1 h).1
 cases o with
 | cells=>obtain ⟨_,_,h1,_⟩:=h; exact this h1
 | map=>obtain ⟨_,h1,_⟩:=h; exact this h1
 | siter=>exact this h.2
 | miter=>obtain ⟨_,_,h1,_⟩:=h; exact this h1
 | loop=>obtain ⟨_,_,h1,_⟩:=h; exact this h1
 | dfr=>exact this h
 | dead=>simp [AObj.alive] at ha
structure Kept (w0 w:World):Prop where
 os:w.os = w0.os
 tape:w.tape = w0.tape
 output:w.output = w0.output
 size:w0.heap.size ≤ w.heap.size
 block:∀ k,k < w0.heap.size→w.heap[k]? = w0.heap[k]?
structure HRel (w0:World) (G:Nat) (L:Lam) (H:AH) (w:World):Prop where
 obj:∀ b o p,H.get b = some o→L b = some p→ORel L w p o
 inj:∀ b b' o o' p p',H.get b = some o→H.get b' = some o'→o.alive = true→o'.alive = true→L b = some p→L b' = some p'→p.b = p'.b→b = b'
 dom:∀ b p,L b = some p→b < H.nx
 own:∀ b p,G ≤ b→L b = some p→w0.heap.size ≤ p.b
 lt:∀ b p,L b = some p→p.b < w.heap.size
 keep:Kept w0 w
 glob:∀ g,g + 1 < G→L g = some ⟨g,0,0⟩
 gnx:G ≤ H.nx
def Lam.upd (L:Lam) (b:Nat) (p:Pl):Lam:=fun c=>if c = b then some p else L c
theorem Lam.le_upd {L:Lam} {b:Nat} {p:Pl} (h:L b = none):L.le (L.upd b p):=fun c q hc=>by
 unfold Lam.upd
 by_cases e:c = b
 ·subst e; rw [h] at hc; cases hc
 ·rw [if_neg e]; exact hc
def Lam.ext (n:Nat) (L L':Lam):Prop:=L.le L'∧∀ b,b < n→L' b = L b
theorem Lam.ext_refl (n:Nat) (L:Lam):Lam.ext n L L:=⟨Lam.le_refl L,fun _ _=>rfl⟩
theorem Lam.ext_upd {n:Nat} {L:Lam} {p:Pl} (h:L n = none):Lam.ext n L (L.upd n p) :=
 ⟨Lam.le_upd h,fun b hb=>by unfold Lam.upd; rw [if_neg (by omega)]⟩
theorem Lam.ext_mono {n m:Nat} {L L':Lam} (h:Lam.ext n L L') (hm:m ≤ n):Lam.ext m L L':=⟨h.1,fun b hb=>h.2 b (by omega)⟩
theorem Lam.ext_trans {n:Nat} {L L' L'':Lam} (h:Lam.ext n L L') (k:Lam.ext n L' L''):Lam.ext n L L'':=⟨Lam.le_trans h.1 k.1,fun b hb=>(k.2 b hb).trans (h.2 b hb)⟩
section
variable {w0:World} {G:Nat} {L:Lam} {H:AH} {w:World}
theorem HRel.none_nx (h:HRel w0 G L H w):L H.nx = none:=by
 cases hl:L H.nx with
 | none=>rfl
 | some p=>have:=h.dom _ _ hl; omega
theorem HRel.same (h:HRel w0 G L H w) {w':World} (h1:w'.heap = w.heap) (h2:w'.os = w.os) (h3:w'.tape = w.tape) (h4:w'.output = w.output):HRel w0 G L H w' :=
 ⟨fun b o p a c=>(h.obj b o p a c).mono (Lam.le_refl L) (by rw [h1]),h.inj,h.dom,h.own,fun b p q=>by rw [h1]; exact h.lt b p q,
  ⟨h2.trans h.keep.os,h3.trans h.keep.tape,h4.trans h.keep.output,by rw [h1]; exact h.keep.size,fun k hk=>by rw [h1]; exact h.keep.block k hk⟩,h.glob,h.gnx⟩
theorem HRel.push (h:HRel w0 G L H w) {o:AObj} (hs:small H.nx = true):HRel w0 G L (H.push o) w:=by
 have hn:=h.none_nx
 have key:∀ b o' p,(H.push o).get b = some o'→L b = some p→H.get b = some o':=fun b o' p h1 h2=>by
  rw [AH.get_push hs] at h1
  by_cases e:b = H.nx
  ·subst e; rw [hn] at h2; cases h2
  ·rwa [if_neg e] at h1
 exact ⟨fun b o' p h1 h2=>h.obj b o' p (key b o' p h1 h2) h2,fun b b' o1 o2 p p' h1 h2 a1 a2 h3 h4 he=>h.inj b b' o1 o2 p p' (key b o1 p h1 h3) (key b' o2 p' h2 h4) a1 a2 h3 h4 he,
  fun b p hb=>by have:=h.dom b p hb; show b < H.nx + 1; omega,h.own,h.lt,h.keep,h.glob,by have:=h.gnx; show G ≤ H.nx + 1; omega⟩
structure Grew (w w':World):Prop where
 size:w'.heap.size = w.heap.size + 1
 block:∀ k,k < w.heap.size→w'.heap[k]? = w.heap[k]?
 os:w'.os = w.os
 tape:w'.tape = w.tape
 output:w'.output = w.output
theorem Grew.alloc (w:World) (o:Obj):Grew w (w.alloc o) :=
 ⟨by simp [World.alloc,-World.alloc_eq],fun k hk=>by simp only [World.alloc]; rw [Array.getElem?_push_lt hk,Array.getElem?_eq_getElem hk],rfl,rfl,rfl⟩
theorem HRel.real (h:HRel w0 G L H w) {b:Nat} {o:AObj} (hb:H.get b = some o) (hl:L b = none) (hG:G ≤ b) (hd:b < H.nx) {w':World} (hw:Grew w w')
  {e:Nat} (ho:ORel (L.upd b ⟨w.heap.size,0,e⟩) w' ⟨w.heap.size,0,e⟩ o):HRel w0 G (L.upd b ⟨w.heap.size,0,e⟩) H w':=by
 have hold:=hw.block
 have hsz:=hw.size
 have hle:L.le (L.upd b ⟨w.heap.size,0,e⟩):=Lam.le_upd hl
 have hcase:∀ c p,(L.upd b ⟨w.heap.size,0,e⟩) c = some p→(c = b∧p = ⟨w.heap.size,0,e⟩) ∨ (c ≠ b∧L c = some p):=fun c p hc=>by
  unfold Lam.upd at hc
  by_cases q:c = b
  ·rw [if_pos q] at hc; cases hc; exact .inl ⟨q,rfl⟩
  ·rw [if_neg q] at hc; exact .inr ⟨q,hc⟩
 refine ⟨fun c o' p h1 h2=>?_,fun c c' o1 o2 p p' h1 h2 a1 a2 h3 h4 he=>?_,fun c p hc=>?_,fun c p hg hc=>?_,fun c p hc=>?_,?_,fun g hg=>?_,h.gnx⟩
 ·rcases hcase c p h2 with ⟨rfl,rfl⟩ | ⟨_,hc⟩
  ·rw [hb] at h1; cases h1; exact ho
  ·exact (h.obj c o' p h1 hc).mono hle (hold _ (h.lt c p hc))
 ·rcases hcase c p h3 with ⟨rfl,rfl⟩ | ⟨n1,hc⟩ <;> rcases hcase c' p' h4 with ⟨rfl,rfl⟩ | ⟨n2,hc'⟩
  ·rfl
  ·have:=h.lt c' p' hc'; simp only at he; omega
  ·have:=h.lt c p hc; simp only at he; omega
  ·exact h.inj c c' o1 o2 p p' h1 h2 a1 a2 hc hc' he
 ·rcases hcase c p hc with ⟨rfl,_⟩ | ⟨_,hc⟩
  ·exact hd
  ·exact h.dom c p hc
 ·rcases hcase c p hc with ⟨rfl,rfl⟩ | ⟨_,hc⟩
  ·exact h.keep.size
  ·exact h.own c p hg hc
 ·rw [hsz]
  rcases hcase c p hc with ⟨rfl,rfl⟩ | ⟨_,hc⟩
  ·simp
  ·have:=h.lt c p hc; omega
 ·refine ⟨hw.os.trans h.keep.os,hw.tape.trans h.keep.tape,hw.output.trans h.keep.output,by rw [hsz]; have:=h.keep.size; omega,fun k hk=>?_⟩
  rw [hold k (Nat.lt_of_lt_of_le hk h.keep.size)]
  exact h.keep.block k hk
 ·have:g ≠ b:=by omega
  unfold Lam.upd
  rw [if_neg this]
  exact h.glob g hg
theorem HRel.upd (h:HRel w0 G L H w) {b:Nat} {o o':AObj} {p:Pl} (hb:H.get b = some o) (ha:o.alive = true) (hp:L b = some p) (hG:G ≤ b) (hs:small b = true) {w':World}
  (hw:∀ k,k ≠ p.b→w'.heap[k]? = w.heap[k]?) (hsz:w'.heap.size = w.heap.size) (h2:w'.os = w.os) (h3:w'.tape = w.tape) (h4:w'.output = w.output) (ho:ORel L w' p o') :
  HRel w0 G L (H.set b o') w':=by
 have hold:∀ c o1 q,c ≠ b→H.get c = some o1→L c = some q→ORel L w' q o1:=fun c o1 q hc h1 h2=>by
  cases hal:o1.alive with
  | false=>cases o1 <;> first | trivial | simp [AObj.alive] at hal
  | true =>
   refine (h.obj c o1 q h1 h2).mono (Lam.le_refl L) (hw _ fun he=>hc ?_)
   exact h.inj c b o1 o q p h1 hb hal ha h2 hp he
 have halive:∀ c o1,(H.set b o').get c = some o1→(∃ o2,H.get c = some o2∧(o1.alive = true→o2.alive = true)):=fun c o1 h1=>by
  rw [AH.get_set hs] at h1
  by_cases e:c = b
  ·subst e; exact ⟨o,hb,fun _=>ha⟩
  ·rw [if_neg e] at h1; exact ⟨o1,h1,id⟩
 refine ⟨fun c o1 q h1 hq=>?_,fun c c' o1 o2 q q' h1 h2 a1 a2 hq hq' he=>?_,h.dom,h.own,fun c q hc=>by rw [hsz]; exact h.lt c q hc,?_,h.glob,h.gnx⟩
 ·rw [AH.get_set hs] at h1
  by_cases e:c = b
  ·subst e; rw [if_pos rfl] at h1; cases h1; rw [hp] at hq; cases hq; exact ho
  ·rw [if_neg e] at h1; exact hold c o1 q e h1 hq
 ·obtain ⟨o3,g3,m3⟩:=halive c o1 h1
  obtain ⟨o4,g4,m4⟩:=halive c' o2 h2
  exact h.inj c c' o3 o4 q q' g3 g4 (m3 a1) (m4 a2) hq hq' he
 ·refine ⟨h2.trans h.keep.os,h3.trans h.keep.tape,h4.trans h.keep.output,by rw [hsz]; exact h.keep.size,fun k hk=>?_⟩
  rw [hw k (by have:=h.own b p hG hp; omega)]
  exact h.keep.block k hk
theorem HRel.kill (h:HRel w0 G L H w) {b:Nat} (hs:small b = true):HRel w0 G L (H.set b .dead) w:=by
 have key:∀ c o1,(H.set b .dead).get c = some o1→o1 = .dead ∨ H.get c = some o1:=fun c o1 h1=>by
  rw [AH.get_set hs] at h1
  by_cases e:c = b
  ·subst e; rw [if_pos rfl] at h1; cases h1; exact .inl rfl
  ·rw [if_neg e] at h1; exact .inr h1
 refine ⟨fun c o1 q h1 hq=>?_,fun c c' o1 o2 q q' h1 h2 a1 a2 hq hq' he=>?_,h.dom,h.own,h.lt,h.keep,h.glob,h.gnx⟩
 ·rcases key c o1 h1 with rfl | h1
  ·trivial
  ·exact h.obj c o1 q h1 hq
 ·rcases key c o1 h1 with rfl | h1
  ·simp [AObj.alive] at a1
  ·rcases key c' o2 h2 with rfl | h2
   ·simp [AObj.alive] at a2
   ·exact h.inj c c' o1 o2 q q' h1 h2 a1 a2 hq hq' he
end
section
variable {w0:World} {G:Nat} {L:Lam} {H:AH} {w:World}
def cellsA (H:AH) (b off k:Nat):Option (List Value) :=
 match H.get b with
 | some (.cells n t _ _ _)=>cond (Nat.ble (off + k) n) (t.row off k) none
 | _=>none
theorem cellsA_spec (h:HRel w0 G L H w) {b off k:Nat} {vs:List Value} (hv:cellsA H b off k = some vs) {p:Pl} (hp:L b = some p) :
  ∃ xs:List Value,LR L vs xs∧xs.length = k∧(∀ j x,xs[j]? = some x→w.cell? ⟨p.b,p.base + off + j,none⟩ = some x∧x.oneCell' = true):=by
 unfold cellsA at hv
 split at hv
 ·rename_i n t ty op fz hb
  have hle:Nat.ble (off + k) n = true:=by
   cases hq:Nat.ble (off + k) n with
   | true=>rfl
   | false=>rw [hq] at hv; cases hv
  rw [hle] at hv
  simp only [cond_true] at hv
  have hle':off + k ≤ n:=by simpa using hle
  obtain ⟨cur,fr,h1,_,_,h4⟩:=h.obj b _ p hb hp
  obtain ⟨q1,q2⟩:=T.row_spec k off vs hv
  have hx:∀ j,j < k→∃ v x,vs[j]? = some v∧cur[p.base + off + j]? = some x∧VR L v x∧x.oneCell' = true:=fun j hj=>by
   obtain ⟨v,x,a1,a2,a3,a4⟩:=h4 (off + j) (by omega)
   rw [q2 j hj] at a1
   exact ⟨v,x,a1,by rw [← a2]; congr 1; omega,a3,a4⟩
  have hsz:∀ j,j < k→p.base + off + j < cur.size:=fun j hj=>by
   obtain ⟨v,x,_,a2,_⟩:=hx j hj
   exact (Array.getElem?_eq_some_iff.1 a2).1
  refine ⟨(cur.toList.drop (p.base + off)).take k,⟨?_,fun j v x e1 e2=>?_⟩,?_,fun j x e=>?_⟩
  ·rw [q1,List.length_take,List.length_drop,Array.length_toList]
   rcases Nat.eq_zero_or_pos k with rfl | hk
   ·simp
   ·have:=hsz (k - 1) (by omega); omega
  ·have hj:j < k:=by
    have:=(List.getElem?_eq_some_iff.1 e1).1; omega
   obtain ⟨v',x',a1,a2,a3,a4⟩:=hx j hj
   rw [e1] at a1; cases a1
   rw [List.getElem?_take,if_pos hj,List.getElem?_drop,Array.getElem?_toList,a2] at e2
   cases e2
   exact a3
  ·rw [List.length_take,List.length_drop,Array.length_toList]
   rcases Nat.eq_zero_or_pos k with rfl | hk
   ·simp
   ·have:=hsz (k - 1) (by omega); omega
  ·rw [List.getElem?_take] at e
   split at e
   ·rename_i hj
    obtain ⟨v',x',a1,a2,a3,a4⟩:=hx j hj
    rw [List.getElem?_drop,Array.getElem?_toList,a2] at e
    cases e
    refine ⟨?_,a4⟩
    simp only [World.cell?,h1]
    simpa using a2
   ·cases e
 ·cases hv
end
end Go.Run
