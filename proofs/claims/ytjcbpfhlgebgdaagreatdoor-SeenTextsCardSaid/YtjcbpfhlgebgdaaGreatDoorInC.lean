import Derived.Test.YtjcbpfhlgebgdaaGreatDoorE16
import Derived.Laws.CopyRow
import Derived.Lib.Overlaps
import Derived.Test.YtjcbpfhlgebgdaaGreatDoorChecked
import Derived.KernelRfl
import Derived.WalkKit
import Derived.Lib.Walk
import Derived.Lib.AppendZeros
import Derived.Shelf.Spec.SlicesInsert
import Derived.Lib.AppendZerosOnto
import Derived.Test.YtjcbpfhlgebgdaaGreatDoorX9
open List renaming length_append -> zuh
set_option linter.unusedSimpArgs false
set_option linter.unusedVariables false
namespace Go.Eng
open Go.RowKit Go.Builtin
theorem zb2 {w:World} {g:Nat} {cur:Array Value} {t:TypeId} {fz:Nat × Nat} (hg:w.heap[g]? = some (.cells cur t fz)) (o:Nat):w.cell? ⟨g,o,none⟩ = cur[o]?:=by
 simp [World.cell?,hg]
theorem zb3 {P:Program} (w:World) (dT sT ty elem:TypeId) (g o dLen dCap:Nat) (a:Addr) (sLen sCap sz:Nat) (cur:Array Value) (t:TypeId) (cs:List Value)
  (hu:P.underlying dT = some (.slice elem)) (hs:zj P elem = some sz)
  (hg:w.heap[g]? = some (.cells cur t (0,0))) (hn:cs.length = Nat.min sLen dLen * sz)
  (hsrc:∀ j v,cs[j]? = some v->w.cell? (a.add j) = some v) (hfit:o + cs.length <= cur.size) (h1:∀ v ∈ cs,v.oneCell' = true) :
  (Builtin.copy_ #[dT,sT] ty #[.slice (some ⟨g,o,none⟩) dLen dCap,.slice (some a) sLen sCap]).run P w =
   .ok (goInt (Nat.min sLen dLen)) (w.setRow g (cur.toList.take o++cs++cur.toList.drop (o + cs.length)).toArray):=by
 have hl:=run_loadCells_list (P:=P) w a cs hsrc
 have hst:=run_storeCells_at P g o t cs 0 cur w hg (by simpa using hfit) h1
 have hs':(P.info? elem).map (·.size) = some sz:=hs
 cases hq:P.info? elem with
 | none=>simp [hq] at hs'
 | some i =>
  have hi:i.size = sz:=by simpa [hq] using hs'
  simp [Builtin.copy_,run_underlying hu,Builtin.lenOf,Builtin.firstCells,sizeOf,typeInfo,hq,hi,<- hn,hl,hst]
theorem zg8 {P:Program} (w:World) (tS tR e:TypeId) (ht:P.underlying tS = some (.slice e)) (size:Nat) (hz:zj P e = some size)
  (a b:Addr) (la ca lb cb:Nat) (hne:a.block ≠ b.block) (cura curb:Array Value) (ta tb:TypeId) (fa:Nat × Nat)
  (ha:w.heap[a.block]? = some (.cells cura ta fa)) (hna:cura.size ≠ 0) (hb:w.heap[b.block]? = some (.cells curb tb (0,0))) :
  (Extern.SlicesOverlaps.overlaps #[tS,tS] #[tR] #[.slice (some a) la ca,.slice (some b) lb cb]).run P w = .ok (.bool false) w:=by
 have hnb:(a.block != b.block) = true:=by simpa using hne
 have hnb':(a.block == b.block) = false:=by simpa using hne
 have hsa:w.shape? a.block = some (ta,cura.size):=by simp [World.shape?,ha]
 have hsb:w.shape? b.block = some (tb,curb.size):=by simp [World.shape?,hb]
 have hfb:∀ o:Nat,w.frozen? { block:=b.block,off:=o } = false:=fun o=>by simp [World.frozen?,hb]
 have hfb':w.frozen? b = false:=by simp [World.frozen?,hb]
 have hzz:(sizeOf e).run P w = .ok size w:=run_sizeOf hz w
 change Sem.run P (α:=Value) (do
  let some t := (#[tS, tS] : Array TypeId)[0]? | stuck "slices.overlaps: no parameter types"
  let .slice elem <- underlying t | stuck "slices.overlaps: slice type expected"
  let size <- sizeOf elem
  match (some a:Option Addr),(some b:Option Addr) with
  | some a,some b =>
   if la = 0 ∨ lb = 0 ∨ size = 0 then pure (Value.bool false)
   else if a.block != b.block && (<- frozen a) && (<- frozen b) then unsupported .addressObserved
   else do
    if a.block != b.block then do
     noView a; noView b
     if <- mayBeOne a b then return Value.bool ((<- choose (.extern "sameAddr.stringBytes" 2)) == 1)
    pure (Value.bool (a.block == b.block && a.off < b.off + lb * size && b.off < a.off + la * size))
  | _,_=>pure (Value.bool false)) w = _
 by_cases h0:la = 0 ∨ lb = 0 ∨ size = 0
 ·simp [run_underlying ht,hzz,h0]
 ·obtain ⟨k,hk⟩:∃ k,cura.size = k + 1:=⟨cura.size - 1,by omega⟩
  rw [hk] at hsa
  cases hfa:w.frozen? a <;> cases hfe:w.frozen? { block:=a.block,off:=k + 1 } <;> simp [run_underlying ht,hzz,h0,hnb,hnb',frozen,noView,viewAt,mayBeOne,stringish,shape,Sem.run,hsa,hsb,hfa,hfe,hfb,hfb']
theorem zdU (w:World) (o:Obj):DLE w (w.drew.alloc o):=DLE.of_le (Nat.le_succ _)
theorem zj6 (w:World):DLE w w.drew:=DLE.of_le (Nat.le_succ _)
theorem zbt (w:World) (o:Obj):w.heap.size <= (w.drew.alloc o).heap.size:=((Below.refl w.drew.heap.size w.drew).alloc (Nat.le_refl _) o).size
theorem YJ (w:World) (g:Nat) (c:Array Value):(w.setRow g c).heap.size = w.heap.size:=by simp [World.setRow]
theorem zj7 {k i:Nat} {ys:List Value} (h:∀ y ∈ ys,y.cells.size = k) (hi:i <= ys.length):zc (ys.take i) = (zc ys).take (i * k)/\zc (ys.drop i) = (zc ys).drop (i * k):=by
 have e:zc ys = zc (ys.take i)++zc (ys.drop i):=by rw [<- yM,List.take_append_drop]
 have hl:(zc (ys.take i)).length = i * k:=by
  rw [yg (k:=k) (fun y hy=>h y (List.mem_of_mem_take hy)),List.length_take,Nat.min_eq_left hi]
 rw [e]
 exact ⟨by rw [<- hl,List.take_left],by rw [<- hl,List.drop_left]⟩
theorem znU {w:World} {pr:Nat->Nat->Prop} {lam:Nat->Option Nat} {g k:Nat} {ys:List Value} {cur:Array Value} {t:TypeId} {fz:Nat × Nat} (hg:w.heap[g]? = some (.cells cur t fz)) (hys:∀ y ∈ ys,y.cells.size = k)
  (h:∀ (j:Nat) z,(zc ys)[j]? = some z->Env.at ⟨w,pr,lam⟩ g (0 + j) z/\z.oneCell' = true):zc ys = cur.toList.take (ys.length * k):=by
 have hl:=yg hys
 have hget:∀ (j:Nat) z,(zc ys)[j]? = some z->cur.toList[j]? = some z:=fun j z hz=>by
  have h1:=(h j z hz).1.1
  rw [Nat.zero_add] at h1
  change w.cell? ⟨g,j,none⟩ = some z at h1
  rw [zb2 hg] at h1
  rw [Array.getElem?_toList]; exact h1
 have hle:(zc ys).length <= cur.toList.length:=by
  rcases Nat.lt_or_ge cur.toList.length (zc ys).length with q | q
  ·have:=hget cur.toList.length _ (List.getElem?_eq_getElem q)
   rw [List.getElem?_eq_none (Nat.le_refl _)] at this; cases this
  ·exact q
 refine List.ext_getElem? fun j=>?_
 rw [List.getElem?_take]
 by_cases hj:j < ys.length * k
 ·rw [if_pos hj]
  have hj':j < (zc ys).length:=by omega
  rw [List.getElem?_eq_getElem hj',hget j _ (List.getElem?_eq_getElem hj')]
 ·rw [if_neg hj,List.getElem?_eq_none (by omega)]
theorem zdi {P:Program} {e:TypeId} {sz:Nat} (hsz:zj P e = some sz) {w w':World} {pr:Nat->Nat->Prop} {lam:Nat->Option Nat} {hb:Option Nat} {rows:List V} {r:V} {ys yv:List Value} {i n:Nat} (hn:n = rows.length) (hi:i <= n)
  (hlt:∀ b o,pr b o->b < w.heap.size) (hR:RL ⟨w,pr,lam⟩ rows ys) (hRv:RL ⟨w,pr,lam⟩ [r] yv) (hys:∀ y ∈ ys,y.cells.size = sz) (hyv:∀ y ∈ yv,y.cells.size = sz) (hfr:V.flatL rows = true) (hfv:r.flat = true) {g' cap':Nat} {cur':Array Value}
  (hg':hb = some g' ∨ w.heap.size <= g') (h':w'.heap[g']? = some (.cells cur' e (0,0))) (hcs:cur'.size = cap' * sz) (hle:n + 1 <= cap') (hm:cap' <= maxLen)
  (hcells:cur'.toList.take ((n + 1) * sz) = zc (ys.take i++yv++ys.drop i)) (hone:∀ z ∈ zc (ys.take i++yv++ys.drop i),z.oneCell' = true)
  (hos:w'.os = w.os) (htape:w'.tape = w.tape) (hout:w'.output = w.output) (hd:DLE w w') (hsize:w.heap.size <= w'.heap.size) (hblock:∀ k,k < w.heap.size->hb ≠ some k->w'.heap[k]? = w.heap[k]?) :
  ∃ v pr',Ending.returned (.slice (some ⟨g',0,none⟩) (n + 1) cap') = .returned v/\R ⟨w',pr',lam⟩ (.list (rows.take i++[r]++rows.drop i)) v/\zdb w' pr' lam []/\zhB w pr lam hb w' pr' /\
   Own P (fun g=>w.heap.size <= g ∨ hb = some g) ⟨w',pr',lam⟩ 0 e v:=by
 subst hn
 have hlen':(rows.take i++[r]++rows.drop i).length = rows.length + 1:=by simp; omega
 refine ⟨_,fun b o=>(pr b o/\hb ≠ some b) ∨ (b = g'/\o < (rows.length + 1) * sz),rfl,?_,fun i B h=>by simp at h,⟨hos,htape,hout,hd,hsize,fun k hk _ hh=>hblock k hk hh,fun b o h hh=>.inl ⟨h,hh⟩,fun b o h=>?_⟩,fun g hg=>?_⟩
 ·simp only [R]
  refine ⟨some ⟨g',0,none⟩,cap',by rw [hlen'],by rw [hlen']; exact hle,hm,.inr ⟨g',0,sz,rfl,RR.of_vals (ys:=ys.take i++yv++ys.drop i) ?_ (fun y hy=>?_) fun j z hz=>?_⟩⟩
  ·have h1:=RL.flat (w':=w') (pr':=fun b o=>(pr b o/\hb ≠ some b) ∨ (b = g'/\o < (rows.length + 1) * sz)) rows ys hfr hR
   have h2:=RL.flat (w':=w') (pr':=fun b o=>(pr b o/\hb ≠ some b) ∨ (b = g'/\o < (rows.length + 1) * sz)) [r] yv (by simp [V.flatL,hfv]) hRv
   exact ((h1.take i).append h2).append (h1.drop i)
  ·simp only [List.mem_append] at hy
   rcases hy with (hy | hy) | hy
   ·exact hys y (List.mem_of_mem_take hy)
   ·exact hyv y hy
   ·exact hys y (List.mem_of_mem_drop hy)
  ·have hz':=hz
   rw [<- hcells,List.getElem?_take] at hz'
   split at hz'
   ·rename_i hj
    refine ⟨⟨?_,.inr ⟨rfl,by omega⟩⟩,hone z (List.mem_of_getElem? hz)⟩
    change w'.cell? ⟨g',0 + j,none⟩ = some z
    rw [zb2 h',Nat.zero_add,<- Array.getElem?_toList]
    exact hz'
   ·cases hz'
 ·rcases h with ⟨h1,h2⟩ | ⟨rfl,_⟩
  ·exact .inl ⟨h1,h2⟩
  ·rcases hg' with q | q
   ·exact .inr (.inr q)
   ·exact .inr (.inl ⟨q,(Array.getElem?_eq_some_iff.1 h').1⟩)
 ·have hgg:g = g':=by
   simp only [zp] at hg
   rw [if_pos (.inl ⟨trivial,by omega⟩)] at hg
   cases hg; rfl
  subst hgg
  refine ⟨hg'.symm,_,_,cur',sz,rfl,h',hsz,hcs,fun o ho hp=>?_⟩
  rcases hp with ⟨h1,h2⟩ | ⟨_,h2⟩
  ·rcases hg' with q | q
   ·exact h2 q
   ·have:=hlt _ _ h1; omega
  ·omega
end Go.Eng
namespace Go.Proofs.YtjcbpfhlgebgdaaGreatDoor
open Go Go.Eng Go.RowKit Go.Lib Go.Proofs
set_option maxHeartbeats 4000000 in
set_option maxRecDepth 1000000 in
theorem ziE (base:Option Addr) (n c:Nat) (va:Addr) (vc:Nat) (w w':World) (v':Value) (hc63:c <= 9223372036854775807) (hnc:n <= c)
  (hrun:∀ ty,(Builtin.append_ #[35,35] ty #[.slice base n c,.slice (some va) 1 vc]).run Tryz.prog w = .ok v' w') :
  Calls Tryz.prog 78 #[.slice base n c,.int .i64 n,.slice (some va) 1 vc] w fun en w1=>en = .returned v'/\w1 = w':=by
 have hz2:((n:Int) = (n:Int)):=rfl
 cases base with
 | none =>
  go_enter Tryz.func78,Tryz.ntmps78
  go_wp2_with (at_builtin; refine Lib.wpList_append_run _ rfl _ _ _ _ rfl _ _ rfl rfl _ _ (hrun _) ?_)
  all_goals (go_ret; exact ⟨rfl,rfl⟩)
 | some a =>
  obtain ⟨ab,ao,asp⟩:=a
  go_enter Tryz.func78,Tryz.ntmps78
  go_wp2_with (at_builtin; refine Lib.wpList_append_run _ rfl _ _ _ _ rfl _ _ rfl rfl _ _ (hrun _) ?_)
  all_goals (go_ret; exact ⟨rfl,rfl⟩)
set_option maxHeartbeats 4000000 in
set_option maxRecDepth 1000000 in
theorem znV (g n c i:Nat) (va:Addr) (vc:Nat) (cur cura:Array Value) (ta:TypeId) (fa:Nat × Nat) (vs:List Value) (w:World) (hi:i < n) (hroom:n + 1 <= c) (hc63:c <= 9223372036854775807)
  (hg:w.heap[g]? = some (.cells cur 81 (0,0))) (hcs:cur.size = c * 4) (hva:va.block ≠ g) (ha:w.heap[va.block]? = some (.cells cura ta fa)) (hna:cura.size ≠ 0) (hvl:vs.length = 4)
  (hvs:∀ j v,vs[j]? = some v->w.cell? (va.add j) = some v) (h1:∀ v ∈ (cur.toList.drop (i * 4)).take ((n - i) * 4),v.oneCell' = true) (h1v:∀ v ∈ vs,v.oneCell' = true) (cur1 cur2:Array Value)
  (e1:cur1 = (cur.toList.take ((i + 1) * 4)++(cur.toList.drop (i * 4)).take ((n - i) * 4)++cur.toList.drop ((i + 1) * 4 + (n - i) * 4)).toArray)
  (e2:cur2 = (cur1.toList.take (i * 4)++vs++cur1.toList.drop (i * 4 + 4)).toArray) :
  Calls Tryz.prog 78 #[.slice (some ⟨g,0,none⟩) n c,.int .i64 i,.slice (some va) 1 vc] w fun en w'=>en = .returned (.slice (some ⟨g,0,none⟩) (n + 1) c)/\w' = (w.drew.setRow g cur1).setRow g cur2:=by
 obtain ⟨vb,vo,vsp⟩:=va
 have hz1:¬ ((1:Int) = 0):=by omega
 have hz2:¬ ((i:Int) = (n:Int)):=by omega
 have hsz:zj Tryz.prog 81 = some 4:=by kernel_rfl
 have hov:∀ lb cb,(callFunc 109 #[.slice (some ⟨vb,vo,vsp⟩) 1 vc,.slice (some ⟨g,(i + 1) * 4,none⟩) lb cb]).run Tryz.prog w = .ok (.value (.bool false)) w:=fun lb cb=>by
  rw [run_callFunc_extern Tryz.func109 (by kernel_rfl) (by kernel_rfl) (by kernel_rfl) (e:=Extern.SlicesOverlaps.overlaps #[35,35] #[4]) (by kernel_rfl),
   zg8 w 35 4 81 Tryz.underlying35 4 hsz ⟨vb,vo,vsp⟩ ⟨g,(i + 1) * 4,none⟩ 1 vc lb cb hva cura cur ta 81 fa ha hna hg]
  rfl
 have mixed:Tryz.prog.follows .mixedOrders = true:=by kernel_rfl
 have hcl:c * 4 ≥ (n + 1) * 4:=Nat.mul_le_mul_right _ hroom
 have hl1:((cur.toList.drop (i * 4)).take ((n - i) * 4)).length = (n - i) * 4:=by simp; omega
 have hcp1:∀ ty dc sc,(Builtin.copy_ #[35,35] ty #[.slice (some ⟨g,(i + 1) * 4,none⟩) (n - i) dc,.slice (some ⟨g,i * 4,none⟩) (n + 1 - i) sc]).run Tryz.prog w.drew = .ok (goInt (n - i)) (w.drew.setRow g cur1):=fun ty dc sc=>by
  have:=zb3 (P:=Tryz.prog) w.drew 35 35 ty 81 g ((i + 1) * 4) (n - i) dc ⟨g,i * 4,none⟩ (n + 1 - i) sc 4 cur 81 ((cur.toList.drop (i * 4)).take ((n - i) * 4)) Tryz.underlying35 hsz hg
   (by rw [hl1]; congr 1; simp only [Nat.min_def]; split <;> omega) (fun j v hj=>by
    rw [List.getElem?_take] at hj
    split at hj
    ·rw [List.getElem?_drop] at hj
     rw [Addr.add_none,show ∀ x,w.drew.cell? x = w.cell? x from fun _=>rfl,zb2 hg,<- Array.getElem?_toList]
     exact hj
    ·cases hj) (by rw [hl1]; omega) h1
  rw [this,hl1,<- e1]
  congr 2
  simp only [Nat.min_def]; split <;> omega
 obtain ⟨W1,hW1⟩:∃ W1,W1 = w.drew.setRow g cur1:=⟨_,rfl⟩
 have hg1:W1.heap[g]? = some (.cells cur1 81 (0,0)):=by rw [hW1]; exact setRow_heap w.drew g cur cur1 81 (0,0) hg
 have hs1:cur1.size = cur.size:=by
  rw [e1]
  simp only [List.size_toArray,zuh,List.length_take,List.length_drop,Array.length_toList]
  omega
 have hcp2:∀ ty dc,(Builtin.copy_ #[35,35] ty #[.slice (some ⟨g,i * 4,none⟩) (n + 1 - i) dc,.slice (some ⟨vb,vo,vsp⟩) 1 vc]).run Tryz.prog W1 = .ok (goInt 1) (W1.setRow g cur2):=fun ty dc=>by
  have:=zb3 (P:=Tryz.prog) W1 35 35 ty 81 g (i * 4) (n + 1 - i) dc ⟨vb,vo,vsp⟩ 1 vc 4 cur1 81 vs Tryz.underlying35 hsz hg1
   (by rw [hvl]; simp only [Nat.min_def]; split <;> omega) (fun j v hj=>by
    have h0:=hvs j v hj
    rw [hW1]
    rw [show ∀ x,(w.drew.setRow g cur1).cell? x = (w.setRow g cur1).cell? x from fun _=>rfl]
    have hb:((⟨vb,vo,vsp⟩:Addr).add j).block = vb:=by unfold Addr.add; split <;> rfl
    unfold World.cell? at h0 ⊢
    rw [setRow_other w g _ cur1 (by rw [hb]; exact hva)]
    exact h0) (by omega) h1v
  rw [this,hvl,<- e2]
  congr 2
  simp only [Nat.min_def]; split <;> omega
 have hw1:IntKind.i64.wrap ((i:Int) + 1) = (i:Int) + 1:=by rw [IntKind.wrap_i64]; omega
 have hw2:IntKind.i64.wrap ((n:Int) + 1) = (n:Int) + 1:=by rw [IntKind.wrap_i64]; omega
 rw [<- hW1] at hcp1 ⊢
 clear hW1 e1 e2 h1 h1v hl1 hg hg1 hcs hs1 hcl ha hvs
 have hb1:(0:Int) <= (i:Int) + 1:=by omega
 have hin:i <= n:=by omega
 have hb2:¬ (c = i + 1):=by omega
 have hb3:(i:Int) <= (n:Int) + 1:=by omega
 have hb4:¬ (c = i):=by omega
 go_enter Tryz.func78,Tryz.ntmps78
 go_wp2_with (simp only [hov])
 go_region_law_o (refine step_copy_runI rfl _ _ 35 35 rfl _ _ (by simp [Act.eval,Act.put]) (by simp [Act.eval,Act.put]) (hcp1 _ _ _) ?_)
 go_wp2_with (at_builtin; refine wpList_copy_runI _ rfl _ _ 35 35 rfl _ _ rfl rfl (hcp2 _ _) ?_)
 go_ret
 exact ⟨rfl,rfl⟩
def zg9:Value:=.agg #[.int .i64 0,.int .u64 0,.int .i64 0,.int .i64 0]
theorem zj8:∃ i0,Tryz.prog.info? 81 = some i0/\i0.size = 4/\i0.bytes = 32/\i0.zero = some zg9:=by
 have h:(Tryz.prog.info? 81).map (fun i=>(i.size,i.bytes,i.zero)) = some (4,32,some zg9):=by kernel_rfl
 cases hq:Tryz.prog.info? 81 with
 | none=>rw [hq] at h; cases h
 | some i0 =>
  rw [hq] at h
  simp only [Option.map_some,Option.some.injEq,Prod.mk.injEq] at h
  exact ⟨i0,rfl,h.1,h.2.1,h.2.2⟩
set_option maxHeartbeats 4000000 in
set_option maxRecDepth 1000000 in
theorem zpd (g n c i:Nat) (va:Addr) (vc:Nat) (cur:Array Value) (vs:List Value) (w:World) (hi:i < n) (hnc:n <= c) (hroom:c < n + 1) (hbig:(n + 1) * 32 <= 140737488355328)
  (hg:w.heap[g]? = some (.cells cur 81 (0,0))) (hcs:cur.size = c * 4) (hvb:va.block < w.heap.size) (hvl:vs.length = 4)
  (hvs:∀ j v,vs[j]? = some v->w.cell? (va.add j) = some v) (h1:∀ v ∈ (cur.toList.drop (i * 4)).take ((n - i) * 4),v.oneCell' = true) (h1v:∀ v ∈ vs,v.oneCell' = true) (row row2 row3:Array Value) (G:Nat)
  (hG:G = grownCap w (n + 1) c 81) (hrow:row = (cur.toList.take (i * 4)).toArray++Builtin.zeroCells zg9.cells (n + 1 - i)++Builtin.zeroCells zg9.cells (G - (n + 1)))
  (e2:row2 = (row.toList.take (i * 4)++vs++row.toList.drop (i * 4 + 4)).toArray)
  (e3:row3 = (row2.toList.take ((i + 1) * 4)++(cur.toList.drop (i * 4)).take ((n - i) * 4)++row2.toList.drop ((i + 1) * 4 + (n - i) * 4)).toArray) :
  Calls Tryz.prog 78 #[.slice (some ⟨g,0,none⟩) n c,.int .i64 i,.slice (some va) 1 vc] w fun en w'=>en = .returned (.slice (some ⟨w.heap.size,0,none⟩) (n + 1) G) /\
   w' = ((w.drew.alloc (.cells row 81)).setRow w.heap.size row2).drew.setRow w.heap.size row3:=by
 obtain ⟨vb,vo,vsp⟩:=va
 obtain ⟨i0,hi0,hs0,hb0,hz0⟩:=zj8
 have hz1:¬ ((1:Int) = 0):=by omega
 have hz2:¬ ((i:Int) = (n:Int)):=by omega
 have hz3:(c:Int) < (n:Int) + 1:=by omega
 have hsz:zj Tryz.prog 81 = some 4:=by kernel_rfl
 have mixed:Tryz.prog.follows .mixedOrders = true:=by kernel_rfl
 have hgw:g < w.heap.size:=(Array.getElem?_eq_some_iff.1 hg).1
 have hkk:(n:Int) + 1 - (i:Int) = ((n + 1 - i:Nat):Int):=by omega
 have hik:i + (n + 1 - i) = n + 1:=by omega
 have hcl:n * 4 <= c * 4:=Nat.mul_le_mul_right _ hnc
 have hold:(Builtin.firstCells i0.size i (.slice (some ⟨g,0,none⟩) i c)).run Tryz.prog w.drew = .ok (cur.toList.take (i * 4)).toArray w.drew:=by
  rw [hs0]
  have hl:(cur.toList.take (i * 4)).length = i * 4:=by simp; omega
  have:=run_loadCells_list (P:=Tryz.prog) w.drew ⟨g,0,none⟩ (cur.toList.take (i * 4)) (fun j v hj=>by
   rw [List.getElem?_take] at hj
   split at hj
   ·rw [Addr.add_none,Nat.zero_add,show ∀ x,w.drew.cell? x = w.cell? x from fun _=>rfl,zb2 hg,<- Array.getElem?_toList]
    exact hj
   ·cases hj)
  rw [hl] at this
  simpa [Builtin.firstCells] using this
 have hrz:∀ ty,(Builtin.append_ #[35,3] ty #[.slice (some ⟨g,0,none⟩) i c,.int .i64 ((n:Int) + 1 - (i:Int))]).run Tryz.prog w = .ok (.slice (some ⟨w.heap.size,0,none⟩) (n + 1) G) (w.drew.alloc (.cells row 81)):=fun ty=>by
  have h:=Lib.run_append_grow_zeros w 35 3 ty 81 i0 _ .i64 .i64 Tryz.underlying35 Tryz.underlying3 hi0 hz0 (some ⟨g,0,none⟩) i c (cur.toList.take (i * 4)) hold (n + 1 - i) (by omega) (by omega) (by omega) (by omega) (by rw [hb0]; omega) (by rw [hb0,hik]; exact growslice_fits hroom hbig)
  rw [hik,<- hG,<- hrow] at h
  rw [hkk]
  exact h
 have hGn:n + 1 <= G:=by rw [hG]; exact grownCap_ge w _ _ _
 have hG63:G <= 9223372036854775807:=by
  have:=grownCap_le_maxLen w (n + 1) c 81 (by unfold maxLen; omega)
  rw [<- hG] at this
  unfold maxLen at this
  omega
 have hzl:∀ k,(Builtin.zeroCells zg9.cells k).size = k * 4:=fun k=>by simp [Builtin.zeroCells,zg9,Value.cells]
 have hrs:row.size = G * 4:=by
  rw [hrow]
  simp only [Array.size_append,List.size_toArray,List.length_take,Array.length_toList,hzl]
  omega
 have hr2:row2.size = G * 4:=by
  rw [e2]
  simp only [List.size_toArray,zuh,List.length_take,List.length_drop,Array.length_toList]
  omega
 obtain ⟨W1,hW1⟩:∃ W1,W1 = w.drew.alloc (.cells row 81):=⟨_,rfl⟩
 have hN1:W1.heap[w.heap.size]? = some (.cells row 81 (0,0)):=by rw [hW1]; exact heap_alloc_new w.drew _
 have hc1:∀ (x:Addr),x.block < w.heap.size->W1.cell? x = w.cell? x:=fun x hx=>by
  unfold World.cell?
  rw [hW1,heap_alloc_old w.drew _ hx]; rfl
 have hl1:((cur.toList.drop (i * 4)).take ((n - i) * 4)).length = (n - i) * 4:=by simp; omega
 have hcpA:∀ ty dc,(Builtin.copy_ #[35,35] ty #[.slice (some ⟨w.heap.size,i * 4,none⟩) (n + 1 - i) dc,.slice (some ⟨vb,vo,vsp⟩) 1 vc]).run Tryz.prog W1 = .ok (goInt 1) (W1.setRow w.heap.size row2):=fun ty dc=>by
  have:=zb3 (P:=Tryz.prog) W1 35 35 ty 81 w.heap.size (i * 4) (n + 1 - i) dc ⟨vb,vo,vsp⟩ 1 vc 4 row 81 vs Tryz.underlying35 hsz hN1
   (by rw [hvl]; simp only [Nat.min_def]; split <;> omega) (fun j v hj=>by
    have hb:((⟨vb,vo,vsp⟩:Addr).add j).block = vb:=by unfold Addr.add; split <;> rfl
    rw [hc1 _ (by rw [hb]; exact hvb)]
    exact hvs j v hj) (by rw [hvl,hrs]; omega) h1v
  rw [this,hvl,<- e2]
  congr 2
  simp only [Nat.min_def]; split <;> omega
 obtain ⟨W2,hW2⟩:∃ W2,W2 = W1.setRow w.heap.size row2:=⟨_,rfl⟩
 have hN2:W2.drew.heap[w.heap.size]? = some (.cells row2 81 (0,0)):=by rw [hW2]; exact setRow_heap W1 w.heap.size row row2 81 (0,0) hN1
 have hc2:∀ (x:Addr),x.block < w.heap.size->W2.drew.cell? x = w.cell? x:=fun x hx=>by
  rw [<- hc1 x hx]
  unfold World.cell?
  rw [hW2,show (W1.setRow w.heap.size row2).drew.heap = (W1.setRow w.heap.size row2).heap from rfl,setRow_other W1 w.heap.size _ row2 (by omega)]
 have hcpB:∀ ty dc sc,(Builtin.copy_ #[35,35] ty #[.slice (some ⟨w.heap.size,(i + 1) * 4,none⟩) (n - i) dc,.slice (some ⟨g,i * 4,none⟩) (n - i) sc]).run Tryz.prog W2.drew = .ok (goInt (n - i)) (W2.drew.setRow w.heap.size row3):=fun ty dc sc=>by
  have:=zb3 (P:=Tryz.prog) W2.drew 35 35 ty 81 w.heap.size ((i + 1) * 4) (n - i) dc ⟨g,i * 4,none⟩ (n - i) sc 4 row2 81 ((cur.toList.drop (i * 4)).take ((n - i) * 4)) Tryz.underlying35 hsz hN2
   (by rw [hl1]; congr 1; simp only [Nat.min_def]; split <;> omega) (fun j v hj=>by
    rw [hc2 _ (by rw [Addr.add_none]; exact hgw)]
    rw [List.getElem?_take] at hj
    split at hj
    ·rw [List.getElem?_drop] at hj
     rw [Addr.add_none,zb2 hg,<- Array.getElem?_toList]
     exact hj
    ·cases hj) (by rw [hl1,hr2]; omega) h1
  rw [this,hl1,<- e3]
  congr 2
  simp only [Nat.min_def]; split <;> omega
 rw [<- hW1] at hrz ⊢
 rw [<- hW2] at hcpA ⊢
 have hw1:IntKind.i64.wrap ((i:Int) + 1) = (i:Int) + 1:=by rw [IntKind.wrap_i64]; omega
 have hw2:IntKind.i64.wrap ((n:Int) + 1) = (n:Int) + 1:=by rw [IntKind.wrap_i64]; omega
 have hw3:IntKind.i64.wrap ((n:Int) + 1 - (i:Int)) = (n:Int) + 1 - (i:Int):=by rw [IntKind.wrap_i64]; omega
 have hb1:(0:Int) <= (i:Int) + 1:=by omega
 have hin:i <= n:=by omega
 have hic:i <= c:=by omega
 have hin1:(i:Int) <= (n:Int) + 1:=by omega
 have hGi:¬ (G = i):=by omega
 have hGi1:¬ (G = i + 1):=by omega
 have hci:¬ (c = i):=by omega
 obtain ⟨N,hN⟩:∃ N,N = w.heap.size:=⟨_,rfl⟩
 rw [<- hN] at hrz hcpA hcpB hW2 hN1 hN2 ⊢
 clear hkk hik hold hrow hG e2 e3 hW1 hW2 hrs hr2 hN1 hN2 hc1 hc2 hl1 h1 h1v hvs hg hcs hcl hi0 hs0 hb0 hz0 hzl hN hgw hvb
 go_enter Tryz.func78,Tryz.ntmps78
 go_wp2_with (first
  | (at_builtin; refine Lib.wpList_append_run _ rfl _ _ _ _ rfl _ _ rfl rfl _ _ (hrz _) ?_)
  | (at_builtin; refine wpList_copy_runI _ rfl _ _ 35 35 rfl _ _ rfl rfl (hcpA _ _) ?_))
 go_region_law_o (refine step_copy_runI rfl _ _ 35 35 rfl _ _ (by simp [Act.eval,Act.put]) (by simp [Act.eval,Act.put]) (hcpB _ _ _) ?_)
 go_wp2
 go_ret
 exact ⟨rfl,rfl⟩
open Go Go.Eng Go.RowKit Go.Lib Go.Proofs
theorem zpe {w:World} {b o:Nat} {z:Value} (h:w.cell? ⟨b,o,none⟩ = some z):∃ cur t fz,w.heap[b]? = some (.cells cur t fz)/\cur[o]? = some z:=by
 unfold World.cell? at h
 dsimp only at h
 split at h
 ·rename_i cur t fz hq
  exact ⟨cur,t,fz,hq,by simpa using h⟩
 ·cases h
theorem zq3 (rows:List V) (r:V) (i:Nat) (hi:i <= rows.length) (hro:yO 4 rows) (hrv:yO 4 [r]) (hfr:V.flatL rows = true) (hfv:r.flat = true) (hbig:(rows.length + 1) * 32 <= 140737488355328) :
  FnM Tryz.prog 78 [.list rows,.int .i64 i,.list [r]] [] 0 81 (.list (rows.take i++[r]++rows.drop i)) []:=by
 intro w pr lam cargs hl hown hargs hoth hins hinj hlam
 simp only [RL] at hargs
 obtain ⟨x0,ys0,hc,hR0,x1,ys1,rfl,hR1,x2,ys2,rfl,hR2,rfl⟩:=hargs
 have hca:cargs = #[x0,x1,x2]:=by rw [<- Array.toList_inj]; simpa using hc
 subst hca
 have hx0:(#[x0,x1,x2]:Array Value).getD 0 undef = x0:=rfl
 have hR2':=hoth 2 (.list [r]) (by decide) rfl
 rw [hx0] at hown hR2' ⊢
 change R ⟨w,prM pr (zp 0 x0),lam⟩ (.list [r]) x2 at hR2'
 simp only [R] at hR0 hR1 hR2'
 subst hR1
 obtain ⟨base,c,rfl,hle,hm,hrow⟩:=hR0
 obtain ⟨base2,c2,rfl,_,_,hrow2⟩:=hR2'
 have hsz:zj Tryz.prog 81 = some 4:=by kernel_rfl
 obtain ⟨i0,hi0,hs0,hb0,hz0⟩:=zj8
 rcases hrow2 with ⟨h,_⟩ | ⟨vb,vo,kv,rfl,hv⟩
 ·cases h
 have hkv:kv = 4:=by
  have:=hv.size hrv (List.mem_singleton.2 rfl)
  omega
 subst hkv
 obtain ⟨yv,v1,v2,v3⟩:=hv.vals
 have hvlen:yv.length = 1:=v1.length.symm
 have hvsl:(zc yv).length = 4:=by rw [yg v2,hvlen]
 have hvs:∀ (j:Nat) (v:Value),(zc yv)[j]? = some v->w.cell? ((⟨vb,vo,none⟩:Addr).add j) = some v:=fun j v hj=>by rw [Addr.add_none]; exact (v3 j v hj).1.1
 have hone:∀ v ∈ zc yv,v.oneCell' = true:=fun v hv=>by
  obtain ⟨j,hj⟩:=List.mem_iff_getElem?.1 hv
  exact (v3 j v hj).2
 obtain ⟨z0,hz⟩:∃ z,(zc yv)[0]? = some z:=⟨_,List.getElem?_eq_getElem (by omega)⟩
 have hvbw:vb < w.heap.size:=hl.lt _ _ (v3 0 z0 hz).1.2.1
 have hvne:∀ g,zp 0 (.slice base rows.length c) = some g->vb ≠ g:=fun g hg e=>(v3 0 z0 hz).1.2.2 (by rw [hg,e])
 obtain ⟨cura,ta,fa,ha,hao⟩:=zpe (v3 0 z0 hz).1.1
 have hna:cura.size ≠ 0:=fun e=>by
  rw [Array.getElem?_eq_none (by omega)] at hao; cases hao
 have v1':RL ⟨w,pr,lam⟩ [r] yv:=RL.flat [r] yv (by simp [V.flatL,hfv]) v1
 have hxl:(Builtin.lenOf (.slice (some ⟨vb,vo,none⟩) 1 c2)).run Tryz.prog w = .ok 1 w:=by simp [Builtin.lenOf]
 have hxf:∀ w',(∀ x,w'.cell? x = w.cell? x)->(Builtin.firstCells i0.size 1 (.slice (some ⟨vb,vo,none⟩) 1 c2)).run Tryz.prog w' = .ok (zc yv).toArray w':=fun w' hw=>by
  have:=run_loadCells_list (P:=Tryz.prog) w' ⟨vb,vo,none⟩ (zc yv) (fun j v hj=>by rw [hw]; exact hvs j v hj)
  rw [hvsl] at this
  rw [hs0]
  simpa [Builtin.firstCells] using this
 have hc63:c <= 9223372036854775807:=by unfold maxLen at hm; omega
 have hzl:∀ k,(Builtin.zeroCells zg9.cells k).size = k * 4:=fun k=>by simp [Builtin.zeroCells,zg9,Value.cells]
 by_cases hc0:c = 0
 ·subst hc0
  have hn0:rows = []:=List.eq_nil_of_length_eq_zero (by omega)
  subst hn0
  have hi0':i = 0:=by simpa using hi
  subst hi0'
  have hgb:zp 0 (.slice base 0 0) = none:=by unfold zp; cases base <;> simp
  simp only [List.length_nil] at hgb ⊢
  rw [hgb]
  have hG:=grownCap_ge w 1 0 81
  have hG2:=grownCap_le_maxLen w 1 0 81 (by unfold maxLen; omega)
  have hrun:∀ ty,_:=fun ty=>YF (ty:=ty) (base:=base) (sLen:=0) (sCap:=0) (m:=1) (olds:=[]) Tryz.underlying35 (by kernel_rfl:zda Tryz.prog 35 = true) hi0 hz0 hxl (hxf w.drew fun _=>rfl) (by cases base <;> simp [Builtin.firstCells,loadCells,loadCellsFrom]) (by omega) (by omega) (growslice_fits (by omega) (by rw [hb0]; omega))
  refine (ziE base 0 0 _ c2 w _ _ (by omega) (Nat.le_refl _) hrun).mono ?_
  rintro en w1 ⟨rfl,rfl⟩
  refine zdi (n:=0) hsz (ys:=[]) (yv:=yv) rfl (Nat.zero_le _) hl.lt (by simp [RL]) v1' (by simp) v2 hfr hfv (.inr (Nat.le_refl _)) (heap_alloc_new w.drew _) ?_ (by omega) hG2 ?_ (by simpa using hone) rfl rfl rfl (zdU w _) (zbt w _) (fun k hk _=>heap_alloc_old w.drew _ hk)
  ·simp only [Array.size_append,List.size_toArray,hzl,hvsl,List.length_nil,Nat.zero_add]
   omega
  ·simp only [Array.toList_append,List.take_nil,List.drop_nil,List.append_nil,List.nil_append]
   rw [show (0 + 1) * 4 = (zc yv).length from by rw [hvsl],List.take_left]
 ·rcases hrow with ⟨_,h⟩ | ⟨g,o,k,rfl,hb⟩
  ·exact absurd h hc0
  have hgb:zp 0 (.slice (some ⟨g,o,none⟩) rows.length c) = some g:=by unfold zp; simp; omega
  obtain ⟨⟨hgl,hnl⟩,n',cap',cur,sz',q1,q2,q3,q4,q5⟩:=hown g hgb
  simp only [Value.slice.injEq,Option.some.injEq,Addr.mk.injEq] at q1
  obtain ⟨⟨_,rfl,_⟩,rfl,rfl⟩:=q1
  have hss:sz' = 4:=by
   have:zj Tryz.prog 81 = some sz':=q3
   rw [hsz] at this; cases this; rfl
  subst hss
  change w.heap[g]? = some (.cells cur 81 (0,0)) at q2
  obtain ⟨ys,y1,y2,y3⟩:=hb.vals
  have hylen:ys.length = rows.length:=y1.length.symm
  have y2':∀ y ∈ ys,y.cells.size = 4:=by
   by_cases hne:rows = []
   ·subst hne
    have:ys = []:=List.eq_nil_of_length_eq_zero (by simpa using hylen)
    subst this; simp
   ·obtain ⟨r',hr'⟩:=List.exists_mem_of_ne_nil rows hne
    have:=hb.size hro hr'
    intro y hy
    rw [y2 y hy]; omega
  have hcur:=znU q2 y2' y3
  rw [hylen] at hcur
  have honeY:∀ v ∈ zc ys,v.oneCell' = true:=fun v hv=>by
   obtain ⟨j,hj⟩:=List.mem_iff_getElem?.1 hv
   exact (y3 j v hj).2
  have hia:i <= ys.length:=by omega
  obtain ⟨s1,s2⟩:=zj7 y2' hia
  have hcl:rows.length * 4 <= cur.size:=by rw [q4]; exact Nat.mul_le_mul_right _ hle
  have hone3:∀ z ∈ zc (ys.take i++yv++ys.drop i),z.oneCell' = true:=by
   intro z hz
   rw [yM,yM,s1,s2] at hz
   simp only [List.mem_append] at hz
   rcases hz with (hz | hz) | hz
   ·exact honeY z (List.mem_of_mem_take hz)
   ·exact hone z hz
   ·exact honeY z (List.mem_of_mem_drop hz)
  have hgw:g < w.heap.size:=(Array.getElem?_eq_some_iff.1 q2).1
  have e1:zc (ys.take i) = cur.toList.take (i * 4):=by
   rw [s1,hcur,List.take_take,Nat.min_eq_left (Nat.mul_le_mul_right _ hi)]
  have e2:zc (ys.drop i) = (cur.toList.drop (i * 4)).take ((rows.length - i) * 4):=by
   rw [s2,hcur,List.drop_take,Nat.sub_mul]
  have hi5:i * 4 <= rows.length * 4:=Nat.mul_le_mul_right _ hi
  have hct:cur.toList.length = cur.size:=Array.length_toList
  have hlt5:(zc (ys.take i)).length = i * 4:=by rw [e1,List.length_take,hct]; omega
  have hlt6:(zc (ys.drop i)).length = (rows.length - i) * 4:=by rw [e2,List.length_take,List.length_drop,hct]; omega
  rw [hgb]
  have hvg:=hvne g hgb
  have hoseg:∀ v ∈ (cur.toList.drop (i * 4)).take ((rows.length - i) * 4),v.oneCell' = true:=fun v hv=>by
   rw [<- e2,s2] at hv
   exact honeY v (List.mem_of_mem_drop hv)
  have hall:zc (ys.take i++yv++ys.drop i) = cur.toList.take (i * 4)++zc yv++(cur.toList.drop (i * 4)).take ((rows.length - i) * 4):=by rw [yM,yM,e1,e2]
  have hall5:(cur.toList.take (i * 4)++zc yv++(cur.toList.drop (i * 4)).take ((rows.length - i) * 4)).length = (rows.length + 1) * 4:=by
   rw [<- e1,<- e2,zuh,zuh,hlt5,hlt6,hvsl]; omega
  generalize hn:rows.length = n at *
  by_cases hin:i = n
  ·subst hin
   have hseg0:(cur.toList.drop (i * 4)).take ((i - i) * 4) = []:=by simp
   rw [hseg0,List.append_nil] at hall hall5
   by_cases hroom:i + 1 <= c
   ·have hrun:∀ ty,_:=fun ty=>zan (ty:=ty) (g:=g) (sLen:=i) (sCap:=c) (m:=1) Tryz.underlying35 (by kernel_rfl:zda Tryz.prog 35 = true) hi0 q2 hxl (hxf w fun _=>rfl) hone hroom (by rw [hs0,hvsl,q4]; have:=Nat.mul_le_mul_right 4 hroom; omega)
    refine (ziE _ i c _ c2 w _ _ hc63 hle hrun).mono ?_
    rintro en w1 ⟨rfl,rfl⟩
    refine zdi hsz hn.symm hi hl.lt y1 v1' y2' v2 hfr hfv (.inl rfl) (setRow_heap w g cur _ 81 (0,0) q2) ?_ hroom hm ?_ hone3 rfl rfl rfl (DLE.of_eq rfl) (by rw [YJ]; exact Nat.le_refl _) (fun k _ hk=>setRow_other w g k _ (fun e=>hk (by rw [e])))
    ·have:=Nat.mul_le_mul_right 4 hroom
     simp only [List.size_toArray,zuh,List.length_take,List.length_drop,Array.length_toList,hs0,hvsl]
     omega
    ·rw [hall,hs0,<- hall5]
     exact List.take_left
   ·have hG:=grownCap_ge w (i + 1) c 81
    have hG2:=grownCap_le_maxLen w (i + 1) c 81 (by unfold maxLen; omega)
    have hold:(Builtin.firstCells i0.size i (.slice (some ⟨g,0,none⟩) i c)).run Tryz.prog w.drew = .ok (cur.toList.take (i * 4)).toArray w.drew:=by
     rw [hs0]
     have hl':(cur.toList.take (i * 4)).length = i * 4:=by rw [<- e1]; exact hlt5
     have:=run_loadCells_list (P:=Tryz.prog) w.drew ⟨g,0,none⟩ (cur.toList.take (i * 4)) (fun j v hj=>by
      rw [List.getElem?_take] at hj
      split at hj
      ·rw [Addr.add_none,Nat.zero_add,show ∀ x,w.drew.cell? x = w.cell? x from fun _=>rfl,zb2 q2,<- Array.getElem?_toList]
       exact hj
      ·cases hj)
     rw [hl'] at this
     simpa [Builtin.firstCells] using this
    have hrun:∀ ty,_:=fun ty=>YF (ty:=ty) (base:=some ⟨g,0,none⟩) (sLen:=i) (sCap:=c) (m:=1) (olds:=cur.toList.take (i * 4)) Tryz.underlying35 (by kernel_rfl:zda Tryz.prog 35 = true) hi0 hz0 hxl (hxf w.drew fun _=>rfl) hold (by omega) (by omega) (growslice_fits (by omega) (by rw [hb0]; exact hbig))
    refine (ziE _ i c _ c2 w _ _ hc63 hle hrun).mono ?_
    rintro en w1 ⟨rfl,rfl⟩
    refine zdi hsz hn.symm hi hl.lt y1 v1' y2' v2 hfr hfv (.inr (Nat.le_refl _)) (heap_alloc_new w.drew _) ?_ (by omega) hG2 ?_ hone3 rfl rfl rfl (zdU w _) (zbt w _) (fun k hk _=>heap_alloc_old w.drew _ hk)
    ·rw [<- e1]
     simp only [Array.size_append,List.size_toArray,hzl,hvsl,hlt5]
     omega
    ·rw [hall,<- hall5]
     simp only [Array.toList_append]
     exact List.take_left
  ·have hlt':i < n:=by omega
   by_cases hroom:n + 1 <= c
   ·have hm5:=Nat.mul_le_mul_right 4 hroom
    obtain ⟨cur1,hc1⟩:∃ cur1,cur1 = (cur.toList.take ((i + 1) * 4)++(cur.toList.drop (i * 4)).take ((n - i) * 4)++cur.toList.drop ((i + 1) * 4 + (n - i) * 4)).toArray:=⟨_,rfl⟩
    obtain ⟨cur2,hc2⟩:∃ cur2,cur2 = (cur1.toList.take (i * 4)++zc yv++cur1.toList.drop (i * 4 + 4)).toArray:=⟨_,rfl⟩
    refine (znV g n c i _ c2 cur cura ta fa (zc yv) w hlt' hroom hc63 q2 q4 hvg ha hna hvsl hvs hoseg hone cur1 cur2 hc1 hc2).mono ?_
    rintro en w1 ⟨rfl,rfl⟩
    have hA:cur1.toList.take (i * 4) = cur.toList.take (i * 4):=by
     rw [hc1,List.append_assoc,List.take_append_of_le_length (by rw [List.length_take,Array.length_toList]; omega),List.take_take,Nat.min_eq_left (by omega)]
    have hB:cur1.toList.drop (i * 4 + 4) = (cur.toList.drop (i * 4)).take ((n - i) * 4)++cur.toList.drop ((i + 1) * 4 + (n - i) * 4):=by
     rw [hc1,List.append_assoc]
     have hl':(cur.toList.take ((i + 1) * 4)).length = i * 4 + 4:=by rw [List.length_take,Array.length_toList]; omega
     rw [<- hl',List.drop_left]
    have hC:cur2.toList = (cur.toList.take (i * 4)++zc yv++(cur.toList.drop (i * 4)).take ((n - i) * 4))++cur.toList.drop ((i + 1) * 4 + (n - i) * 4):=by
     rw [hc2,hA,hB]
     simp only [List.append_assoc]
    refine zdi hsz hn.symm hi hl.lt y1 v1' y2' v2 hfr hfv (.inl rfl) (setRow_heap _ g cur1 cur2 81 (0,0) (setRow_heap w.drew g cur cur1 81 (0,0) q2)) ?_ hroom hm ?_ hone3 rfl rfl rfl (zj6 w) (by rw [YJ,YJ]; exact Nat.le_refl _) (fun k _ hk=>by
     have hkg:k ≠ g:=fun e=>hk (by rw [e])
     rw [setRow_other _ g k _ hkg,setRow_other _ g k _ hkg]; rfl)
    ·have:=congrArg List.length hC
     rw [zuh,hall5,List.length_drop,Array.length_toList,Array.length_toList] at this
     omega
    ·rw [hall,hC,<- hall5]
     exact List.take_left
   ·have hm5:n * 4 <= c * 4:=Nat.mul_le_mul_right 4 hle
    obtain ⟨G,hG⟩:∃ G,G = grownCap w (n + 1) c 81:=⟨_,rfl⟩
    obtain ⟨row,hrow⟩:∃ row,row = (cur.toList.take (i * 4)).toArray++Builtin.zeroCells zg9.cells (n + 1 - i)++Builtin.zeroCells zg9.cells (G - (n + 1)):=⟨_,rfl⟩
    obtain ⟨row2,hr2⟩:∃ row2,row2 = (row.toList.take (i * 4)++zc yv++row.toList.drop (i * 4 + 4)).toArray:=⟨_,rfl⟩
    obtain ⟨row3,hr3⟩:∃ row3,row3 = (row2.toList.take ((i + 1) * 4)++(cur.toList.drop (i * 4)).take ((n - i) * 4)++row2.toList.drop ((i + 1) * 4 + (n - i) * 4)).toArray:=⟨_,rfl⟩
    refine (zpd g n c i _ c2 cur (zc yv) w hlt' hle (by omega) hbig q2 q4 hvbw hvsl hvs hoseg hone row row2 row3 G hG hrow hr2 hr3).mono ?_
    rintro en w1 ⟨rfl,rfl⟩
    have hGn:n + 1 <= G:=by rw [hG]; exact grownCap_ge w _ _ _
    have hGm:G <= maxLen:=by rw [hG]; exact grownCap_le_maxLen w (n + 1) c 81 (by unfold maxLen; omega)
    have hrs:row.size = G * 4:=by
     rw [hrow,<- e1]
     simp only [Array.size_append,List.size_toArray,hzl,hlt5]
     omega
    have hA:row.toList.take (i * 4) = cur.toList.take (i * 4):=by
     rw [hrow,<- e1]
     simp only [Array.toList_append,List.append_assoc]
     rw [<- hlt5,List.take_left]
    have hA2:row2.toList.take ((i + 1) * 4) = cur.toList.take (i * 4)++zc yv:=by
     rw [hr2,hA]
     have:(cur.toList.take (i * 4)++zc yv).length = (i + 1) * 4:=by rw [<- e1,zuh,hlt5,hvsl]; omega
     show ((cur.toList.take (i * 4)++zc yv)++row.toList.drop (i * 4 + 4)).take ((i + 1) * 4) = _
     rw [<- this,List.take_left]
    have hr2s:row2.size = G * 4:=by
     rw [hr2,hA,<- e1]
     simp only [List.size_toArray,zuh,List.length_drop,Array.length_toList,hlt5,hvsl,hrs]
     omega
    have hC:row3.toList = (cur.toList.take (i * 4)++zc yv++(cur.toList.drop (i * 4)).take ((n - i) * 4))++row2.toList.drop ((i + 1) * 4 + (n - i) * 4):=by
     rw [hr3,hA2]
    have hN1:(w.drew.alloc (.cells row 81)).heap[w.heap.size]? = some (.cells row 81 (0,0)):=heap_alloc_new w.drew _
    refine zdi hsz hn.symm hi hl.lt y1 v1' y2' v2 hfr hfv (.inr (Nat.le_refl _)) (setRow_heap _ w.heap.size row2 row3 81 (0,0) (setRow_heap (w.drew.alloc (.cells row 81)) w.heap.size row row2 81 (0,0) hN1)) ?_ hGn hGm ?_ hone3 rfl rfl rfl ((zdU w (.cells row 81)).trans (zj6 ((w.drew.alloc (.cells row 81)).setRow w.heap.size row2))) (by rw [YJ]; show _ <= ((w.drew.alloc (.cells row 81)).setRow w.heap.size row2).heap.size; rw [YJ]; exact zbt w _) (fun k hk _=>by
     have hkg:k ≠ w.heap.size:=by omega
     rw [setRow_other _ w.heap.size k _ hkg]
     show ((w.drew.alloc (.cells row 81)).setRow w.heap.size row2).heap[k]? = _
     rw [setRow_other _ w.heap.size k _ hkg,heap_alloc_old w.drew _ hk]; rfl)
    ·have:=congrArg List.length hC
     rw [zuh,hall5,List.length_drop,Array.length_toList,Array.length_toList,hr2s] at this
     omega
    ·rw [hall,hC,<- hall5]
     exact List.take_left
open Go Go.Eng Go.X
noncomputable def zaS (l:List Mrk) (i:Int) (r:List Mrk):Option (List Mrk) :=
 match r with
 | [x]=>if 0 <= i/\i <= l.length/\(l.length + 1) * 32 <= 140737488355328 then some (l.take i.toNat++[x]++l.drop i.toNat) else none
 | _=>none
theorem zcn:∀ l:List Mrk,V.flatL (l.map qQ) = true
 | []=>rfl
 | x :: l=>by
  rw [List.map_cons]
  show (V.flat (qQ x) && V.flatL (l.map qQ)) = true
  rw [zcn l]
  rfl
theorem zbu (l:List Mrk):yO 4 (l.map qQ):=by
 intro v hv
 obtain ⟨x,_,rfl⟩:=List.mem_map.1 hv
 rfl
theorem znW:zaR Tryz.prog 78 = true:=by kernel_rfl
noncomputable def insertM.mu:zeg Tryz.prog where
 f:=78
 p:=0
 c:=.Mrk
 e:=81
 run:=fun args ins K=>match args,ins with
  | [.lst .Mrk l,.int .i64 i,.lst .Mrk r],[]=>some ((zaS l i r).bind fun l'=>K l' [])
  | _,_=>none
 sound:=by
  intro β args ins K r h
  split at h
  ·rename_i l i r0
   simp only [Option.some.injEq] at h
   obtain ⟨l',h1,h2⟩:=bind_some h
   refine ⟨l',[],h2,znW,?_,by simp,rfl⟩
   unfold zaS at h1
   split at h1
   ·rename_i x
    split at h1
    ·rename_i hc
     simp only [Option.some.injEq] at h1
     subst h1
     have hi:i = (i.toNat:Int):=by omega
     have hF:=zq3 (l.map qQ) (qQ x) i.toNat (by rw [List.length_map]; omega) (zbu l) (zbu [x]) (zcn l) rfl (by rw [List.length_map]; exact hc.2.2)
     rw [<- hi] at hF
     simpa [zg,toV,enc,List.map_take,List.map_drop] using hF
    ·cases h1
   ·cases h1
  ·cases h
end Go.Proofs.YtjcbpfhlgebgdaaGreatDoor
