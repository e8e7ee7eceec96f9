import Derived.RegionTactic
import Derived.OwnWalk
import Derived.Test.YtjcbpfhlgebgdaaDoorXGPk
set_option linter.unusedSimpArgs false
set_option linter.unusedVariables false
namespace Go.Proofs.YtjcbpfhlgebgdaaDoor
open Go Go.Eng Go.RowKit Go.X Go.Seq Go.Shelf
def pkF:List UInt8→Nat→List Int→List Int→Option (List Int × List Int)
 | [],_,p,d=>some (p,d)
 | c :: l,k,p,d =>
  if c.toNat = 46 then (if k + 1 = 3 then none else pkF l (k + 1) p d)
  else if c.toNat < 48 ∨ 57 < c.toNat then none
  else if (0 < d.getD k 0∧p.getD k 0 = 0) ∨ d.getD k 0 = 13 then none
  else pkF l k (p.set k (IntKind.u64.wrap (IntKind.u64.wrap (10 * p.getD k 0) + ((c.toNat:Int) - 48)))) (d.set k (wrap64 (d.getD k 0 + 1)))
def idCells (a b c:Int):Obj:=.cells #[.int .i64 a,.int .u64 b,.int .i64 c] 51 (0,0)
def idVal (a b c:Int):Value:=.agg #[.int .i64 a,.int .u64 b,.int .i64 c]
def pCells (a b c:Int):Obj:=.cells #[.int .u64 a,.int .u64 b,.int .u64 c] 238 (0,0)
def dCells (a b c:Int):Obj:=.cells #[.int .i64 a,.int .i64 b,.int .i64 c] 239 (0,0)
theorem idc {W:World} {M:Nat} {a b c:Int} (h:W.heap[M]? = some (idCells a b c)):(W.cell? ⟨M,0,none⟩ = some (.int .i64 a)∧W.cell? ⟨M,1,none⟩ = some (.int .u64 b)∧W.cell? ⟨M,2,none⟩ = some (.int .i64 c))∧∀ j,W.frozen? ⟨M,j,none⟩ = false:=by
 unfold idCells at h
 refine ⟨by simp [World.cell?,h],fun j=>by simp [World.frozen?,h]⟩
theorem pdc {W:World} {M:Nat} {a b c:Int} (h:W.heap[M]? = some (pCells a b c)):(W.cell? ⟨M,0,none⟩ = some (.int .u64 a)∧W.cell? ⟨M,1,none⟩ = some (.int .u64 b)∧W.cell? ⟨M,2,none⟩ = some (.int .u64 c))∧∀ j,W.frozen? ⟨M,j,none⟩ = false:=by
 unfold pCells at h
 refine ⟨by simp [World.cell?,h],fun j=>by simp [World.frozen?,h]⟩
theorem ddc {W:World} {M:Nat} {a b c:Int} (h:W.heap[M]? = some (dCells a b c)):(W.cell? ⟨M,0,none⟩ = some (.int .i64 a)∧W.cell? ⟨M,1,none⟩ = some (.int .i64 b)∧W.cell? ⟨M,2,none⟩ = some (.int .i64 c))∧∀ j,W.frozen? ⟨M,j,none⟩ = false:=by
 unfold dCells at h
 refine ⟨by simp [World.cell?,h],fun j=>by simp [World.frozen?,h]⟩
structure KB (N:Nat) (w:World) (p0 p1 p2 d0 d1 d2:Int) (W:World):Prop where
 bl:Below N w W
 size:N + 3 ≤ W.heap.size
 b0:W.heap[N]? = some (idCells 0 0 0)
 b1:W.heap[N + 1]? = some (pCells p0 p1 p2)
 b2:W.heap[N + 1 + 1]? = some (dCells d0 d1 d2)
theorem KB.init (w:World):KB w.heap.size w 0 0 0 0 0 0 (((w.alloc (idCells 0 0 0)).alloc (pCells 0 0 0)).alloc (dCells 0 0 0)):=by
 have e:∀ (W:World) (o:Obj) (k:Nat),k < W.heap.size→(W.alloc o).heap[k]? = W.heap[k]?:=fun W o k hk=>Below.heap_alloc _ _ _ hk
 have z:∀ (W:World) (o:Obj) (k:Nat),k = W.heap.size→(W.alloc o).heap[k]? = some o:=fun W o k hk=>by rw [hk]; exact ahn W o
 have s1:∀ (W:World) (o:Obj),(W.alloc o).heap.size = W.heap.size + 1:=fun W o=>by simp
 refine ⟨((Below.refl _ _).alloc (Nat.le_refl _) _).alloc (by simp) _ |>.alloc (by simp; omega) _,by simp,?_,?_,?_⟩
 ·rw [e _ _ _ (by simp only [s1]; omega),e _ _ _ (by simp only [s1]; omega)]; exact z _ _ _ rfl
 ·rw [e _ _ _ (by simp only [s1]; omega)]; exact z _ _ _ (by simp only [s1])
 ·exact z _ _ _ (by simp only [s1])
theorem kp_dheap (A:World) (k:Nat):A.drew.heap[k]? = A.heap[k]?:=rfl
theorem kp_drew {M:Nat} {w A:World} (h:Below M w A):Below M w A.drew:=⟨h.os,h.tape,h.output,h.size,h.block⟩
theorem kp_set {N:Nat} {w W:World} (h:Below N w W) {a:Addr} (ha:N ≤ a.block) (v:Value):Below N w (W.setCell a v) :=
 ⟨h.os,h.tape,h.output,by simpa using h.size,fun k hk=>(Below.heap_setCell _ _ _ _ (by omega)).trans (h.block k hk)⟩
theorem KB.store0 {N:Nat} {w W:World} {p0 p1 p2 d0 d1 d2:Int} (h:KB N w p0 p1 p2 d0 d1 d2 W) (x y:Int):KB N w x p1 p2 y d1 d2 (((W.setCell ⟨N + 1,0,none⟩ (.int .u64 x)).setCell ⟨N + 1 + 1,0,none⟩ (.int .i64 y)).drew):=by
 refine ⟨kp_drew (kp_set (kp_set h.bl (Nat.le_add_right N 1) _) (Nat.le_trans (Nat.le_add_right N 1) (Nat.le_add_right (N + 1) 1)) _),by show N + 3 ≤ ((W.setCell _ _).setCell _ _).heap.size; simpa using h.size,?_,?_,?_⟩
 ·rw [kp_dheap]; exact (Below.heap_setCell _ _ _ _ (by show N ≠ N + 1 + 1; omega)).trans ((Below.heap_setCell _ _ _ _ (by show N ≠ N + 1; omega)).trans h.b0)
 ·rw [kp_dheap]; exact (Below.heap_setCell _ _ _ _ (by simp)).trans (heap_setCell_same _ _ 0 _ _ _ h.b1)
 ·rw [kp_dheap]; exact heap_setCell_same _ _ 0 _ _ _ ((Below.heap_setCell _ _ _ _ (by simp)).trans h.b2)
theorem KB.store1 {N:Nat} {w W:World} {p0 p1 p2 d0 d1 d2:Int} (h:KB N w p0 p1 p2 d0 d1 d2 W) (x y:Int):KB N w p0 x p2 d0 y d2 (((W.setCell ⟨N + 1,1,none⟩ (.int .u64 x)).setCell ⟨N + 1 + 1,1,none⟩ (.int .i64 y)).drew):=by
 refine ⟨kp_drew (kp_set (kp_set h.bl (Nat.le_add_right N 1) _) (Nat.le_trans (Nat.le_add_right N 1) (Nat.le_add_right (N + 1) 1)) _),by show N + 3 ≤ ((W.setCell _ _).setCell _ _).heap.size; simpa using h.size,?_,?_,?_⟩
 ·rw [kp_dheap]; exact (Below.heap_setCell _ _ _ _ (by show N ≠ N + 1 + 1; omega)).trans ((Below.heap_setCell _ _ _ _ (by show N ≠ N + 1; omega)).trans h.b0)
 ·rw [kp_dheap]; exact (Below.heap_setCell _ _ _ _ (by simp)).trans (heap_setCell_same _ _ 1 _ _ _ h.b1)
 ·rw [kp_dheap]; exact heap_setCell_same _ _ 1 _ _ _ ((Below.heap_setCell _ _ _ _ (by simp)).trans h.b2)
theorem KB.store2 {N:Nat} {w W:World} {p0 p1 p2 d0 d1 d2:Int} (h:KB N w p0 p1 p2 d0 d1 d2 W) (x y:Int):KB N w p0 p1 x d0 d1 y (((W.setCell ⟨N + 1,2,none⟩ (.int .u64 x)).setCell ⟨N + 1 + 1,2,none⟩ (.int .i64 y)).drew):=by
 refine ⟨kp_drew (kp_set (kp_set h.bl (Nat.le_add_right N 1) _) (Nat.le_trans (Nat.le_add_right N 1) (Nat.le_add_right (N + 1) 1)) _),by show N + 3 ≤ ((W.setCell _ _).setCell _ _).heap.size; simpa using h.size,?_,?_,?_⟩
 ·rw [kp_dheap]; exact (Below.heap_setCell _ _ _ _ (by show N ≠ N + 1 + 1; omega)).trans ((Below.heap_setCell _ _ _ _ (by show N ≠ N + 1; omega)).trans h.b0)
 ·rw [kp_dheap]; exact (Below.heap_setCell _ _ _ _ (by simp)).trans (heap_setCell_same _ _ 2 _ _ _ h.b1)
 ·rw [kp_dheap]; exact heap_setCell_same _ _ 2 _ _ _ ((Below.heap_setCell _ _ _ _ (by simp)).trans h.b2)
def idW (W:World) (N:Nat) (a b c:Int):World:=((W.setCell ⟨N,0,none⟩ (.int .i64 a)).setCell ⟨N,1,none⟩ (.int .u64 b)).setCell ⟨N,2,none⟩ (.int .i64 c)
theorem idW_b {N:Nat} {W:World} {x y z:Int} (h:W.heap[N]? = some (idCells x y z)) (a b c:Int):(idW W N a b c).heap[N]? = some (idCells a b c):=by
 unfold idW
 exact heap_setCell_same _ _ 2 _ _ _ (heap_setCell_same _ _ 1 _ _ _ (heap_setCell_same _ _ 0 _ _ _ h))
theorem idW_below {N:Nat} {w W:World} (h:Below N w W) (a b c:Int):Below N w (idW W N a b c):=by
 unfold idW
 exact kp_set (kp_set (kp_set h (Nat.le_refl N) _) (Nat.le_refl N) _) (Nat.le_refl N) _
theorem pk_fin {Q:Ending→World→Prop} {tmps:Array Value} {B:World} {N:Nat} {a b c e:Int} (h1:B.heap[N]? = some (idCells a b c)) (t2:tmps[2]?.getD undef = .pointer (some ⟨N,0,none⟩)) (t3:tmps[3]?.getD undef = .int .i64 e) (h:Q (.returned (.tuple #[idVal a b c,.int .i64 e])) B) :
  bodyPost Tryd.prog Tryd.f137 Q .ret { tmps,defers:=[] } B:=by
 obtain ⟨⟨q0,q1,q2⟩,_⟩:=idc h1
 refine bodyPost_ret (v:=.tuple #[idVal a b c,.int .i64 e]) ?_ rfl h
 simp [results,Tryd.f137,go_sem,t2,t3,q0,q1,q2,idVal]
theorem hl_more {w W:World} {pr:Nat→Nat→Prop} (hl:HL w pr) (hb:Below w.heap.size w W) {M:Nat} (hM:M < W.heap.size):HL W (fun b o=>pr b o ∨ b = M) :=
 ⟨fun b o h=>by rcases h with h | rfl; exact (hl_bel hl hb).lt b o h; exact hM,fun g vs hg=>by
  obtain ⟨h1,h2⟩:=(hl_bel hl hb).glob g vs hg
  exact ⟨h1,fun i hi=>.inl (h2 i hi)⟩⟩
theorem has_call {w W:World} {pr:Nat→Nat→Prop} (hl:HL w pr) {p0 p1 p2 d0 d1 d2:Int} (hkb:KB w.heap.size w p0 p1 p2 d0 d1 d2 W) {b:Bool} (h:slices_Contains ([d0,d1,d2],0) = some b) :
  Calls Tryd.prog 168 #[.slice (some ⟨w.heap.size + 1 + 1,0,none⟩) 3 3,.int .i64 0] W fun e W'=>e = .returned (.bool b)∧Below W.heap.size W W':=by
 have hM:w.heap.size + 1 + 1 < W.heap.size:=by have:=hkb.size; omega
 obtain ⟨⟨c0,c1,c2⟩,_⟩:=ddc hkb.b2
 have hfn:=slices_Contains.fn _ _ h W (fun b o=>pr b o ∨ b = w.heap.size + 1 + 1) (fun _=>none) #[.slice (some ⟨w.heap.size + 1 + 1,0,none⟩) 3 3,.int .i64 0] (hl_more hl hkb.bl hM) (by
  show RL _ [.list [.int .i64 d0,.int .i64 d1,.int .i64 d2],.int .i64 0] [.slice (some ⟨w.heap.size + 1 + 1,0,none⟩) 3 3,.int .i64 0]
  have one:∀ (x:Int) (o:Nat),W.cell? ⟨w.heap.size + 1 + 1,o,none⟩ = some (.int .i64 x)→∃ y:Value,y = .int .i64 x∧y.cells.size = 1∧∀ j z,y.cells[j]? = some z→Env.at ⟨W,fun b o=>pr b o ∨ b = w.heap.size + 1 + 1,fun _=>none⟩ (w.heap.size + 1 + 1) (o + j) z∧z.oneCell' = true:=fun x o hc=>by
   refine ⟨_,rfl,rfl,fun j z hz=>?_⟩
   cases j with
   | zero=>simp [Value.cells] at hz; subst hz; exact ⟨⟨hc,.inr rfl⟩,rfl⟩
   | succ j=>simp [Value.cells] at hz
  simp only [RL,R,RR]
  exact ⟨_,_,rfl,⟨_,3,rfl,Nat.le_refl _,by unfold maxLen; omega,.inr ⟨_,0,1,rfl,one d0 0 c0,one d1 1 c1,one d2 2 c2,trivial⟩⟩,_,_,rfl,rfl,rfl⟩) (fun i B h=>by simp at h) (fun i j b h=>by cases h) (fun _ _=>rfl)
 refine hfn.mono ?_
 rintro en W' ⟨v,pr',rfl,hr,_,hk⟩
 refine ⟨?_,⟨hk.os,hk.tape,hk.output,hk.size,fun k h=>hk.block k h (fun i e=>by cases e)⟩⟩
 change R _ (.bool b) v at hr
 simp only [R] at hr
 rw [hr]
theorem checkid_call {W:World} {pr:Nat→Nat→Prop} (hl:HL W pr) {a b c e:Int} (h:bundle_CheckID ⟨a,b,c⟩ = some e) :
  Calls Tryd.prog 125 #[idVal a b c] W fun en W'=>en = .returned (.int .i64 e)∧Below W.heap.size W W':=by
 have hfn:=bundle_CheckID.fn _ _ h W pr (fun _=>none) #[idVal a b c] hl (by
  show RL _ [.agg [.int .i64 a,.int .u64 b,.int .i64 c]] [idVal a b c]
  simp only [RL,R]
  refine ⟨_,_,rfl,⟨[.int .i64 a,.int .u64 b,.int .i64 c],rfl,⟨_,_,rfl,rfl,_,_,rfl,rfl,_,_,rfl,rfl,rfl⟩,?_⟩,rfl⟩
  intro y hy; simp at hy; rcases hy with rfl | rfl | rfl <;> rfl) (fun i B h=>by simp at h) (fun i j b h=>by cases h) (fun _ _=>rfl)
 refine hfn.mono ?_
 rintro en W' ⟨v,pr',rfl,hr,_,hk⟩
 refine ⟨?_,⟨hk.os,hk.tape,hk.output,hk.size,fun k h=>hk.block k h (fun i e=>by cases e)⟩⟩
 change R _ (.int .i64 e) v at hr
 simp only [R] at hr
 rw [hr]
theorem after_has {w wr W2:World} {p0 p1 p2 d0 d1 d2:Int} (hkb:KB w.heap.size w p0 p1 p2 d0 d1 d2 wr) (x2:Below wr.heap.size wr W2) :
  Shut (Below w.heap.size w W2∧∃ x y z,W2.heap[w.heap.size]? = some (idCells x y z))∧(W2.cell? ⟨w.heap.size,0,none⟩ = some (.int .i64 0)∧W2.cell? ⟨w.heap.size,1,none⟩ = some (.int .u64 0)∧W2.cell? ⟨w.heap.size,2,none⟩ = some (.int .i64 0))∧(∀ j,W2.frozen? ⟨w.heap.size,j,none⟩ = false) ∧
  (W2.cell? ⟨w.heap.size + 1,0,none⟩ = some (.int .u64 p0)∧W2.cell? ⟨w.heap.size + 1,1,none⟩ = some (.int .u64 p1)∧W2.cell? ⟨w.heap.size + 1,2,none⟩ = some (.int .u64 p2)):=by
 have hs:=hkb.size
 have h0:=(x2.block w.heap.size (by omega)).trans hkb.b0
 have h1:=(x2.block (w.heap.size + 1) (by omega)).trans hkb.b1
 exact ⟨⟨below_app hkb.bl hkb.bl.size x2,_,_,_,h0⟩,(idc h0).1,(idc h0).2,(pdc h1).1⟩
theorem after_chk {w W2 W3:World} {a b c:Int} (h:Below w.heap.size w W2∧∃ x y z,W2.heap[w.heap.size]? = some (idCells x y z)) (x3:Below (W2.alloc (idCells a b c)).heap.size (W2.alloc (idCells a b c)) W3) :
  Shut (Below w.heap.size w W3∧∃ x y z,W3.heap[w.heap.size]? = some (idCells x y z))∧((∃ x,W3.cell? ⟨w.heap.size,0,none⟩ = some x)∧(∃ x,W3.cell? ⟨w.heap.size,1,none⟩ = some x)∧(∃ x,W3.cell? ⟨w.heap.size,2,none⟩ = some x))∧(∀ j,W3.frozen? ⟨w.heap.size,j,none⟩ = false) ∧
  (W3.cell? ⟨W2.heap.size,0,none⟩ = some (.int .i64 a)∧W3.cell? ⟨W2.heap.size,1,none⟩ = some (.int .u64 b)∧W3.cell? ⟨W2.heap.size,2,none⟩ = some (.int .i64 c)):=by
 obtain ⟨hbl,x,y,z,hid⟩:=h
 have hN:w.heap.size < W2.heap.size:=(Array.getElem?_eq_some_iff.1 hid).1
 have hs2:(W2.alloc (idCells a b c)).heap.size = W2.heap.size + 1:=by simp
 have h0:W3.heap[w.heap.size]? = some (idCells x y z):=(x3.block _ (by omega)).trans ((Below.heap_alloc _ _ _ hN).trans hid)
 have h1:W3.heap[W2.heap.size]? = some (idCells a b c):=(x3.block _ (by omega)).trans (ahn W2 _)
 exact ⟨⟨below_app (hbl.alloc hbl.size _) (by omega) x3,_,_,_,h0⟩,⟨⟨_,(idc h0).1.1⟩,⟨_,(idc h0).1.2.1⟩,⟨_,(idc h0).1.2.2⟩⟩,(idc h0).2,(idc h1).1⟩
noncomputable def resK:Option (List Int × List Int)→Option (ID × Int)
 | none=>some (⟨0,0,0⟩,3)
 | some ([p0,p1,p2],d)=>(slices_Contains (d,0)).bind fun z=>if z then some (⟨0,0,0⟩,3) else (bundle_CheckID ⟨wrap64 p0,p1,wrap64 p2⟩).bind fun e=>if e ≠ 0 then some (⟨0,0,0⟩,e) else some (⟨wrap64 p0,p1,wrap64 p2⟩,0)
 | some _=>none
theorem drop_at {S:ByteArray} {i:Int} (h0:0 ≤ i) (hin:i.toNat < S.size):S.data.toList.drop i.toNat = S[i.toNat] :: S.data.toList.drop (i + 1).toNat:=by
 have hl:S.data.toList.length = S.size:=Array.length_toList
 rw [List.drop_eq_getElem_cons (by omega),show (i + 1).toNat = i.toNat + 1 by omega]
 rfl
set_option maxRecDepth 20000 in
set_option maxHeartbeats 8000000 in
theorem parsekey_in (w:World) (S:ByteArray) (hS:S.size ≤ 1000000) (out:Option (List Int × List Int)) (hout:pkF S.data.toList 0 [0,0,0] [0,0,0] = out) (r:ID × Int) (hr:resK out = some r)
  (hH:∀ W p0 p1 p2 d0 d1 d2 b,KB w.heap.size w p0 p1 p2 d0 d1 d2 W→slices_Contains ([d0,d1,d2],0) = some b→Calls Tryd.prog 168 #[.slice (some ⟨w.heap.size + 1 + 1,0,none⟩) 3 3,.int .i64 0] W fun e W'=>e = .returned (.bool b)∧Below W.heap.size W W')
  (hC:∀ W a b c e,Below w.heap.size w W→bundle_CheckID ⟨a,b,c⟩ = some e→Calls Tryd.prog 125 #[idVal a b c] W fun en W'=>en = .returned (.int .i64 e)∧Below W.heap.size W W') :
  Calls Tryd.prog 137 #[.string S] w fun e W'=>e = .returned (.tuple #[idVal r.1.Node r.1.Seq r.1.Off,.int .i64 r.2])∧Below w.heap.size w W':=by
 have mixed:Tryd.prog.follows .mixedOrders = true:=by kernel_rfl
 have kb0:Shut _:=KB.init w
 have hout':Shut _:=hout
 have hfin:Shut (∀ a b c e (tmps:Array Value) (W1:World),r = (⟨a,b,c⟩,e)→(Below w.heap.size w W1∧∃ x y z,W1.heap[w.heap.size]? = some (idCells x y z))→tmps[2]?.getD undef = .pointer (some ⟨w.heap.size,0,none⟩)→tmps[3]?.getD undef = .int .i64 e →
   bodyPost Tryd.prog Tryd.f137 (fun e W'=>e = .returned (.tuple #[idVal r.1.Node r.1.Seq r.1.Off,.int .i64 r.2])∧Below w.heap.size w W') .ret { tmps,defers:=[] } (idW W1 w.heap.size a b c)):=by
  rintro a b c e tmps W1 rfl ⟨hbl,x,y,z,hid⟩ t2 t3
  exact pk_fin (idW_b hid a b c) t2 t3 ⟨rfl,idW_below hbl a b c⟩
 have hbad:Shut (out = none→∀ (tmps:Array Value) (W1:World),(Below w.heap.size w W1∧∃ x y z,W1.heap[w.heap.size]? = some (idCells x y z))→tmps[2]?.getD undef = .pointer (some ⟨w.heap.size,0,none⟩)→tmps[3]?.getD undef = .int .i64 3 →
   bodyPost Tryd.prog Tryd.f137 (fun e W'=>e = .returned (.tuple #[idVal r.1.Node r.1.Seq r.1.Off,.int .i64 r.2])∧Below w.heap.size w W') .ret { tmps,defers:=[] } (idW W1 w.heap.size 0 0 0)):=by
  rintro rfl tmps W1 h1 t2 t3
  cases hr
  exact hfin.out 0 0 0 3 tmps W1 rfl h1 t2 t3
 have hr':Shut _:=hr
 clear hout hr
 go_enter Tryd.func137,Tryd.ntmps137
 go_wp2
 refine wp_scope_straight ?_
 go_wp2
 apply wp_label
 go_wp2
 go_loopw [6,13] (fun v6 v13 wr=>∃ (i k p0 p1 p2 d0 d1 d2:Int),v6 = .int .i64 k∧v13 = .int .i64 i∧0 ≤ i∧i ≤ (S.size:Int)∧0 ≤ k∧k ≤ 2∧pkF (S.data.toList.drop i.toNat) k.toNat [p0,p1,p2] [d0,d1,d2] = out∧KB w.heap.size w p0 p1 p2 d0 d1 d2 wr)
  (fun v6 v13 wr=>((S.size:Int) - intOf v13).toNat)
 case atStart=>exact ⟨0,0,0,0,0,0,0,0,rfl,rfl,by decide,by omega,by decide,by decide,hout'.out,kb0.out⟩
 case round =>
  clear kb0 hout'
  obtain ⟨i,k,p0,p1,p2,d0,d1,d2,rfl,rfl,hi0,hi1,hk0,hk2,hq,hkb⟩:=hrel
  obtain ⟨⟨c0,c1,c2⟩,cf⟩:=pdc hkb.b1
  obtain ⟨⟨e0,e1,e2⟩,ef⟩:=ddc hkb.b2
  obtain ⟨⟨g0,g1,g2⟩,gf⟩:=idc hkb.b0
  have hkb':Shut _:=hkb
  have hkb2:Shut (Below w.heap.size w wr∧∃ x y z,wr.heap[w.heap.size]? = some (idCells x y z)):=⟨hkb.bl,_,_,_,hkb.b0⟩
  by_cases hlt:i < (S.size:Int)
  ·have hin:i.toNat < S.size:=by omega
   rw [drop_at hi0 hin] at hq
   have hk:k = 0 ∨ k = 1 ∨ k = 2:=by omega
   have hq1:Shut _:=hq
   clear hkb hq hi1 hk0 hk2 hH hC hr' hfin
   have hS0:i < 1000000:=by omega
   have hwi:wrap64 (i + 1) = i + 1:=IntWalk.wrap64_in _ (by omega)
   rcases hk with rfl | rfl | rfl
   ·have hq2:pkF (S[i.toNat] :: S.data.toList.drop (i + 1).toNat) 0 [p0,p1,p2] [d0,d1,d2] = out:=hq1.out
    unfold pkF at hq2
    by_cases h46:(S[i.toNat]'hin).toNat = 46
    ·have hc1:(((S[i.toNat]'hin).toNat:Int) == 46) = true:=beq_iff_eq.2 (by omega)
     rw [if_pos h46] at hq2
     have hq3:Shut (pkF (S.data.toList.drop (i + 1).toNat) 1 [p0,p1,p2] [d0,d1,d2] = out):=hq2
     clear hq2 hq1
     go_wp2
     refine ⟨⟨i + 1,1,p0,p1,p2,d0,d1,d2,rfl,rfl,by omega,by omega,by decide,by decide,hq3.out,hkb'.out⟩,?_⟩
     simp only [intOf]
     omega
    ·have hc1:(((S[i.toNat]'hin).toNat:Int) == 46) = false:=beq_eq_false_iff_ne.2 (by omega)
     rw [if_neg h46] at hq2
     by_cases hdig:(S[i.toNat]'hin).toNat < 48 ∨ 57 < (S[i.toNat]'hin).toNat
     ·rw [if_pos hdig] at hq2
      have hq3:none = out:=hq2
      clear hq2 hq1 hkb'
      subst hq3
      rcases hdig with hd | hd
      ·have hc2:((S[i.toNat]'hin).toNat:Int) < 48:=by omega
       go_wp2
       exact hbad.out (by simp) _ _ hkb2.out rfl rfl
      ·have hc2:¬ ((S[i.toNat]'hin).toNat:Int) < 48:=by omega
       have hc3:57 < ((S[i.toNat]'hin).toNat:Int):=by omega
       go_wp2
       exact hbad.out (by simp) _ _ hkb2.out rfl rfl
     ·rw [if_neg hdig] at hq2
      have hq4:(if (0 < d0∧p0 = 0) ∨ d0 = 13 then none else pkF (S.data.toList.drop (i + 1).toNat) 0 [IntKind.u64.wrap (IntKind.u64.wrap (10 * p0) + (((S[i.toNat]'hin).toNat:Int) - 48)),p1,p2] [wrap64 (d0 + 1),d1,d2]) = out:=hq2
      clear hq2
      have hc2:¬ (((S[i.toNat]'hin).toNat:Int) < 48):=by omega
      have hc3:¬ (57 < ((S[i.toNat]'hin).toNat:Int)):=by omega
      have hc4:48 ≤ ((S[i.toNat]'hin).toNat:Int):=by omega
      by_cases hz:(0 < d0∧p0 = 0) ∨ d0 = 13
      ·rw [if_pos hz] at hq4
       clear hq1 hkb' hdig h46 hc4
       subst hq4
       by_cases hd0:0 < d0
       ·cases hp:(p0 == (0:Int)) <;> cases hd13:(d0 == (13:Int)) <;>
         first
         | (exfalso; rcases hz with hz | hz; exact absurd (beq_iff_eq.2 hz.2) (by rw [hp]; decide); exact absurd (beq_iff_eq.2 hz) (by rw [hd13]; decide))
         | (clear hz; go_wp2; exact hbad.out (by simp) _ _ hkb2.out rfl rfl)
       ·have hd13:(d0 == (13:Int)) = true:=by
         rcases hz with hz | hz
         ·exact absurd hz.1 hd0
         ·exact beq_iff_eq.2 hz
        clear hz
        go_wp2
        exact hbad.out (by simp) _ _ hkb2.out rfl rfl
      ·rw [if_neg hz] at hq4
       have hd13:(d0 == (13:Int)) = false:=beq_eq_false_iff_ne.2 (fun h=>hz (.inr h))
       have hq3:Shut (pkF (S.data.toList.drop (i + 1).toNat) 0 [IntKind.u64.wrap (IntKind.u64.wrap (10 * p0) + (((S[i.toNat]'hin).toNat:Int) - 48)),p1,p2] [wrap64 (d0 + 1),d1,d2] = out):=hq4
       clear hq4 hq1 hdig h46
       have hst:Shut (KB w.heap.size w (IntKind.u64.wrap (IntKind.u64.wrap (10 * p0) + (((S[i.toNat]'hin).toNat:Int) - 48))) (p1) (p2) (wrap64 (d0 + 1)) (d1) (d2) (((wr.setCell ⟨w.heap.size + 1,0,none⟩ (.int .u64 (IntKind.u64.wrap (IntKind.u64.wrap (10 * p0) + (((S[i.toNat]'hin).toNat:Int) - 48))))).setCell ⟨w.heap.size + 1 + 1,0,none⟩ (.int .i64 (wrap64 (d0 + 1)))).drew)):=KB.store0 hkb'.out _ _
       by_cases hd0:0 < d0
       ·have hp:(p0 == (0:Int)) = false:=beq_eq_false_iff_ne.2 (fun h=>hz (.inl ⟨hd0,h⟩))
        clear hz
        go_wp2
        go_region
        go_wp2
        refine ⟨⟨i + 1,0,IntKind.u64.wrap (IntKind.u64.wrap (10 * p0) + (((S[i.toNat]'hin).toNat:Int) - 48)),p1,p2,wrap64 (d0 + 1),d1,d2,rfl,rfl,by omega,by omega,by decide,by decide,hq3.out,hst.out⟩,?_⟩
        simp only [intOf]
        omega
       ·clear hz
        go_wp2
        go_region
        go_wp2
        refine ⟨⟨i + 1,0,IntKind.u64.wrap (IntKind.u64.wrap (10 * p0) + (((S[i.toNat]'hin).toNat:Int) - 48)),p1,p2,wrap64 (d0 + 1),d1,d2,rfl,rfl,by omega,by omega,by decide,by decide,hq3.out,hst.out⟩,?_⟩
        simp only [intOf]
        omega
   ·have hq2:pkF (S[i.toNat] :: S.data.toList.drop (i + 1).toNat) 1 [p0,p1,p2] [d0,d1,d2] = out:=hq1.out
    unfold pkF at hq2
    by_cases h46:(S[i.toNat]'hin).toNat = 46
    ·have hc1:(((S[i.toNat]'hin).toNat:Int) == 46) = true:=beq_iff_eq.2 (by omega)
     rw [if_pos h46] at hq2
     have hq3:Shut (pkF (S.data.toList.drop (i + 1).toNat) 2 [p0,p1,p2] [d0,d1,d2] = out):=hq2
     clear hq2 hq1
     go_wp2
     refine ⟨⟨i + 1,2,p0,p1,p2,d0,d1,d2,rfl,rfl,by omega,by omega,by decide,by decide,hq3.out,hkb'.out⟩,?_⟩
     simp only [intOf]
     omega
    ·have hc1:(((S[i.toNat]'hin).toNat:Int) == 46) = false:=beq_eq_false_iff_ne.2 (by omega)
     rw [if_neg h46] at hq2
     by_cases hdig:(S[i.toNat]'hin).toNat < 48 ∨ 57 < (S[i.toNat]'hin).toNat
     ·rw [if_pos hdig] at hq2
      have hq3:none = out:=hq2
      clear hq2 hq1 hkb'
      subst hq3
      rcases hdig with hd | hd
      ·have hc2:((S[i.toNat]'hin).toNat:Int) < 48:=by omega
       go_wp2
       exact hbad.out (by simp) _ _ hkb2.out rfl rfl
      ·have hc2:¬ ((S[i.toNat]'hin).toNat:Int) < 48:=by omega
       have hc3:57 < ((S[i.toNat]'hin).toNat:Int):=by omega
       go_wp2
       exact hbad.out (by simp) _ _ hkb2.out rfl rfl
     ·rw [if_neg hdig] at hq2
      have hq4:(if (0 < d1∧p1 = 0) ∨ d1 = 13 then none else pkF (S.data.toList.drop (i + 1).toNat) 1 [p0,IntKind.u64.wrap (IntKind.u64.wrap (10 * p1) + (((S[i.toNat]'hin).toNat:Int) - 48)),p2] [d0,wrap64 (d1 + 1),d2]) = out:=hq2
      clear hq2
      have hc2:¬ (((S[i.toNat]'hin).toNat:Int) < 48):=by omega
      have hc3:¬ (57 < ((S[i.toNat]'hin).toNat:Int)):=by omega
      have hc4:48 ≤ ((S[i.toNat]'hin).toNat:Int):=by omega
      by_cases hz:(0 < d1∧p1 = 0) ∨ d1 = 13
      ·rw [if_pos hz] at hq4
       clear hq1 hkb' hdig h46 hc4
       subst hq4
       by_cases hd0:0 < d1
       ·cases hp:(p1 == (0:Int)) <;> cases hd13:(d1 == (13:Int)) <;>
         first
         | (exfalso; rcases hz with hz | hz; exact absurd (beq_iff_eq.2 hz.2) (by rw [hp]; decide); exact absurd (beq_iff_eq.2 hz) (by rw [hd13]; decide))
         | (clear hz; go_wp2; exact hbad.out (by simp) _ _ hkb2.out rfl rfl)
       ·have hd13:(d1 == (13:Int)) = true:=by
         rcases hz with hz | hz
         ·exact absurd hz.1 hd0
         ·exact beq_iff_eq.2 hz
        clear hz
        go_wp2
        exact hbad.out (by simp) _ _ hkb2.out rfl rfl
      ·rw [if_neg hz] at hq4
       have hd13:(d1 == (13:Int)) = false:=beq_eq_false_iff_ne.2 (fun h=>hz (.inr h))
       have hq3:Shut (pkF (S.data.toList.drop (i + 1).toNat) 1 [p0,IntKind.u64.wrap (IntKind.u64.wrap (10 * p1) + (((S[i.toNat]'hin).toNat:Int) - 48)),p2] [d0,wrap64 (d1 + 1),d2] = out):=hq4
       clear hq4 hq1 hdig h46
       have hst:Shut (KB w.heap.size w (p0) (IntKind.u64.wrap (IntKind.u64.wrap (10 * p1) + (((S[i.toNat]'hin).toNat:Int) - 48))) (p2) (d0) (wrap64 (d1 + 1)) (d2) (((wr.setCell ⟨w.heap.size + 1,1,none⟩ (.int .u64 (IntKind.u64.wrap (IntKind.u64.wrap (10 * p1) + (((S[i.toNat]'hin).toNat:Int) - 48))))).setCell ⟨w.heap.size + 1 + 1,1,none⟩ (.int .i64 (wrap64 (d1 + 1)))).drew)):=KB.store1 hkb'.out _ _
       by_cases hd0:0 < d1
       ·have hp:(p1 == (0:Int)) = false:=beq_eq_false_iff_ne.2 (fun h=>hz (.inl ⟨hd0,h⟩))
        clear hz
        go_wp2
        go_region
        go_wp2
        refine ⟨⟨i + 1,1,p0,IntKind.u64.wrap (IntKind.u64.wrap (10 * p1) + (((S[i.toNat]'hin).toNat:Int) - 48)),p2,d0,wrap64 (d1 + 1),d2,rfl,rfl,by omega,by omega,by decide,by decide,hq3.out,hst.out⟩,?_⟩
        simp only [intOf]
        omega
       ·clear hz
        go_wp2
        go_region
        go_wp2
        refine ⟨⟨i + 1,1,p0,IntKind.u64.wrap (IntKind.u64.wrap (10 * p1) + (((S[i.toNat]'hin).toNat:Int) - 48)),p2,d0,wrap64 (d1 + 1),d2,rfl,rfl,by omega,by omega,by decide,by decide,hq3.out,hst.out⟩,?_⟩
        simp only [intOf]
        omega
   ·have hq2:pkF (S[i.toNat] :: S.data.toList.drop (i + 1).toNat) 2 [p0,p1,p2] [d0,d1,d2] = out:=hq1.out
    unfold pkF at hq2
    by_cases h46:(S[i.toNat]'hin).toNat = 46
    ·have hc1:(((S[i.toNat]'hin).toNat:Int) == 46) = true:=beq_iff_eq.2 (by omega)
     rw [if_pos h46] at hq2
     have hq3:none = out:=hq2
     clear hq2 hq1 hkb'
     subst hq3
     go_wp2
     exact hbad.out (by simp) _ _ hkb2.out rfl rfl
    ·have hc1:(((S[i.toNat]'hin).toNat:Int) == 46) = false:=beq_eq_false_iff_ne.2 (by omega)
     rw [if_neg h46] at hq2
     by_cases hdig:(S[i.toNat]'hin).toNat < 48 ∨ 57 < (S[i.toNat]'hin).toNat
     ·rw [if_pos hdig] at hq2
      have hq3:none = out:=hq2
      clear hq2 hq1 hkb'
      subst hq3
      rcases hdig with hd | hd
      ·have hc2:((S[i.toNat]'hin).toNat:Int) < 48:=by omega
       go_wp2
       exact hbad.out (by simp) _ _ hkb2.out rfl rfl
      ·have hc2:¬ ((S[i.toNat]'hin).toNat:Int) < 48:=by omega
       have hc3:57 < ((S[i.toNat]'hin).toNat:Int):=by omega
       go_wp2
       exact hbad.out (by simp) _ _ hkb2.out rfl rfl
     ·rw [if_neg hdig] at hq2
      have hq4:(if (0 < d2∧p2 = 0) ∨ d2 = 13 then none else pkF (S.data.toList.drop (i + 1).toNat) 2 [p0,p1,IntKind.u64.wrap (IntKind.u64.wrap (10 * p2) + (((S[i.toNat]'hin).toNat:Int) - 48))] [d0,d1,wrap64 (d2 + 1)]) = out:=hq2
      clear hq2
      have hc2:¬ (((S[i.toNat]'hin).toNat:Int) < 48):=by omega
      have hc3:¬ (57 < ((S[i.toNat]'hin).toNat:Int)):=by omega
      have hc4:48 ≤ ((S[i.toNat]'hin).toNat:Int):=by omega
      by_cases hz:(0 < d2∧p2 = 0) ∨ d2 = 13
      ·rw [if_pos hz] at hq4
       clear hq1 hkb' hdig h46 hc4
       subst hq4
       by_cases hd0:0 < d2
       ·cases hp:(p2 == (0:Int)) <;> cases hd13:(d2 == (13:Int)) <;>
         first
         | (exfalso; rcases hz with hz | hz; exact absurd (beq_iff_eq.2 hz.2) (by rw [hp]; decide); exact absurd (beq_iff_eq.2 hz) (by rw [hd13]; decide))
         | (clear hz; go_wp2; exact hbad.out (by simp) _ _ hkb2.out rfl rfl)
       ·have hd13:(d2 == (13:Int)) = true:=by
         rcases hz with hz | hz
         ·exact absurd hz.1 hd0
         ·exact beq_iff_eq.2 hz
        clear hz
        go_wp2
        exact hbad.out (by simp) _ _ hkb2.out rfl rfl
      ·rw [if_neg hz] at hq4
       have hd13:(d2 == (13:Int)) = false:=beq_eq_false_iff_ne.2 (fun h=>hz (.inr h))
       have hq3:Shut (pkF (S.data.toList.drop (i + 1).toNat) 2 [p0,p1,IntKind.u64.wrap (IntKind.u64.wrap (10 * p2) + (((S[i.toNat]'hin).toNat:Int) - 48))] [d0,d1,wrap64 (d2 + 1)] = out):=hq4
       clear hq4 hq1 hdig h46
       have hst:Shut (KB w.heap.size w (p0) (p1) (IntKind.u64.wrap (IntKind.u64.wrap (10 * p2) + (((S[i.toNat]'hin).toNat:Int) - 48))) (d0) (d1) (wrap64 (d2 + 1)) (((wr.setCell ⟨w.heap.size + 1,2,none⟩ (.int .u64 (IntKind.u64.wrap (IntKind.u64.wrap (10 * p2) + (((S[i.toNat]'hin).toNat:Int) - 48))))).setCell ⟨w.heap.size + 1 + 1,2,none⟩ (.int .i64 (wrap64 (d2 + 1)))).drew)):=KB.store2 hkb'.out _ _
       by_cases hd0:0 < d2
       ·have hp:(p2 == (0:Int)) = false:=beq_eq_false_iff_ne.2 (fun h=>hz (.inl ⟨hd0,h⟩))
        clear hz
        go_wp2
        go_region
        go_wp2
        refine ⟨⟨i + 1,2,p0,p1,IntKind.u64.wrap (IntKind.u64.wrap (10 * p2) + (((S[i.toNat]'hin).toNat:Int) - 48)),d0,d1,wrap64 (d2 + 1),rfl,rfl,by omega,by omega,by decide,by decide,hq3.out,hst.out⟩,?_⟩
        simp only [intOf]
        omega
       ·clear hz
        go_wp2
        go_region
        go_wp2
        refine ⟨⟨i + 1,2,p0,p1,IntKind.u64.wrap (IntKind.u64.wrap (10 * p2) + (((S[i.toNat]'hin).toNat:Int) - 48)),d0,d1,wrap64 (d2 + 1),rfl,rfl,by omega,by omega,by decide,by decide,hq3.out,hst.out⟩,?_⟩
        simp only [intOf]
        omega
  ·have hie:i = (S.size:Int):=by omega
   have hl:S.data.toList.length = S.size:=Array.length_toList
   rw [List.drop_eq_nil_of_le (by omega)] at hq
   have hq1:pkF [] k.toNat [p0,p1,p2] [d0,d1,d2] = some ([p0,p1,p2],[d0,d1,d2]):=by unfold pkF; rfl
   have hq2:some ([p0,p1,p2],[d0,d1,d2]) = out:=hq1.symm.trans hq
   clear hq hq1 hbad hi1 hk0 hk2 hl
   subst hq2
   obtain ⟨z,hz,h2⟩:=bind_some (show (slices_Contains ([d0,d1,d2],0)).bind (fun z=>if z then some ((⟨0,0,0⟩:ID),(3:Int)) else (bundle_CheckID ⟨wrap64 p0,p1,wrap64 p2⟩).bind fun e=>if e ≠ 0 then some (⟨0,0,0⟩,e) else some (⟨wrap64 p0,p1,wrap64 p2⟩,0)) = some r from hr'.out)
   clear hr'
   cases z with
   | true =>
    have h3:((⟨0,0,0⟩:ID),(3:Int)) = r:=by simpa using h2
    clear h2
    subst h3
    go_wp2_with (go_at_call 168; refine (hH _ _ _ _ _ _ _ true hkb'.out hz).mono ?_; rintro en W2 ⟨rfl,x2⟩; obtain ⟨s1,⟨g0,g1,g2⟩,gf,_⟩:=after_has hkb'.out x2)
    exact hfin.out 0 0 0 3 _ W2 rfl s1.out rfl rfl
   | false =>
    obtain ⟨e,he,h4⟩:=bind_some (show (bundle_CheckID ⟨wrap64 p0,p1,wrap64 p2⟩).bind (fun e=>if e ≠ 0 then some ((⟨0,0,0⟩:ID),e) else some (⟨wrap64 p0,p1,wrap64 p2⟩,0)) = some r from h2)
    clear h2
    by_cases hne:e = 0
    ·subst hne
     have h5:((⟨wrap64 p0,p1,wrap64 p2⟩:ID),(0:Int)) = r:=by simpa using h4
     clear h4
     subst h5
     go_wp2_with (first
      | (go_at_call 168; refine (hH _ _ _ _ _ _ _ false hkb'.out hz).mono ?_; rintro en W2 ⟨rfl,x2⟩; obtain ⟨s1,⟨g0,g1,g2⟩,gf,⟨c0,c1,c2⟩⟩:=after_has hkb'.out x2)
      | (go_at_call 125; refine (hC _ _ _ _ 0 (s1.out.1.alloc s1.out.1.size _) he).mono ?_; rintro en W3 ⟨rfl,x3⟩; obtain ⟨s2,⟨⟨_,g0⟩,⟨_,g1⟩,⟨_,g2⟩⟩,gf,⟨q0,q1,q2⟩⟩:=after_chk s1.out x3))
     exact hfin.out _ _ _ 0 _ W3 rfl s2.out rfl rfl
    ·have hne2:(e != (0:Int)) = true:=bne_iff_ne.2 hne
     have h5:((⟨0,0,0⟩:ID),e) = r:=by simpa [hne] using h4
     clear h4 hne
     subst h5
     go_wp2_with (first
      | (go_at_call 168; refine (hH _ _ _ _ _ _ _ false hkb'.out hz).mono ?_; rintro en W2 ⟨rfl,x2⟩; obtain ⟨s1,⟨g0,g1,g2⟩,gf,⟨c0,c1,c2⟩⟩:=after_has hkb'.out x2)
      | (go_at_call 125; refine (hC _ _ _ _ e (s1.out.1.alloc s1.out.1.size _) he).mono ?_; rintro en W3 ⟨rfl,x3⟩; obtain ⟨s2,⟨⟨_,g0⟩,⟨_,g1⟩,⟨_,g2⟩⟩,gf,⟨q0,q1,q2⟩⟩:=after_chk s1.out x3))
     exact hfin.out 0 0 0 e _ W3 rfl s2.out rfl rfl
open Go Go.Eng Go.RowKit Go.X Go.Seq Go.Shelf
noncomputable def bundle_ParseKey (s:List UInt8):Option (ID × Int):=if s.length ≤ 1000000 then resK (pkF s 0 [0,0,0] [0,0,0]) else none
theorem bundle_ParseKey.fn:FnT Tryd.prog 137 [.d .str] [.ID,.i64] bundle_ParseKey:=by
 intro (x:List UInt8) r h
 refine fn_below fun w pr lam cargs hl hargs=>?_
 simp only [buildA,reflC,dataOf,refl,refl_str,toVL,toV,RL,R] at hargs
 obtain ⟨y,ys,e,⟨rfl,hs⟩,rfl⟩:=hargs
 have hc':cargs = #[.string ⟨x.toArray⟩]:=by rw [← Array.toList_inj]; simpa using e
 subst hc'
 unfold bundle_ParseKey at h
 split at h
 case isFalse=>cases h
 rename_i hlen
 have hsz:(⟨x.toArray⟩:ByteArray).size = x.length:=List.size_toArray
 refine (parsekey_in w ⟨x.toArray⟩ (by rw [hsz]; exact hlen) _ (by simp) r h (fun W p0 p1 p2 d0 d1 d2 b hkb hz=>has_call hl hkb hz) (fun W a b c e hb he=>checkid_call (hl_bel hl hb) he)).mono ?_
 rintro en w' ⟨rfl,hb⟩
 refine ⟨_,rfl,fun E=>?_,hb⟩
 show R E (.tup [.agg [.int .i64 r.1.Node,.int .u64 r.1.Seq,.int .i64 r.1.Off],.int .i64 r.2]) (.tuple #[idVal r.1.Node r.1.Seq r.1.Off,.int .i64 r.2])
 unfold idVal
 simp only [R,RL]
 refine ⟨_,rfl,_,_,rfl,⟨_,rfl,⟨_,_,rfl,rfl,_,_,rfl,rfl,_,_,rfl,rfl,rfl⟩,?_⟩,_,_,rfl,rfl,rfl⟩
 intro y hy; simp at hy; rcases hy with rfl | rfl | rfl <;> rfl
noncomputable def bundle_ParseKey.spec:XSpec Tryd.prog:=XSpec.t 137 [.d .str] [.ID,.i64] bundle_ParseKey (by kernel_rfl) bundle_ParseKey.fn
end Go.Proofs.YtjcbpfhlgebgdaaDoor
