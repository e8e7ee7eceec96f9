import Derived.RegionTactic
import Derived.OwnWalk
import Derived.Test.YtjcbpfhlgebgdaaDoorXGKy
set_option linter.unusedSimpArgs false
set_option linter.unusedVariables false
namespace Go.Proofs.YtjcbpfhlgebgdaaDoor
open Go Go.Eng Go.RowKit Go.X Go.Seq Go.Shelf
def wVal3 (k t:List UInt8):Value:=.agg #[.int .i64 0,.string ⟨k.toArray⟩,.string ⟨t.toArray⟩]
theorem w_fin {Q:Ending→World→Prop} {tmps:Array Value} {B:World} {N:Nat} {k t:List UInt8} (q0:B.cell? ⟨N,0,none⟩ = some (.int .i64 0)) (q1:B.cell? ⟨N,1,none⟩ = some (.string ⟨k.toArray⟩)) (q2:B.cell? ⟨N,2,none⟩ = some (.string ⟨t.toArray⟩)) (t2:tmps[2]?.getD undef = .pointer (some ⟨N,0,none⟩)) (h:Q (.returned (wVal3 k t)) B) :
  bodyPost Tryd.prog Tryd.f131 Q .ret { tmps,defers:=[] } B:=by
 refine bodyPost_ret (v:=wVal3 k t) ?_ rfl h
 simp [results,Tryd.f131,go_sem,t2,q0,q1,q2,wVal3]
def wCells3 (k t:List UInt8):Obj:=.cells #[.int .i64 0,.string ⟨k.toArray⟩,.string ⟨t.toArray⟩] 101 (0,0)
theorem wc3 {W:World} {M:Nat} {k t:List UInt8} (h:W.heap[M]? = some (wCells3 k t)):(W.cell? ⟨M,0,none⟩ = some (.int .i64 0)∧W.cell? ⟨M,1,none⟩ = some (.string ⟨k.toArray⟩)∧W.cell? ⟨M,2,none⟩ = some (.string ⟨t.toArray⟩))∧∀ j,W.frozen? ⟨M,j,none⟩ = false:=by
 unfold wCells3 at h
 refine ⟨by simp [World.cell?,h],fun j=>by simp [World.frozen?,h]⟩
theorem tw_set {N:Nat} {w W:World} (h:Below N w W) {a:Addr} (ha:N ≤ a.block) (v:Value):Below N w (W.setCell a v) :=
 ⟨h.os,h.tape,h.output,by simpa using h.size,fun k hk=>(Below.heap_setCell _ _ _ _ (by omega)).trans (h.block k hk)⟩
def wW (W:World) (N:Nat) (k t:List UInt8):World:=(((W.setCell ⟨N + 1,2,none⟩ (.string ⟨t.toArray⟩)).setCell ⟨N,0,none⟩ (.int .i64 0)).setCell ⟨N,1,none⟩ (.string ⟨k.toArray⟩)).setCell ⟨N,2,none⟩ (.string ⟨t.toArray⟩)
theorem wW_below {N:Nat} {w W:World} (h:Below N w W) (k t:List UInt8):Below N w (wW W N k t):=by
 unfold wW
 exact tw_set (tw_set (tw_set (tw_set h (Nat.le_add_right N 1) _) (Nat.le_refl N) _) (Nat.le_refl N) _) (Nat.le_refl N) _
theorem wW_b {N:Nat} {W:World} {k0 t0:List UInt8} (h:W.heap[N]? = some (wCells3 k0 t0)) (k t:List UInt8):(wW W N k t).heap[N]? = some (wCells3 k t):=by
 unfold wW
 exact heap_setCell_same _ _ 2 _ _ _ (heap_setCell_same _ _ 1 _ _ _ (heap_setCell_same _ _ 0 _ _ _ ((Below.heap_setCell _ _ _ _ (by show N ≠ N + 1; omega)).trans h)))
theorem aw2 {w W1:World} {k:List UInt8} (x1:Below ((w.alloc (wCells3 [] [])).alloc (wCells3 k [])).heap.size ((w.alloc (wCells3 [] [])).alloc (wCells3 k [])) W1) :
  Shut (Below w.heap.size w W1)∧Shut (W1.heap[w.heap.size]? = some (wCells3 [] []))∧((W1.cell? ⟨w.heap.size + 1,0,none⟩ = some (.int .i64 0)∧W1.cell? ⟨w.heap.size + 1,1,none⟩ = some (.string ⟨k.toArray⟩)∧W1.cell? ⟨w.heap.size + 1,2,none⟩ = some (.string ⟨#[]⟩))∧∀ j,W1.frozen? ⟨w.heap.size + 1,j,none⟩ = false) ∧
  ((W1.cell? ⟨w.heap.size,0,none⟩ = some (.int .i64 0)∧W1.cell? ⟨w.heap.size,1,none⟩ = some (.string ⟨#[]⟩)∧W1.cell? ⟨w.heap.size,2,none⟩ = some (.string ⟨#[]⟩))∧∀ j,W1.frozen? ⟨w.heap.size,j,none⟩ = false):=by
 have s1:(w.alloc (wCells3 [] [])).heap.size = w.heap.size + 1:=by simp
 have s2:((w.alloc (wCells3 [] [])).alloc (wCells3 k [])).heap.size = w.heap.size + 1 + 1:=by simp
 have h0:W1.heap[w.heap.size]? = some (wCells3 [] []):=(x1.block _ (by omega)).trans ((Below.heap_alloc _ _ _ (by omega)).trans (ahn w _))
 have h1:W1.heap[w.heap.size + 1]? = some (wCells3 k []):=(x1.block _ (by omega)).trans (by rw [← s1]; exact ahn _ _)
 exact ⟨below_app (((Below.refl _ _).alloc (Nat.le_refl _) _).alloc (by simp) _) (by omega) x1,h0,wc3 h1,wc3 h0⟩
def wWn (W:World) (N:Nat) (k t:List UInt8):World:=(((W.setCell ⟨N + 1 + 1,2,none⟩ (.string ⟨t.toArray⟩)).setCell ⟨N,0,none⟩ (.int .i64 0)).setCell ⟨N,1,none⟩ (.string ⟨k.toArray⟩)).setCell ⟨N,2,none⟩ (.string ⟨t.toArray⟩)
theorem wWn_below {N:Nat} {w W:World} (h:Below N w W) (k t:List UInt8):Below N w (wWn W N k t):=by
 unfold wWn
 exact tw_set (tw_set (tw_set (tw_set h (Nat.le_trans (Nat.le_add_right N 1) (Nat.le_add_right (N + 1) 1)) _) (Nat.le_refl N) _) (Nat.le_refl N) _) (Nat.le_refl N) _
theorem wWn_b {N:Nat} {W:World} {k0 t0:List UInt8} (h:W.heap[N]? = some (wCells3 k0 t0)) (k t:List UInt8):(wWn W N k t).heap[N]? = some (wCells3 k t):=by
 unfold wWn
 exact heap_setCell_same _ _ 2 _ _ _ (heap_setCell_same _ _ 1 _ _ _ (heap_setCell_same _ _ 0 _ _ _ ((Below.heap_setCell _ _ _ _ (by show N ≠ N + 1 + 1; omega)).trans h)))
theorem aw4 {w W1:World} {k:List UInt8} {o2 o4:Obj} (x1:Below ((((w.alloc (wCells3 [] [])).alloc o2).alloc (wCells3 k [])).alloc o4).heap.size ((((w.alloc (wCells3 [] [])).alloc o2).alloc (wCells3 k [])).alloc o4) W1) :
  Shut (Below w.heap.size w W1)∧Shut (W1.heap[w.heap.size]? = some (wCells3 [] []))∧((W1.cell? ⟨w.heap.size + 1 + 1,0,none⟩ = some (.int .i64 0)∧W1.cell? ⟨w.heap.size + 1 + 1,1,none⟩ = some (.string ⟨k.toArray⟩)∧W1.cell? ⟨w.heap.size + 1 + 1,2,none⟩ = some (.string ⟨#[]⟩))∧∀ j,W1.frozen? ⟨w.heap.size + 1 + 1,j,none⟩ = false) ∧
  ((W1.cell? ⟨w.heap.size,0,none⟩ = some (.int .i64 0)∧W1.cell? ⟨w.heap.size,1,none⟩ = some (.string ⟨#[]⟩)∧W1.cell? ⟨w.heap.size,2,none⟩ = some (.string ⟨#[]⟩))∧∀ j,W1.frozen? ⟨w.heap.size,j,none⟩ = false):=by
 have s1:(w.alloc (wCells3 [] [])).heap.size = w.heap.size + 1:=by simp
 have s2:((w.alloc (wCells3 [] [])).alloc o2).heap.size = w.heap.size + 1 + 1:=by simp
 have s3:(((w.alloc (wCells3 [] [])).alloc o2).alloc (wCells3 k [])).heap.size = w.heap.size + 1 + 1 + 1:=by simp
 have s4:((((w.alloc (wCells3 [] [])).alloc o2).alloc (wCells3 k [])).alloc o4).heap.size = w.heap.size + 1 + 1 + 1 + 1:=by simp
 have h0:W1.heap[w.heap.size]? = some (wCells3 [] []):=(x1.block _ (by omega)).trans ((Below.heap_alloc _ _ _ (by omega)).trans ((Below.heap_alloc _ _ _ (by omega)).trans ((Below.heap_alloc _ _ _ (by omega)).trans (ahn w _))))
 have h1:W1.heap[w.heap.size + 1 + 1]? = some (wCells3 k []):=(x1.block _ (by omega)).trans ((Below.heap_alloc _ _ _ (by omega)).trans (by rw [← s2]; exact ahn _ _))
 exact ⟨below_app (((((Below.refl _ _).alloc (Nat.le_refl _) _).alloc (by simp) _).alloc (by simp; omega) _).alloc (by simp; omega) _) (by omega) x1,h0,wc3 h1,wc3 h0⟩
theorem me_tick (n : Int) (W : World) : Sem.run Tryd.prog (method 404 184 (.int .i64 n) "packhorse/trace.key") W = .ok (243, (.int .i64 n)) W := by kernel_rfl
theorem me_node (n : Int) (W : World) : Sem.run Tryd.prog (method 404 185 (.int .i64 n) "packhorse/trace.key") W = .ok (244, (.int .i64 n)) W := by kernel_rfl
theorem me_kind (n : Int) (W : World) : Sem.run Tryd.prog (method 404 186 (.int .i64 n) "packhorse/trace.key") W = .ok (245, (.int .i64 n)) W := by kernel_rfl
theorem me_name (v : Value) (W : World) : Sem.run Tryd.prog (method 404 188 v "packhorse/trace.key") W = .ok (246, v) W := by kernel_rfl
theorem me_other (n : Int) (W : World) : Sem.run Tryd.prog (method 404 189 (.int .i64 n) "packhorse/trace.key") W = .ok (247, (.int .i64 n)) W := by kernel_rfl
def nCells (a b c:Int):Obj:=.cells #[.int .i64 a,.int .u64 b,.int .i64 c] 188 (0,0)
theorem ky_name (a b c:Int) (W:World):Calls Tryd.prog 246 #[(.agg #[.int .i64 a,.int .u64 b,.int .i64 c])] W fun e W'=>e = .returned (.string ⟨([105,100]:List UInt8).toArray⟩)∧W' = W.alloc (nCells a b c):=by
 go_enter Tryd.func246,Tryd.ntmps246
 go_wp2
 go_ret
 exact ⟨rfl,rfl⟩
theorem ky_tick (n:Int) (W:World):Calls Tryd.prog 243 #[(.int .i64 n)] W fun e W'=>e = .returned (.string ⟨([]:List UInt8).toArray⟩)∧W' = W:=by
 go_enter Tryd.func243,Tryd.ntmps243
 go_wp2
 go_ret
 exact ⟨rfl,rfl⟩
theorem ky_node (n:Int) (W:World):Calls Tryd.prog 244 #[(.int .i64 n)] W fun e W'=>e = .returned (.string ⟨([]:List UInt8).toArray⟩)∧W' = W:=by
 go_enter Tryd.func244,Tryd.ntmps244
 go_wp2
 go_ret
 exact ⟨rfl,rfl⟩
theorem ky_other (n:Int) (W:World):Calls Tryd.prog 247 #[(.int .i64 n)] W fun e W'=>e = .returned (.string ⟨([97,116]:List UInt8).toArray⟩)∧W' = W:=by
 go_enter Tryd.func247,Tryd.ntmps247
 go_wp2
 go_ret
 exact ⟨rfl,rfl⟩
theorem ta_tick_tick (n:Int) (W:World):Sem.run Tryd.prog (Instr.typeAssert (.iface 184 (.int .i64 n)) 191 184 true) W = .ok (.tuple #[(.int .i64 n),.bool true]) W:=by kernel_rfl
theorem ta_node_tick (n:Int) (W:World):Sem.run Tryd.prog (Instr.typeAssert (.iface 185 (.int .i64 n)) 191 184 true) W = .ok (.tuple #[(.int .i64 0),.bool false]) W:=by kernel_rfl
theorem ta_node_node (n:Int) (W:World):Sem.run Tryd.prog (Instr.typeAssert (.iface 185 (.int .i64 n)) 191 185 true) W = .ok (.tuple #[(.int .i64 n),.bool true]) W:=by kernel_rfl
theorem ta_kind_tick (n:Int) (W:World):Sem.run Tryd.prog (Instr.typeAssert (.iface 186 (.int .i64 n)) 191 184 true) W = .ok (.tuple #[(.int .i64 0),.bool false]) W:=by kernel_rfl
theorem ta_kind_node (n:Int) (W:World):Sem.run Tryd.prog (Instr.typeAssert (.iface 186 (.int .i64 n)) 191 185 true) W = .ok (.tuple #[(.int .i64 0),.bool false]) W:=by kernel_rfl
theorem ta_kind_kind (n:Int) (W:World):Sem.run Tryd.prog (Instr.typeAssert (.iface 186 (.int .i64 n)) 191 186 true) W = .ok (.tuple #[(.int .i64 n),.bool true]) W:=by kernel_rfl
theorem ta_name_tick (v:Value) (W:World):Sem.run Tryd.prog (Instr.typeAssert (.iface 188 v) 191 184 true) W = .ok (.tuple #[(.int .i64 0),.bool false]) W:=by kernel_rfl
theorem ta_name_node (v:Value) (W:World):Sem.run Tryd.prog (Instr.typeAssert (.iface 188 v) 191 185 true) W = .ok (.tuple #[(.int .i64 0),.bool false]) W:=by kernel_rfl
theorem ta_name_kind (v:Value) (W:World):Sem.run Tryd.prog (Instr.typeAssert (.iface 188 v) 191 186 true) W = .ok (.tuple #[(.int .i64 0),.bool false]) W:=by kernel_rfl
theorem ta_name_name (v:Value) (W:World):Sem.run Tryd.prog (Instr.typeAssert (.iface 188 v) 191 188 true) W = .ok (.tuple #[v,.bool true]) W:=by kernel_rfl
theorem ta_other_tick (n:Int) (W:World):Sem.run Tryd.prog (Instr.typeAssert (.iface 189 (.int .i64 n)) 191 184 true) W = .ok (.tuple #[(.int .i64 0),.bool false]) W:=by kernel_rfl
theorem ta_other_node (n:Int) (W:World):Sem.run Tryd.prog (Instr.typeAssert (.iface 189 (.int .i64 n)) 191 185 true) W = .ok (.tuple #[(.int .i64 0),.bool false]) W:=by kernel_rfl
theorem ta_other_kind (n:Int) (W:World):Sem.run Tryd.prog (Instr.typeAssert (.iface 189 (.int .i64 n)) 191 186 true) W = .ok (.tuple #[(.int .i64 0),.bool false]) W:=by kernel_rfl
theorem ta_other_name (n:Int) (W:World):Sem.run Tryd.prog (Instr.typeAssert (.iface 189 (.int .i64 n)) 191 188 true) W = .ok (.tuple #[(.agg #[.int .i64 0,.int .u64 0,.int .i64 0]),.bool false]) W:=by kernel_rfl
theorem ta_other_other (n:Int) (W:World):Sem.run Tryd.prog (Instr.typeAssert (.iface 189 (.int .i64 n)) 191 189 true) W = .ok (.tuple #[(.int .i64 n),.bool true]) W:=by kernel_rfl
set_option maxRecDepth 20000 in
set_option maxHeartbeats 8000000 in
theorem word_tick (w:World) (n:Int) (t:List UInt8) (ht:t.length ≤ 1000)
  (hI:∀ W,Below w.heap.size w W→Calls Tryd.prog 101 #[.int .i64 n] W fun e W'=>e = .returned (.string ⟨t.toArray⟩)∧Below W.heap.size W W') :
  Calls Tryd.prog 131 #[.iface 184 (.int .i64 n)] w fun e W'=>e = .returned (wVal3 [] t)∧Below w.heap.size w W':=by
 have mixed:Tryd.prog.follows .mixedOrders = true:=by kernel_rfl
 have hm:=me_tick n
 have h0t:=ta_tick_tick n
 have hb2:Shut (∀ o1 o2,Below w.heap.size w ((w.alloc o1).alloc o2)):=fun o1 o2=>((Below.refl _ _).alloc (Nat.le_refl _) _).alloc (by simp) _
 have hb3:Shut (∀ o1 o2 o3,Below w.heap.size w (((w.alloc o1).alloc o2).alloc o3)):=fun o1 o2 o3=>(((Below.refl _ _).alloc (Nat.le_refl _) _).alloc (by simp) _).alloc (by simp; omega) _
 go_enter Tryd.func131,Tryd.ntmps131
 go_wp2_with (first | (go_at_call 243; refine (ky_tick _ _).mono ?_; rintro e W0 ⟨rfl,rfl⟩) | (go_at_call 101; refine (hI _ (hb2.out _ _)).mono ?_; rintro e W1 ⟨rfl,x1⟩; obtain ⟨s1,s2,⟨⟨c0,c1,c2⟩,cf⟩,⟨⟨e0,e1,e2⟩,ef⟩⟩:=aw2 (k:=[]) x1))
 exact w_fin (wc3 (wW_b s2.out [] t)).1.1 (wc3 (wW_b s2.out [] t)).1.2.1 (wc3 (wW_b s2.out [] t)).1.2.2 rfl ⟨rfl,wW_below s1.out _ _⟩
set_option maxRecDepth 20000 in
set_option maxHeartbeats 8000000 in
theorem word_node (w:World) (n:Int) (t:List UInt8) (ht:t.length ≤ 1000)
  (hI:∀ W,Below w.heap.size w W→Calls Tryd.prog 101 #[.int .i64 n] W fun e W'=>e = .returned (.string ⟨t.toArray⟩)∧Below W.heap.size W W') :
  Calls Tryd.prog 131 #[.iface 185 (.int .i64 n)] w fun e W'=>e = .returned (wVal3 [] (110 :: t))∧Below w.heap.size w W':=by
 have mixed:Tryd.prog.follows .mixedOrders = true:=by kernel_rfl
 have hm:=me_node n
 have h0t:=ta_node_tick n; have h1t:=ta_node_node n
 have hb2:Shut (∀ o1 o2,Below w.heap.size w ((w.alloc o1).alloc o2)):=fun o1 o2=>((Below.refl _ _).alloc (Nat.le_refl _) _).alloc (by simp) _
 have hb3:Shut (∀ o1 o2 o3,Below w.heap.size w (((w.alloc o1).alloc o2).alloc o3)):=fun o1 o2 o3=>(((Below.refl _ _).alloc (Nat.le_refl _) _).alloc (by simp) _).alloc (by simp; omega) _
 go_enter Tryd.func131,Tryd.ntmps131
 go_wp2_with (first | (go_at_call 244; refine (ky_node _ _).mono ?_; rintro e W0 ⟨rfl,rfl⟩) | (go_at_call 101; refine (hI _ (hb2.out _ _)).mono ?_; rintro e W1 ⟨rfl,x1⟩; obtain ⟨s1,s2,⟨⟨c0,c1,c2⟩,cf⟩,⟨⟨e0,e1,e2⟩,ef⟩⟩:=aw2 (k:=[]) x1))
 exact w_fin (wc3 (wW_b s2.out [] (110 :: t))).1.1 (wc3 (wW_b s2.out [] (110 :: t))).1.2.1 (wc3 (wW_b s2.out [] (110 :: t))).1.2.2 rfl ⟨rfl,wW_below s1.out _ _⟩
set_option maxRecDepth 20000 in
set_option maxHeartbeats 8000000 in
theorem word_kind (w:World) (n:Int) (t:List UInt8) (ht:t.length ≤ 1000)
  (h0:0 ≤ n) (h1:n < 16) (hz:0 < w.heap.size) (hg:w.cell? ⟨0,n.toNat * 2,none⟩ = some (.string ⟨t.toArray⟩)) :
  Calls Tryd.prog 131 #[.iface 186 (.int .i64 n)] w fun e W'=>e = .returned (wVal3 [] t)∧Below w.heap.size w W':=by
 have mixed:Tryd.prog.follows .mixedOrders = true:=by kernel_rfl
 have hm:=me_kind n
 have h0t:=ta_kind_tick n; have h1t:=ta_kind_node n; have h2t:=ta_kind_kind n
 have hb2:Shut (∀ o1 o2,Below w.heap.size w ((w.alloc o1).alloc o2)):=fun o1 o2=>((Below.refl _ _).alloc (Nat.le_refl _) _).alloc (by simp) _
 have hb3:Shut (∀ o1 o2 o3,Below w.heap.size w (((w.alloc o1).alloc o2).alloc o3)):=fun o1 o2 o3=>(((Below.refl _ _).alloc (Nat.le_refl _) _).alloc (by simp) _).alloc (by simp; omega) _
 go_enter Tryd.func131,Tryd.ntmps131
 have hz1:0 < w.heap.size + 1:=by omega
 go_wp2
 exact w_fin (N:=w.heap.size) (k:=[]) (t:=t) (by simp) (by simp) (by simp) rfl ⟨rfl,hb2.out _ _⟩
set_option maxRecDepth 20000 in
set_option maxHeartbeats 8000000 in
theorem word_name (w:World) (a b c:Int) (t:List UInt8) (ht:t.length ≤ 1000)
  (hK:∀ W,Below w.heap.size w W→Calls Tryd.prog 138 #[(.agg #[.int .i64 a,.int .u64 b,.int .i64 c])] W fun e W'=>e = .returned (.tuple #[.string ⟨t.toArray⟩,.int .i64 0])∧Below W.heap.size W W') :
  Calls Tryd.prog 131 #[.iface 188 (.agg #[.int .i64 a,.int .u64 b,.int .i64 c])] w fun e W'=>e = .returned (wVal3 [105,100] t)∧Below w.heap.size w W':=by
 have mixed:Tryd.prog.follows .mixedOrders = true:=by kernel_rfl
 have hm:=me_name (.agg #[.int .i64 a,.int .u64 b,.int .i64 c])
 have h0t:=ta_name_tick (.agg #[.int .i64 a,.int .u64 b,.int .i64 c]); have h1t:=ta_name_node (.agg #[.int .i64 a,.int .u64 b,.int .i64 c]); have h2t:=ta_name_kind (.agg #[.int .i64 a,.int .u64 b,.int .i64 c]); have h3t:=ta_name_name (.agg #[.int .i64 a,.int .u64 b,.int .i64 c])
 have hb2:Shut (∀ o1 o2,Below w.heap.size w ((w.alloc o1).alloc o2)):=fun o1 o2=>((Below.refl _ _).alloc (Nat.le_refl _) _).alloc (by simp) _
 have hb3:Shut (∀ o1 o2 o3,Below w.heap.size w (((w.alloc o1).alloc o2).alloc o3)):=fun o1 o2 o3=>(((Below.refl _ _).alloc (Nat.le_refl _) _).alloc (by simp) _).alloc (by simp; omega) _
 go_enter Tryd.func131,Tryd.ntmps131
 have hb4:Shut (∀ o1 o2 o3 o4,Below w.heap.size w ((((w.alloc o1).alloc o2).alloc o3).alloc o4)):=fun o1 o2 o3 o4=>((((Below.refl _ _).alloc (Nat.le_refl _) _).alloc (by simp) _).alloc (by simp; omega) _).alloc (by simp; omega) _
 go_wp2_with (first | (go_at_call 246; refine (ky_name _ _ _ _).mono ?_; rintro e W0 ⟨rfl,rfl⟩) | (go_at_call 138; refine (hK _ (hb4.out _ _ _ _)).mono ?_; rintro e W1 ⟨rfl,x1⟩; obtain ⟨s1,s2,⟨⟨c0,c1,c2⟩,cf⟩,⟨⟨e0,e1,e2⟩,ef⟩⟩:=aw4 (k:=[105,100]) x1))
 exact w_fin (wc3 (wWn_b s2.out [105,100] t)).1.1 (wc3 (wWn_b s2.out [105,100] t)).1.2.1 (wc3 (wWn_b s2.out [105,100] t)).1.2.2 rfl ⟨rfl,wWn_below s1.out _ _⟩
set_option maxRecDepth 20000 in
set_option maxHeartbeats 8000000 in
theorem word_other (w:World) (n:Int) (t:List UInt8) (ht:t.length ≤ 1000)
  (hI:∀ W,Below w.heap.size w W→Calls Tryd.prog 101 #[.int .i64 n] W fun e W'=>e = .returned (.string ⟨t.toArray⟩)∧Below W.heap.size W W') :
  Calls Tryd.prog 131 #[.iface 189 (.int .i64 n)] w fun e W'=>e = .returned (wVal3 [97,116] t)∧Below w.heap.size w W':=by
 have mixed:Tryd.prog.follows .mixedOrders = true:=by kernel_rfl
 have hm:=me_other n
 have h0t:=ta_other_tick n; have h1t:=ta_other_node n; have h2t:=ta_other_kind n; have h3t:=ta_other_name n; have h4t:=ta_other_other n
 have hb2:Shut (∀ o1 o2,Below w.heap.size w ((w.alloc o1).alloc o2)):=fun o1 o2=>((Below.refl _ _).alloc (Nat.le_refl _) _).alloc (by simp) _
 have hb3:Shut (∀ o1 o2 o3,Below w.heap.size w (((w.alloc o1).alloc o2).alloc o3)):=fun o1 o2 o3=>(((Below.refl _ _).alloc (Nat.le_refl _) _).alloc (by simp) _).alloc (by simp; omega) _
 go_enter Tryd.func131,Tryd.ntmps131
 go_wp2_with (first | (go_at_call 247; refine (ky_other _ _).mono ?_; rintro e W0 ⟨rfl,rfl⟩) | (go_at_call 101; refine (hI _ (hb2.out _ _)).mono ?_; rintro e W1 ⟨rfl,x1⟩; obtain ⟨s1,s2,⟨⟨c0,c1,c2⟩,cf⟩,⟨⟨e0,e1,e2⟩,ef⟩⟩:=aw2 (k:=[97,116]) x1))
 exact w_fin (wc3 (wW_b s2.out [97,116] t)).1.1 (wc3 (wW_b s2.out [97,116] t)).1.2.1 (wc3 (wW_b s2.out [97,116] t)).1.2.2 rfl ⟨rfl,wW_below s1.out _ _⟩
open Go Go.Eng Go.RowKit Go.X Go.Seq Go.Shelf
theorem fnt_call {f:FuncId} {ak:List AK} {rs:List C} {g:tupC (dataOf ak)→Option (tupC rs)} (hg:FnT Tryd.prog f ak rs g) {W:World} {pr:Nat→Nat→Prop} (hl:HL W pr) {x:tupC (dataOf ak)} {r:tupC rs} (h:g x = some r)
  {args:Array Value} (ha:RL ⟨W,pr,fun _=>none⟩ (toVL (buildA ak (reflC _ x))) args.toList) :
  Calls Tryd.prog f args W fun e W'=>∃ v pr',e = .returned v∧R ⟨W',pr',fun _=>none⟩ (resVt rs r) v∧Below W.heap.size W W':=by
 refine (hg x r h W pr (fun _=>none) args hl ha (fun i B h=>by simp at h) (fun i j b h=>by cases h) (fun _ _=>rfl)).mono ?_
 rintro en W' ⟨v,pr',rfl,hr,_,hk⟩
 exact ⟨v,pr',rfl,hr,⟨hk.os,hk.tape,hk.output,hk.size,fun k h=>hk.block k h (fun i e=>by cases e)⟩⟩
theorem itoa_call {w W:World} {pr:Nat→Nat→Prop} (hl:HL w pr) (hb:Below w.heap.size w W) {n:Int} {t:List UInt8} (h:strconv_Itoa n = some t) :
  Calls Tryd.prog 101 #[.int .i64 n] W fun e W'=>e = .returned (.string ⟨t.toArray⟩)∧Below W.heap.size W W':=by
 refine (fnt_call (itoa_fnT Tryd.itoaI pow10_is) (hl_bel hl hb) (x:=n) h (args:=#[.int .i64 n]) (by
  show RL _ [.int .i64 n] [.int .i64 n]
  simp only [RL,R]; exact ⟨_,_,rfl,rfl,rfl⟩)).mono ?_
 rintro e W' ⟨v,pr',rfl,hr,hb'⟩
 change R _ (.str t) v at hr
 simp only [R] at hr
 exact ⟨by rw [hr.1],hb'⟩
theorem key_call {w W:World} {pr:Nat→Nat→Prop} (hl:HL w pr) (hb:Below w.heap.size w W) {x:ID} {t:List UInt8} (h:bundle_Key x = some (t,0)) :
  Calls Tryd.prog 138 #[.agg #[.int .i64 x.Node,.int .u64 x.Seq,.int .i64 x.Off]] W fun e W'=>e = .returned (.tuple #[.string ⟨t.toArray⟩,.int .i64 0])∧Below W.heap.size W W':=by
 refine (fnt_call bundle_Key.fn (hl_bel hl hb) (x:=x) h (args:=#[.agg #[.int .i64 x.Node,.int .u64 x.Seq,.int .i64 x.Off]]) (by
  show RL _ [.agg [.int .i64 x.Node,.int .u64 x.Seq,.int .i64 x.Off]] [.agg #[.int .i64 x.Node,.int .u64 x.Seq,.int .i64 x.Off]]
  simp only [RL,R]
  refine ⟨_,_,rfl,⟨[.int .i64 x.Node,.int .u64 x.Seq,.int .i64 x.Off],rfl,⟨_,_,rfl,rfl,_,_,rfl,rfl,_,_,rfl,rfl,rfl⟩,?_⟩,rfl⟩
  intro y hy; simp at hy; rcases hy with rfl | rfl | rfl <;> rfl)).mono ?_
 rintro e W' ⟨v,pr',rfl,hr,hb'⟩
 change R _ (.tup [.str t,.int .i64 0]) v at hr
 simp only [R,RL] at hr
 obtain ⟨xs,rfl,y,ys,rfl,⟨rfl,_⟩,y2,ys2,rfl,rfl,rfl⟩:=hr
 exact ⟨rfl,hb'⟩
theorem itoa_len {n:Int} {t:List UInt8} (h:strconv_Itoa n = some t):t.length ≤ 1000:=by
 unfold strconv_Itoa itoaX at h
 split at h
 ·rename_i hr
  cases h
  exact Nat.le_trans (Go.Lib.itoa_length_le n hr.1 hr.2) (by decide)
 ·cases h
theorem face_cells {w:World} {pr:Nat→Nat→Prop} (hl:HL w pr) {n:Int} {f:Face} (h:tblA .Face 0 (n.toNat * 2) 2 = some f) :
  w.cell? ⟨0,n.toNat * 2,none⟩ = some (.string ⟨f.word.toArray⟩)∧f.word.length ≤ maxLen:=by
 obtain ⟨vs,q1,q2,q3⟩:=tblA_spec h
 obtain ⟨⟨ty,h1⟩,_⟩:=hl.glob 0 vs q1
 have hlt:n.toNat * 2 < vs.length:=by omega
 have hq:((vs.map constV).drop (n.toNat * 2)).take 2 = [.str f.word,.int .i64 f.uses]:=by
  have:V.agg (((vs.map constV).drop (n.toNat * 2)).take 2) = V.agg [.str f.word,.int .i64 f.uses]:=q3
  injection this
 have h0:(vs.map constV)[n.toNat * 2]? = some (.str f.word):=by
  have:=congrArg (fun l=>l[0]?) hq
  simpa [List.getElem?_take,List.getElem?_drop] using this
 rw [List.getElem?_map,List.getElem?_eq_getElem hlt] at h0
 simp only [Option.map_some,Option.some.injEq] at h0
 have hr:=R_constV ⟨w,pr,fun _=>none⟩ vs[n.toNat * 2]
 rw [h0] at hr
 simp only [R] at hr
 refine ⟨?_,hr.2⟩
 simp only [World.cell?,h1]
 simp [hlt,hr.1]
noncomputable def trace_word:IV→Option Word
 | .int t n =>
  if t = 184 then (strconv_Itoa n).bind fun s=>some ⟨0,[],s⟩
  else if t = 185 then (strconv_Itoa n).bind fun s=>some ⟨0,[],110 :: s⟩
  else if t = 186 then (if 0 ≤ n∧n < 16 then (tblA .Face 0 (n.toNat * 2) 2).bind fun f=>if f.word.length ≤ 1000 then some ⟨0,[],f.word⟩ else none else none)
  else if t = 189 then (strconv_Itoa n).bind fun s=>some ⟨0,[97,116],s⟩
  else none
 | .id t x=>if t = 188 then (bundle_Key x).bind fun r=>if r.2 = 0∧r.1.length ≤ 1000 then some ⟨0,[105,100],r.1⟩ else none else none
theorem w_res (E:Env) {k t:List UInt8} (hk:k.length ≤ 1000) (ht:t.length ≤ 1001):R E (resVt [.Word] (⟨0,k,t⟩:Word)) (wVal3 k t):=by
 show R E (.agg [.int .i64 0,.str k,.str t]) (.agg #[.int .i64 0,.string ⟨k.toArray⟩,.string ⟨t.toArray⟩])
 simp only [R,RL]
 refine ⟨_,rfl,⟨_,_,rfl,rfl,_,_,rfl,⟨rfl,by unfold maxLen; omega⟩,_,_,rfl,⟨rfl,by unfold maxLen; omega⟩,rfl⟩,?_⟩
 intro y hy; simp at hy; rcases hy with rfl | rfl | rfl <;> rfl
set_option maxRecDepth 20000 in
set_option maxHeartbeats 4000000 in
theorem trace_word.fn:FnT Tryd.prog 131 [.d .iv] [.Word] trace_word:=by
 intro (x:IV) r h
 refine fn_below fun w pr lam cargs hl hargs=>?_
 have hz:0 < w.heap.size:=by
  obtain ⟨⟨ty,h1⟩,_⟩:=hl.glob 0 G1 rfl
  exact (Array.getElem?_eq_some_iff.1 h1).1
 cases x with
 | int t n =>
  have hc:cargs = #[.iface t (.int .i64 n)]:=by
   rw [← Array.toList_inj]
   have:RL ⟨w,pr,lam⟩ [.iface t (.int .i64 n)] cargs.toList:=hargs
   simp only [RL,R] at this
   obtain ⟨y,ys,e,⟨z,rfl,rfl⟩,rfl⟩:=this
   exact e
  subst hc
  unfold trace_word at h
  dsimp only at h
  split at h
  ·rename_i ht; subst ht
   obtain ⟨s,hs,h⟩:=bind_some h
   cases h
   refine (word_tick w n s (itoa_len hs) fun W hb=>itoa_call hl hb hs).mono ?_
   rintro e W' ⟨rfl,hb⟩
   exact ⟨_,rfl,fun E=>w_res E (by simp) (by have:=itoa_len hs; omega),hb⟩
  split at h
  ·rename_i ht; subst ht
   obtain ⟨s,hs,h⟩:=bind_some h
   cases h
   refine (word_node w n s (itoa_len hs) fun W hb=>itoa_call hl hb hs).mono ?_
   rintro e W' ⟨rfl,hb⟩
   exact ⟨_,rfl,fun E=>w_res E (by simp) (by have:=itoa_len hs; simp; omega),hb⟩
  split at h
  ·rename_i ht; subst ht
   split at h
   case isFalse=>cases h
   rename_i hn
   obtain ⟨f,hf,h⟩:=bind_some h
   split at h
   case isFalse=>cases h
   rename_i hlen
   cases h
   refine (word_kind w n f.word hlen hn.1 hn.2 hz (face_cells hl hf).1).mono ?_
   rintro e W' ⟨rfl,hb⟩
   exact ⟨_,rfl,fun E=>w_res E (by simp) (by omega),hb⟩
  split at h
  ·rename_i ht; subst ht
   obtain ⟨s,hs,h⟩:=bind_some h
   cases h
   refine (word_other w n s (itoa_len hs) fun W hb=>itoa_call hl hb hs).mono ?_
   rintro e W' ⟨rfl,hb⟩
   exact ⟨_,rfl,fun E=>w_res E (by simp) (by have:=itoa_len hs; omega),hb⟩
  ·cases h
 | id t x =>
  obtain ⟨a,b,c⟩:=x
  have hc:cargs = #[.iface t (.agg #[.int .i64 a,.int .u64 b,.int .i64 c])]:=by
   rw [← Array.toList_inj]
   have:RL ⟨w,pr,lam⟩ [.iface t (.agg [.int .i64 a,.int .u64 b,.int .i64 c])] cargs.toList:=hargs
   simp only [RL,R] at this
   obtain ⟨y,ys,e,⟨z,rfl,xs,rfl,⟨y1,ys1,rfl,rfl,y2,ys2,rfl,rfl,y3,ys3,rfl,rfl,rfl⟩,_⟩,rfl⟩:=this
   exact e
  subst hc
  unfold trace_word at h
  dsimp only at h
  split at h
  case isFalse=>cases h
  rename_i ht; subst ht
  obtain ⟨s,hs,h⟩:=bind_some h
  obtain ⟨s,e0⟩:=s
  split at h
  case isFalse=>cases h
  rename_i hr
  obtain ⟨he,hlen⟩:=hr
  dsimp only at he hlen
  subst he
  cases h
  have hk:∀ W,Below w.heap.size w W→Calls Tryd.prog 138 #[(.agg #[.int .i64 a,.int .u64 b,.int .i64 c])] W fun e W'=>e = .returned (.tuple #[.string ⟨s.toArray⟩,.int .i64 0])∧Below W.heap.size W W':=fun W hb=>key_call (x:=⟨a,b,c⟩) hl hb hs
  refine (word_name w a b c s hlen hk).mono ?_
  rintro e W' ⟨rfl,hb⟩
  exact ⟨_,rfl,fun E=>w_res E (by simp) (Nat.le_trans hlen (by omega)),hb⟩
noncomputable def trace_word.spec:XSpec Tryd.prog:=XSpec.t 131 [.d .iv] [.Word] trace_word (by kernel_rfl) trace_word.fn
end Go.Proofs.YtjcbpfhlgebgdaaDoor
