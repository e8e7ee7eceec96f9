import Derived.RegionTactic
import Derived.OwnWalk
import Derived.Test.YtjcbpfhlgebgdaaGreatDoorXGKy
set_option linter.unusedSimpArgs false
set_option linter.unusedVariables false
namespace Go.Proofs.YtjcbpfhlgebgdaaGreatDoor
open Go Go.Eng Go.RowKit Go.X Go.Seq Go.Shelf
def zd6 (k t:List UInt8):Value:=.agg #[.int .i64 0,.string ⟨k.toArray⟩,.string ⟨t.toArray⟩]
theorem zmv {Q:Ending->World->Prop} {tmps:Array Value} {B:World} {N:Nat} {k t:List UInt8} (q0:B.cell? ⟨N,0,none⟩ = some (.int .i64 0)) (q1:B.cell? ⟨N,1,none⟩ = some (.string ⟨k.toArray⟩)) (q2:B.cell? ⟨N,2,none⟩ = some (.string ⟨t.toArray⟩)) (t2:tmps[2]?.getD undef = .pointer (some ⟨N,0,none⟩)) (h:Q (.returned (zd6 k t)) B) :
  bodyPost Tryz.prog Tryz.f56 Q .ret { tmps,defers:=[] } B:=by
 refine bodyPost_ret (v:=zd6 k t) ?_ rfl h
 simp [results,Tryz.f56,go_sem,t2,q0,q1,q2,zd6]
def yW (k t:List UInt8):Obj:=.cells #[.int .i64 0,.string ⟨k.toArray⟩,.string ⟨t.toArray⟩] 57 (0,0)
theorem wc3 {W:World} {M:Nat} {k t:List UInt8} (h:W.heap[M]? = some (yW k t)):(W.cell? ⟨M,0,none⟩ = some (.int .i64 0)/\W.cell? ⟨M,1,none⟩ = some (.string ⟨k.toArray⟩)/\W.cell? ⟨M,2,none⟩ = some (.string ⟨t.toArray⟩))/\∀ j,W.frozen? ⟨M,j,none⟩ = false:=by
 unfold yW at h
 refine ⟨by simp [World.cell?,h],fun j=>by simp [World.frozen?,h]⟩
theorem zcl {N:Nat} {w W:World} (h:Below N w W) {a:Addr} (ha:N <= a.block) (v:Value):Below N w (W.setCell a v) :=
 ⟨h.os,h.tape,h.output,by simpa using h.size,fun k hk=>(Below.heap_setCell _ _ _ _ (by omega)).trans (h.block k hk)⟩
def wW (W:World) (N:Nat) (k t:List UInt8):World:=(((W.setCell ⟨N + 1,2,none⟩ (.string ⟨t.toArray⟩)).setCell ⟨N,0,none⟩ (.int .i64 0)).setCell ⟨N,1,none⟩ (.string ⟨k.toArray⟩)).setCell ⟨N,2,none⟩ (.string ⟨t.toArray⟩)
theorem zhF {N:Nat} {w W:World} (h:Below N w W) (k t:List UInt8):Below N w (wW W N k t):=by
 unfold wW
 exact zcl (zcl (zcl (zcl h (Nat.le_add_right N 1) _) (Nat.le_refl N) _) (Nat.le_refl N) _) (Nat.le_refl N) _
theorem zkB {N:Nat} {W:World} {k0 t0:List UInt8} (h:W.heap[N]? = some (yW k0 t0)) (k t:List UInt8):(wW W N k t).heap[N]? = some (yW k t):=by
 unfold wW
 exact heap_setCell_same _ _ 2 _ _ _ (heap_setCell_same _ _ 1 _ _ _ (heap_setCell_same _ _ 0 _ _ _ ((Below.heap_setCell _ _ _ _ (by show N ≠ N + 1; omega)).trans h)))
theorem aw2 {w W1:World} {k:List UInt8} (x1:Below ((w.alloc (yW [] [])).alloc (yW k [])).heap.size ((w.alloc (yW [] [])).alloc (yW k [])) W1) :
  Shut (Below w.heap.size w W1)/\Shut (W1.heap[w.heap.size]? = some (yW [] []))/\((W1.cell? ⟨w.heap.size + 1,0,none⟩ = some (.int .i64 0)/\W1.cell? ⟨w.heap.size + 1,1,none⟩ = some (.string ⟨k.toArray⟩)/\W1.cell? ⟨w.heap.size + 1,2,none⟩ = some (.string ⟨#[]⟩))/\∀ j,W1.frozen? ⟨w.heap.size + 1,j,none⟩ = false) /\
  ((W1.cell? ⟨w.heap.size,0,none⟩ = some (.int .i64 0)/\W1.cell? ⟨w.heap.size,1,none⟩ = some (.string ⟨#[]⟩)/\W1.cell? ⟨w.heap.size,2,none⟩ = some (.string ⟨#[]⟩))/\∀ j,W1.frozen? ⟨w.heap.size,j,none⟩ = false):=by
 have s1:(w.alloc (yW [] [])).heap.size = w.heap.size + 1:=by simp
 have s2:((w.alloc (yW [] [])).alloc (yW k [])).heap.size = w.heap.size + 1 + 1:=by simp
 have h0:W1.heap[w.heap.size]? = some (yW [] []):=(x1.block _ (by omega)).trans ((Below.heap_alloc _ _ _ (by omega)).trans (ahn w _))
 have h1:W1.heap[w.heap.size + 1]? = some (yW k []):=(x1.block _ (by omega)).trans (by rw [<- s1]; exact ahn _ _)
 exact ⟨Qr (((Below.refl _ _).alloc (Nat.le_refl _) _).alloc (by simp) _) (by omega) x1,h0,wc3 h1,wc3 h0⟩
def wWn (W:World) (N:Nat) (k t:List UInt8):World:=(((W.setCell ⟨N + 1 + 1,2,none⟩ (.string ⟨t.toArray⟩)).setCell ⟨N,0,none⟩ (.int .i64 0)).setCell ⟨N,1,none⟩ (.string ⟨k.toArray⟩)).setCell ⟨N,2,none⟩ (.string ⟨t.toArray⟩)
theorem zqj {N:Nat} {w W:World} (h:Below N w W) (k t:List UInt8):Below N w (wWn W N k t):=by
 unfold wWn
 exact zcl (zcl (zcl (zcl h (Nat.le_trans (Nat.le_add_right N 1) (Nat.le_add_right (N + 1) 1)) _) (Nat.le_refl N) _) (Nat.le_refl N) _) (Nat.le_refl N) _
theorem zsj {N:Nat} {W:World} {k0 t0:List UInt8} (h:W.heap[N]? = some (yW k0 t0)) (k t:List UInt8):(wWn W N k t).heap[N]? = some (yW k t):=by
 unfold wWn
 exact heap_setCell_same _ _ 2 _ _ _ (heap_setCell_same _ _ 1 _ _ _ (heap_setCell_same _ _ 0 _ _ _ ((Below.heap_setCell _ _ _ _ (by show N ≠ N + 1 + 1; omega)).trans h)))
theorem aw4 {w W1:World} {k:List UInt8} {o2 o4:Obj} (x1:Below ((((w.alloc (yW [] [])).alloc o2).alloc (yW k [])).alloc o4).heap.size ((((w.alloc (yW [] [])).alloc o2).alloc (yW k [])).alloc o4) W1) :
  Shut (Below w.heap.size w W1)/\Shut (W1.heap[w.heap.size]? = some (yW [] []))/\((W1.cell? ⟨w.heap.size + 1 + 1,0,none⟩ = some (.int .i64 0)/\W1.cell? ⟨w.heap.size + 1 + 1,1,none⟩ = some (.string ⟨k.toArray⟩)/\W1.cell? ⟨w.heap.size + 1 + 1,2,none⟩ = some (.string ⟨#[]⟩))/\∀ j,W1.frozen? ⟨w.heap.size + 1 + 1,j,none⟩ = false) /\
  ((W1.cell? ⟨w.heap.size,0,none⟩ = some (.int .i64 0)/\W1.cell? ⟨w.heap.size,1,none⟩ = some (.string ⟨#[]⟩)/\W1.cell? ⟨w.heap.size,2,none⟩ = some (.string ⟨#[]⟩))/\∀ j,W1.frozen? ⟨w.heap.size,j,none⟩ = false):=by
 have s1:(w.alloc (yW [] [])).heap.size = w.heap.size + 1:=by simp
 have s2:((w.alloc (yW [] [])).alloc o2).heap.size = w.heap.size + 1 + 1:=by simp
 have s3:(((w.alloc (yW [] [])).alloc o2).alloc (yW k [])).heap.size = w.heap.size + 1 + 1 + 1:=by simp
 have s4:((((w.alloc (yW [] [])).alloc o2).alloc (yW k [])).alloc o4).heap.size = w.heap.size + 1 + 1 + 1 + 1:=by simp
 have h0:W1.heap[w.heap.size]? = some (yW [] []):=(x1.block _ (by omega)).trans ((Below.heap_alloc _ _ _ (by omega)).trans ((Below.heap_alloc _ _ _ (by omega)).trans ((Below.heap_alloc _ _ _ (by omega)).trans (ahn w _))))
 have h1:W1.heap[w.heap.size + 1 + 1]? = some (yW k []):=(x1.block _ (by omega)).trans ((Below.heap_alloc _ _ _ (by omega)).trans (by rw [<- s2]; exact ahn _ _))
 exact ⟨Qr (((((Below.refl _ _).alloc (Nat.le_refl _) _).alloc (by simp) _).alloc (by simp; omega) _).alloc (by simp; omega) _) (by omega) x1,h0,wc3 h1,wc3 h0⟩
theorem ztx (n : Int) (W : World) : Sem.run Tryz.prog (method 338 107 (.int .i64 n) "packhorse/trace.key") W = .ok (179, (.int .i64 n)) W := by kernel_rfl
theorem zty (n : Int) (W : World) : Sem.run Tryz.prog (method 338 108 (.int .i64 n) "packhorse/trace.key") W = .ok (180, (.int .i64 n)) W := by kernel_rfl
theorem ztz (n : Int) (W : World) : Sem.run Tryz.prog (method 338 109 (.int .i64 n) "packhorse/trace.key") W = .ok (181, (.int .i64 n)) W := by kernel_rfl
theorem ztA (v : Value) (W : World) : Sem.run Tryz.prog (method 338 111 v "packhorse/trace.key") W = .ok (182, v) W := by kernel_rfl
theorem zsk (n : Int) (W : World) : Sem.run Tryz.prog (method 338 112 (.int .i64 n) "packhorse/trace.key") W = .ok (183, (.int .i64 n)) W := by kernel_rfl
def zuP (a b c:Int):Obj:=.cells #[.int .i64 a,.int .u64 b,.int .i64 c] 111 (0,0)
theorem ztB (a b c:Int) (W:World):Calls Tryz.prog 182 #[(.agg #[.int .i64 a,.int .u64 b,.int .i64 c])] W fun e W'=>e = .returned (.string ⟨([105,100]:List UInt8).toArray⟩)/\W' = W.alloc (zuP a b c):=by
 go_enter Tryz.func182,Tryz.ntmps182
 go_wp2
 go_ret
 exact ⟨rfl,rfl⟩
theorem ztC (n:Int) (W:World):Calls Tryz.prog 179 #[(.int .i64 n)] W fun e W'=>e = .returned (.string ⟨([]:List UInt8).toArray⟩)/\W' = W:=by
 go_enter Tryz.func179,Tryz.ntmps179
 go_wp2
 go_ret
 exact ⟨rfl,rfl⟩
theorem ztD (n:Int) (W:World):Calls Tryz.prog 180 #[(.int .i64 n)] W fun e W'=>e = .returned (.string ⟨([]:List UInt8).toArray⟩)/\W' = W:=by
 go_enter Tryz.func180,Tryz.ntmps180
 go_wp2
 go_ret
 exact ⟨rfl,rfl⟩
theorem zsl (n:Int) (W:World):Calls Tryz.prog 183 #[(.int .i64 n)] W fun e W'=>e = .returned (.string ⟨([97,116]:List UInt8).toArray⟩)/\W' = W:=by
 go_enter Tryz.func183,Tryz.ntmps183
 go_wp2
 go_ret
 exact ⟨rfl,rfl⟩
theorem zkC (n:Int) (W:World):Sem.run Tryz.prog (Instr.typeAssert (.iface 107 (.int .i64 n)) 114 107 true) W = .ok (.tuple #[(.int .i64 n),.bool true]) W:=by kernel_rfl
theorem zkD (n:Int) (W:World):Sem.run Tryz.prog (Instr.typeAssert (.iface 108 (.int .i64 n)) 114 107 true) W = .ok (.tuple #[(.int .i64 0),.bool false]) W:=by kernel_rfl
theorem zkE (n:Int) (W:World):Sem.run Tryz.prog (Instr.typeAssert (.iface 108 (.int .i64 n)) 114 108 true) W = .ok (.tuple #[(.int .i64 n),.bool true]) W:=by kernel_rfl
theorem zkF (n:Int) (W:World):Sem.run Tryz.prog (Instr.typeAssert (.iface 109 (.int .i64 n)) 114 107 true) W = .ok (.tuple #[(.int .i64 0),.bool false]) W:=by kernel_rfl
theorem zkG (n:Int) (W:World):Sem.run Tryz.prog (Instr.typeAssert (.iface 109 (.int .i64 n)) 114 108 true) W = .ok (.tuple #[(.int .i64 0),.bool false]) W:=by kernel_rfl
theorem zkH (n:Int) (W:World):Sem.run Tryz.prog (Instr.typeAssert (.iface 109 (.int .i64 n)) 114 109 true) W = .ok (.tuple #[(.int .i64 n),.bool true]) W:=by kernel_rfl
theorem zkI (v:Value) (W:World):Sem.run Tryz.prog (Instr.typeAssert (.iface 111 v) 114 107 true) W = .ok (.tuple #[(.int .i64 0),.bool false]) W:=by kernel_rfl
theorem zkJ (v:Value) (W:World):Sem.run Tryz.prog (Instr.typeAssert (.iface 111 v) 114 108 true) W = .ok (.tuple #[(.int .i64 0),.bool false]) W:=by kernel_rfl
theorem zkK (v:Value) (W:World):Sem.run Tryz.prog (Instr.typeAssert (.iface 111 v) 114 109 true) W = .ok (.tuple #[(.int .i64 0),.bool false]) W:=by kernel_rfl
theorem zkL (v:Value) (W:World):Sem.run Tryz.prog (Instr.typeAssert (.iface 111 v) 114 111 true) W = .ok (.tuple #[v,.bool true]) W:=by kernel_rfl
theorem zid (n:Int) (W:World):Sem.run Tryz.prog (Instr.typeAssert (.iface 112 (.int .i64 n)) 114 107 true) W = .ok (.tuple #[(.int .i64 0),.bool false]) W:=by kernel_rfl
theorem zie (n:Int) (W:World):Sem.run Tryz.prog (Instr.typeAssert (.iface 112 (.int .i64 n)) 114 108 true) W = .ok (.tuple #[(.int .i64 0),.bool false]) W:=by kernel_rfl
theorem zif (n:Int) (W:World):Sem.run Tryz.prog (Instr.typeAssert (.iface 112 (.int .i64 n)) 114 109 true) W = .ok (.tuple #[(.int .i64 0),.bool false]) W:=by kernel_rfl
theorem zig (n:Int) (W:World):Sem.run Tryz.prog (Instr.typeAssert (.iface 112 (.int .i64 n)) 114 111 true) W = .ok (.tuple #[(.agg #[.int .i64 0,.int .u64 0,.int .i64 0]),.bool false]) W:=by kernel_rfl
theorem zhG (n:Int) (W:World):Sem.run Tryz.prog (Instr.typeAssert (.iface 112 (.int .i64 n)) 114 112 true) W = .ok (.tuple #[(.int .i64 n),.bool true]) W:=by kernel_rfl
set_option maxRecDepth 20000 in
set_option maxHeartbeats 8000000 in
theorem zqk (w:World) (n:Int) (t:List UInt8) (ht:t.length <= 1000)
  (hI:∀ W,Below w.heap.size w W->Calls Tryz.prog 44 #[.int .i64 n] W fun e W'=>e = .returned (.string ⟨t.toArray⟩)/\Below W.heap.size W W') :
  Calls Tryz.prog 56 #[.iface 107 (.int .i64 n)] w fun e W'=>e = .returned (zd6 [] t)/\Below w.heap.size w W':=by
 have mixed:Tryz.prog.follows .mixedOrders = true:=by kernel_rfl
 have hm:=ztx n
 have h0t:=zkC n
 have hb2:Shut (∀ o1 o2,Below w.heap.size w ((w.alloc o1).alloc o2)):=fun o1 o2=>((Below.refl _ _).alloc (Nat.le_refl _) _).alloc (by simp) _
 have hb3:Shut (∀ o1 o2 o3,Below w.heap.size w (((w.alloc o1).alloc o2).alloc o3)):=fun o1 o2 o3=>(((Below.refl _ _).alloc (Nat.le_refl _) _).alloc (by simp) _).alloc (by simp; omega) _
 go_enter Tryz.func56,Tryz.ntmps56
 go_wp2_with (first | (go_at_call 179; refine (ztC _ _).mono ?_; rintro e W0 ⟨rfl,rfl⟩) | (go_at_call 44; refine (hI _ (hb2.out _ _)).mono ?_; rintro e W1 ⟨rfl,x1⟩; obtain ⟨s1,s2,⟨⟨c0,c1,c2⟩,cf⟩,⟨⟨e0,e1,e2⟩,ef⟩⟩:=aw2 (k:=[]) x1))
 exact zmv (wc3 (zkB s2.out [] t)).1.1 (wc3 (zkB s2.out [] t)).1.2.1 (wc3 (zkB s2.out [] t)).1.2.2 rfl ⟨rfl,zhF s1.out _ _⟩
set_option maxRecDepth 20000 in
set_option maxHeartbeats 8000000 in
theorem zql (w:World) (n:Int) (t:List UInt8) (ht:t.length <= 1000)
  (hI:∀ W,Below w.heap.size w W->Calls Tryz.prog 44 #[.int .i64 n] W fun e W'=>e = .returned (.string ⟨t.toArray⟩)/\Below W.heap.size W W') :
  Calls Tryz.prog 56 #[.iface 108 (.int .i64 n)] w fun e W'=>e = .returned (zd6 [] (110 :: t))/\Below w.heap.size w W':=by
 have mixed:Tryz.prog.follows .mixedOrders = true:=by kernel_rfl
 have hm:=zty n
 have h0t:=zkD n; have h1t:=zkE n
 have hb2:Shut (∀ o1 o2,Below w.heap.size w ((w.alloc o1).alloc o2)):=fun o1 o2=>((Below.refl _ _).alloc (Nat.le_refl _) _).alloc (by simp) _
 have hb3:Shut (∀ o1 o2 o3,Below w.heap.size w (((w.alloc o1).alloc o2).alloc o3)):=fun o1 o2 o3=>(((Below.refl _ _).alloc (Nat.le_refl _) _).alloc (by simp) _).alloc (by simp; omega) _
 go_enter Tryz.func56,Tryz.ntmps56
 go_wp2_with (first | (go_at_call 180; refine (ztD _ _).mono ?_; rintro e W0 ⟨rfl,rfl⟩) | (go_at_call 44; refine (hI _ (hb2.out _ _)).mono ?_; rintro e W1 ⟨rfl,x1⟩; obtain ⟨s1,s2,⟨⟨c0,c1,c2⟩,cf⟩,⟨⟨e0,e1,e2⟩,ef⟩⟩:=aw2 (k:=[]) x1))
 exact zmv (wc3 (zkB s2.out [] (110 :: t))).1.1 (wc3 (zkB s2.out [] (110 :: t))).1.2.1 (wc3 (zkB s2.out [] (110 :: t))).1.2.2 rfl ⟨rfl,zhF s1.out _ _⟩
set_option maxRecDepth 20000 in
set_option maxHeartbeats 8000000 in
theorem zqm (w:World) (n:Int) (t:List UInt8) (ht:t.length <= 1000)
  (h0:0 <= n) (h1:n < 16) (hz:0 < w.heap.size) (hg:w.cell? ⟨0,n.toNat * 2,none⟩ = some (.string ⟨t.toArray⟩)) :
  Calls Tryz.prog 56 #[.iface 109 (.int .i64 n)] w fun e W'=>e = .returned (zd6 [] t)/\Below w.heap.size w W':=by
 have mixed:Tryz.prog.follows .mixedOrders = true:=by kernel_rfl
 have hm:=ztz n
 have h0t:=zkF n; have h1t:=zkG n; have h2t:=zkH n
 have hb2:Shut (∀ o1 o2,Below w.heap.size w ((w.alloc o1).alloc o2)):=fun o1 o2=>((Below.refl _ _).alloc (Nat.le_refl _) _).alloc (by simp) _
 have hb3:Shut (∀ o1 o2 o3,Below w.heap.size w (((w.alloc o1).alloc o2).alloc o3)):=fun o1 o2 o3=>(((Below.refl _ _).alloc (Nat.le_refl _) _).alloc (by simp) _).alloc (by simp; omega) _
 go_enter Tryz.func56,Tryz.ntmps56
 have hz1:0 < w.heap.size + 1:=by omega
 go_wp2
 exact zmv (N:=w.heap.size) (k:=[]) (t:=t) (by simp) (by simp) (by simp) rfl ⟨rfl,hb2.out _ _⟩
set_option maxRecDepth 20000 in
set_option maxHeartbeats 8000000 in
theorem zqn (w:World) (a b c:Int) (t:List UInt8) (ht:t.length <= 1000)
  (hK:∀ W,Below w.heap.size w W->Calls Tryz.prog 43 #[(.agg #[.int .i64 a,.int .u64 b,.int .i64 c])] W fun e W'=>e = .returned (.tuple #[.string ⟨t.toArray⟩,.int .i64 0])/\Below W.heap.size W W') :
  Calls Tryz.prog 56 #[.iface 111 (.agg #[.int .i64 a,.int .u64 b,.int .i64 c])] w fun e W'=>e = .returned (zd6 [105,100] t)/\Below w.heap.size w W':=by
 have mixed:Tryz.prog.follows .mixedOrders = true:=by kernel_rfl
 have hm:=ztA (.agg #[.int .i64 a,.int .u64 b,.int .i64 c])
 have h0t:=zkI (.agg #[.int .i64 a,.int .u64 b,.int .i64 c]); have h1t:=zkJ (.agg #[.int .i64 a,.int .u64 b,.int .i64 c]); have h2t:=zkK (.agg #[.int .i64 a,.int .u64 b,.int .i64 c]); have h3t:=zkL (.agg #[.int .i64 a,.int .u64 b,.int .i64 c])
 have hb2:Shut (∀ o1 o2,Below w.heap.size w ((w.alloc o1).alloc o2)):=fun o1 o2=>((Below.refl _ _).alloc (Nat.le_refl _) _).alloc (by simp) _
 have hb3:Shut (∀ o1 o2 o3,Below w.heap.size w (((w.alloc o1).alloc o2).alloc o3)):=fun o1 o2 o3=>(((Below.refl _ _).alloc (Nat.le_refl _) _).alloc (by simp) _).alloc (by simp; omega) _
 go_enter Tryz.func56,Tryz.ntmps56
 have hb4:Shut (∀ o1 o2 o3 o4,Below w.heap.size w ((((w.alloc o1).alloc o2).alloc o3).alloc o4)):=fun o1 o2 o3 o4=>((((Below.refl _ _).alloc (Nat.le_refl _) _).alloc (by simp) _).alloc (by simp; omega) _).alloc (by simp; omega) _
 go_wp2_with (first | (go_at_call 182; refine (ztB _ _ _ _).mono ?_; rintro e W0 ⟨rfl,rfl⟩) | (go_at_call 43; refine (hK _ (hb4.out _ _ _ _)).mono ?_; rintro e W1 ⟨rfl,x1⟩; obtain ⟨s1,s2,⟨⟨c0,c1,c2⟩,cf⟩,⟨⟨e0,e1,e2⟩,ef⟩⟩:=aw4 (k:=[105,100]) x1))
 exact zmv (wc3 (zsj s2.out [105,100] t)).1.1 (wc3 (zsj s2.out [105,100] t)).1.2.1 (wc3 (zsj s2.out [105,100] t)).1.2.2 rfl ⟨rfl,zqj s1.out _ _⟩
set_option maxRecDepth 20000 in
set_option maxHeartbeats 8000000 in
theorem zn4 (w:World) (n:Int) (t:List UInt8) (ht:t.length <= 1000)
  (hI:∀ W,Below w.heap.size w W->Calls Tryz.prog 44 #[.int .i64 n] W fun e W'=>e = .returned (.string ⟨t.toArray⟩)/\Below W.heap.size W W') :
  Calls Tryz.prog 56 #[.iface 112 (.int .i64 n)] w fun e W'=>e = .returned (zd6 [97,116] t)/\Below w.heap.size w W':=by
 have mixed:Tryz.prog.follows .mixedOrders = true:=by kernel_rfl
 have hm:=zsk n
 have h0t:=zid n; have h1t:=zie n; have h2t:=zif n; have h3t:=zig n; have h4t:=zhG n
 have hb2:Shut (∀ o1 o2,Below w.heap.size w ((w.alloc o1).alloc o2)):=fun o1 o2=>((Below.refl _ _).alloc (Nat.le_refl _) _).alloc (by simp) _
 have hb3:Shut (∀ o1 o2 o3,Below w.heap.size w (((w.alloc o1).alloc o2).alloc o3)):=fun o1 o2 o3=>(((Below.refl _ _).alloc (Nat.le_refl _) _).alloc (by simp) _).alloc (by simp; omega) _
 go_enter Tryz.func56,Tryz.ntmps56
 go_wp2_with (first | (go_at_call 183; refine (zsl _ _).mono ?_; rintro e W0 ⟨rfl,rfl⟩) | (go_at_call 44; refine (hI _ (hb2.out _ _)).mono ?_; rintro e W1 ⟨rfl,x1⟩; obtain ⟨s1,s2,⟨⟨c0,c1,c2⟩,cf⟩,⟨⟨e0,e1,e2⟩,ef⟩⟩:=aw2 (k:=[97,116]) x1))
 exact zmv (wc3 (zkB s2.out [97,116] t)).1.1 (wc3 (zkB s2.out [97,116] t)).1.2.1 (wc3 (zkB s2.out [97,116] t)).1.2.2 rfl ⟨rfl,zhF s1.out _ _⟩
open Go Go.Eng Go.RowKit Go.X Go.Seq Go.Shelf
theorem zhH {f:FuncId} {ak:List AK} {rs:List C} {g:Zk (qR ak)->Option (Zk rs)} (hg:FnT Tryz.prog f ak rs g) {W:World} {pr:Nat->Nat->Prop} (hl:HL W pr) {x:Zk (qR ak)} {r:Zk rs} (h:g x = some r)
  {args:Array Value} (ha:RL ⟨W,pr,fun _=>none⟩ (zj (yH ak (ZA _ x))) args.toList) :
  Calls Tryz.prog f args W fun e W'=>∃ v pr',e = .returned v/\R ⟨W',pr',fun _=>none⟩ (zd2 rs r) v/\Below W.heap.size W W':=by
 refine (hg x r h W pr (fun _=>none) args hl ha (fun i B h=>by simp at h) (fun i j b h=>by cases h) (fun _ _=>rfl)).mono ?_
 rintro en W' ⟨v,pr',rfl,hr,_,hk⟩
 exact ⟨v,pr',rfl,hr,⟨hk.os,hk.tape,hk.output,hk.size,fun k h=>hk.block k h (fun i e=>by cases e)⟩⟩
theorem zeO {w W:World} {pr:Nat->Nat->Prop} (hl:HL w pr) (hb:Below w.heap.size w W) {n:Int} {t:List UInt8} (h:strconv_Itoa n = some t) :
  Calls Tryz.prog 44 #[.int .i64 n] W fun e W'=>e = .returned (.string ⟨t.toArray⟩)/\Below W.heap.size W W':=by
 refine (zhH (zmu Tryz.itoaI zhz) (zaK hl hb) (x:=n) h (args:=#[.int .i64 n]) (by
  show RL _ [.int .i64 n] [.int .i64 n]
  simp only [RL,R]; exact ⟨_,_,rfl,rfl,rfl⟩)).mono ?_
 rintro e W' ⟨v,pr',rfl,hr,hb'⟩
 change R _ (.str t) v at hr
 simp only [R] at hr
 exact ⟨by rw [hr.1],hb'⟩
theorem zsm {w W:World} {pr:Nat->Nat->Prop} (hl:HL w pr) (hb:Below w.heap.size w W) {x:ID} {t:List UInt8} (h:qT x = some (t,0)) :
  Calls Tryz.prog 43 #[.agg #[.int .i64 x.Node,.int .u64 x.Seq,.int .i64 x.Off]] W fun e W'=>e = .returned (.tuple #[.string ⟨t.toArray⟩,.int .i64 0])/\Below W.heap.size W W':=by
 refine (zhH qT.fn (zaK hl hb) (x:=x) h (args:=#[.agg #[.int .i64 x.Node,.int .u64 x.Seq,.int .i64 x.Off]]) (by
  show RL _ [.agg [.int .i64 x.Node,.int .u64 x.Seq,.int .i64 x.Off]] [.agg #[.int .i64 x.Node,.int .u64 x.Seq,.int .i64 x.Off]]
  simp only [RL,R]
  refine ⟨_,_,rfl,⟨[.int .i64 x.Node,.int .u64 x.Seq,.int .i64 x.Off],rfl,⟨_,_,rfl,rfl,_,_,rfl,rfl,_,_,rfl,rfl,rfl⟩,?_⟩,rfl⟩
  intro y hy; simp at hy; rcases hy with rfl | rfl | rfl <;> rfl)).mono ?_
 rintro e W' ⟨v,pr',rfl,hr,hb'⟩
 change R _ (.tup [.str t,.int .i64 0]) v at hr
 simp only [R,RL] at hr
 obtain ⟨xs,rfl,y,ys,rfl,⟨rfl,_⟩,y2,ys2,rfl,rfl,rfl⟩:=hr
 exact ⟨rfl,hb'⟩
theorem za8 {n:Int} {t:List UInt8} (h:strconv_Itoa n = some t):t.length <= 1000:=by
 unfold strconv_Itoa zmt at h
 split at h
 ·rename_i hr
  cases h
  exact Nat.le_trans (Go.Lib.itoa_length_le n hr.1 hr.2) (by decide)
 ·cases h
theorem zn5 {w:World} {pr:Nat->Nat->Prop} (hl:HL w pr) {n:Int} {f:Face} (h:zjV .Face 0 (n.toNat * 2) 2 = some f) :
  w.cell? ⟨0,n.toNat * 2,none⟩ = some (.string ⟨f.word.toArray⟩)/\f.word.length <= maxLen:=by
 obtain ⟨vs,q1,q2,q3⟩:=zeF h
 obtain ⟨⟨ty,h1⟩,_⟩:=hl.glob 0 vs q1
 have hlt:n.toNat * 2 < vs.length:=by omega
 have hq:((vs.map qO).drop (n.toNat * 2)).take 2 = [.str f.word,.int .i64 f.uses]:=by
  have:V.agg (((vs.map qO).drop (n.toNat * 2)).take 2) = V.agg [.str f.word,.int .i64 f.uses]:=q3
  injection this
 have h0:(vs.map qO)[n.toNat * 2]? = some (.str f.word):=by
  have:=congrArg (fun l=>l[0]?) hq
  simpa [List.getElem?_take,List.getElem?_drop] using this
 rw [List.getElem?_map,List.getElem?_eq_getElem hlt] at h0
 simp only [Option.map_some,Option.some.injEq] at h0
 have hr:=ZY ⟨w,pr,fun _=>none⟩ vs[n.toNat * 2]
 rw [h0] at hr
 simp only [R] at hr
 refine ⟨?_,hr.2⟩
 simp only [World.cell?,h1]
 simp [hlt,hr.1]
noncomputable def yi:IV->Option Word
 | .int t n =>
  if t = 107 then (strconv_Itoa n).bind fun s=>some ⟨0,[],s⟩
  else if t = 108 then (strconv_Itoa n).bind fun s=>some ⟨0,[],110 :: s⟩
  else if t = 109 then (if 0 <= n/\n < 16 then (zjV .Face 0 (n.toNat * 2) 2).bind fun f=>if f.word.length <= 1000 then some ⟨0,[],f.word⟩ else none else none)
  else if t = 112 then (strconv_Itoa n).bind fun s=>some ⟨0,[97,116],s⟩
  else none
 | .id t x=>if t = 111 then (qT x).bind fun r=>if r.2 = 0/\r.1.length <= 1000 then some ⟨0,[105,100],r.1⟩ else none else none
theorem zmw (E:Env) {k t:List UInt8} (hk:k.length <= 1000) (ht:t.length <= 1001):R E (zd2 [.Word] (⟨0,k,t⟩:Word)) (zd6 k t):=by
 show R E (.agg [.int .i64 0,.str k,.str t]) (.agg #[.int .i64 0,.string ⟨k.toArray⟩,.string ⟨t.toArray⟩])
 simp only [R,RL]
 refine ⟨_,rfl,⟨_,_,rfl,rfl,_,_,rfl,⟨rfl,by unfold maxLen; omega⟩,_,_,rfl,⟨rfl,by unfold maxLen; omega⟩,rfl⟩,?_⟩
 intro y hy; simp at hy; rcases hy with rfl | rfl | rfl <;> rfl
set_option maxRecDepth 20000 in
set_option maxHeartbeats 4000000 in
theorem yi.fn:FnT Tryz.prog 56 [.d .iv] [.Word] yi:=by
 intro (x:IV) r h
 refine zaq fun w pr lam cargs hl hargs=>?_
 have hz:0 < w.heap.size:=by
  obtain ⟨⟨ty,h1⟩,_⟩:=hl.glob 0 G1 rfl
  exact (Array.getElem?_eq_some_iff.1 h1).1
 cases x with
 | int t n =>
  have hc:cargs = #[.iface t (.int .i64 n)]:=by
   rw [<- Array.toList_inj]
   have:RL ⟨w,pr,lam⟩ [.iface t (.int .i64 n)] cargs.toList:=hargs
   simp only [RL,R] at this
   obtain ⟨y,ys,e,⟨z,rfl,rfl⟩,rfl⟩:=this
   exact e
  subst hc
  unfold yi at h
  dsimp only at h
  split at h
  ·rename_i ht; subst ht
   obtain ⟨s,hs,h⟩:=bind_some h
   cases h
   refine (zqk w n s (za8 hs) fun W hb=>zeO hl hb hs).mono ?_
   rintro e W' ⟨rfl,hb⟩
   exact ⟨_,rfl,fun E=>zmw E (by simp) (by have:=za8 hs; omega),hb⟩
  split at h
  ·rename_i ht; subst ht
   obtain ⟨s,hs,h⟩:=bind_some h
   cases h
   refine (zql w n s (za8 hs) fun W hb=>zeO hl hb hs).mono ?_
   rintro e W' ⟨rfl,hb⟩
   exact ⟨_,rfl,fun E=>zmw E (by simp) (by have:=za8 hs; simp; omega),hb⟩
  split at h
  ·rename_i ht; subst ht
   split at h
   case isFalse=>cases h
   rename_i hn
   obtain ⟨f,hf,h⟩:=bind_some h
   split at h
   case isFalse=>cases h
   rename_i hlen
   cases h
   refine (zqm w n f.word hlen hn.1 hn.2 hz (zn5 hl hf).1).mono ?_
   rintro e W' ⟨rfl,hb⟩
   exact ⟨_,rfl,fun E=>zmw E (by simp) (by omega),hb⟩
  split at h
  ·rename_i ht; subst ht
   obtain ⟨s,hs,h⟩:=bind_some h
   cases h
   refine (zn4 w n s (za8 hs) fun W hb=>zeO hl hb hs).mono ?_
   rintro e W' ⟨rfl,hb⟩
   exact ⟨_,rfl,fun E=>zmw E (by simp) (by have:=za8 hs; omega),hb⟩
  ·cases h
 | id t x =>
  obtain ⟨a,b,c⟩:=x
  have hc:cargs = #[.iface t (.agg #[.int .i64 a,.int .u64 b,.int .i64 c])]:=by
   rw [<- Array.toList_inj]
   have:RL ⟨w,pr,lam⟩ [.iface t (.agg [.int .i64 a,.int .u64 b,.int .i64 c])] cargs.toList:=hargs
   simp only [RL,R] at this
   obtain ⟨y,ys,e,⟨z,rfl,xs,rfl,⟨y1,ys1,rfl,rfl,y2,ys2,rfl,rfl,y3,ys3,rfl,rfl,rfl⟩,_⟩,rfl⟩:=this
   exact e
  subst hc
  unfold yi at h
  dsimp only at h
  split at h
  case isFalse=>cases h
  rename_i ht; subst ht
  obtain ⟨s,hs,h⟩:=bind_some h
  obtain ⟨s,e0⟩:=s
  split at h
  case isFalse=>cases h
  rename_i hr
  obtain ⟨he,hlen⟩:=hr
  dsimp only at he hlen
  subst he
  cases h
  have hk:∀ W,Below w.heap.size w W->Calls Tryz.prog 43 #[(.agg #[.int .i64 a,.int .u64 b,.int .i64 c])] W fun e W'=>e = .returned (.tuple #[.string ⟨s.toArray⟩,.int .i64 0])/\Below W.heap.size W W':=fun W hb=>zsm (x:=⟨a,b,c⟩) hl hb hs
  refine (zqn w a b c s hlen hk).mono ?_
  rintro e W' ⟨rfl,hb⟩
  exact ⟨_,rfl,fun E=>zmw E (by simp) (Nat.le_trans hlen (by omega)),hb⟩
noncomputable def yi.spec:zb Tryz.prog:=zb.t 56 [.d .iv] [.Word] yi (by kernel_rfl) yi.fn
end Go.Proofs.YtjcbpfhlgebgdaaGreatDoor
