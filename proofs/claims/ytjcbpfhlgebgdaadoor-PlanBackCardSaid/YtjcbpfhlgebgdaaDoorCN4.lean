import Derived.Test.YtjcbpfhlgebgdaaDoorCN4a
set_option linter.unusedSimpArgs false
set_option linter.unusedVariables false
namespace Go.Proofs.YtjcbpfhlgebgdaaDoor
open Go Go.Eng Go.RowKit Go.X Go.Seq Go.Shelf
def cCells (a0 a1 a2 a3 a4 a5 : Int) : Obj := .cells #[.int .i64 a0, .int .i64 a1, .int .i64 a2, .int .i64 a3, .int .i64 a4, .int .i64 a5] 83 (0, 0)
theorem cc_cells {W : World} {M : Nat} {a0 a1 a2 a3 a4 a5 : Int} (h : W.heap[M]? = some (cCells a0 a1 a2 a3 a4 a5)) :
    (W.cell? ⟨M, 0, none⟩ = some (.int .i64 a0) ∧ W.cell? ⟨M, 1, none⟩ = some (.int .i64 a1) ∧ W.cell? ⟨M, 2, none⟩ = some (.int .i64 a2) ∧ W.cell? ⟨M, 3, none⟩ = some (.int .i64 a3) ∧ W.cell? ⟨M, 4, none⟩ = some (.int .i64 a4) ∧ W.cell? ⟨M, 5, none⟩ = some (.int .i64 a5)) ∧ ∀ j, W.frozen? ⟨M, j, none⟩ = false := by
  unfold cCells at h
  refine ⟨by simp [World.cell?, h], fun j => by simp [World.frozen?, h]⟩
theorem after_num {w wr W2 : World} {at0 : Int} {sl : Value} {f : Word} {M : Nat} {a0 a1 a2 a3 a4 a5 : Int} {o1 : Obj} (hcb : CB w.heap.size at0 sl f wr) (hbl : Below w.heap.size w wr) (hM : M < wr.heap.size) (hcc : wr.heap[M]? = some (cCells a0 a1 a2 a3 a4 a5))
    (x2 : Below (wr.alloc o1).heap.size (wr.alloc o1) W2) : Shut (CB w.heap.size at0 sl f W2) ∧ Shut (Below w.heap.size w W2) ∧ Shut (M < W2.heap.size) ∧ Shut (W2.heap[M]? = some (cCells a0 a1 a2 a3 a4 a5)) ∧
    (W2.cell? ⟨M, 0, none⟩ = some (.int .i64 a0) ∧ W2.cell? ⟨M, 1, none⟩ = some (.int .i64 a1) ∧ W2.cell? ⟨M, 2, none⟩ = some (.int .i64 a2) ∧ W2.cell? ⟨M, 3, none⟩ = some (.int .i64 a3) ∧ W2.cell? ⟨M, 4, none⟩ = some (.int .i64 a4) ∧ W2.cell? ⟨M, 5, none⟩ = some (.int .i64 a5)) ∧ ∀ j, W2.frozen? ⟨M, j, none⟩ = false := by
  have hs := x2.size
  have hs2 : (wr.alloc o1).heap.size = wr.heap.size + 1 := by simp
  have h4 : W2.heap[M]? = some (cCells a0 a1 a2 a3 a4 a5) := (x2.block M (by omega)).trans ((Below.heap_alloc _ _ _ hM).trans hcc)
  refine ⟨(hcb.alloc _).more x2, below_appC (hbl.alloc hbl.size _) (by have := hbl.size; omega) x2, (by show M < W2.heap.size; omega), h4, cc_cells h4⟩
theorem after_bad {w wr W2 : World} {at0 : Int} {sl : Value} {f : Word} {x : Int} {kk tt : Value} (hcb : CB w.heap.size at0 sl f wr) (hbl : Below w.heap.size w wr)
    (x2 : Below (wr.alloc (.cells #[.int .i64 x, kk, tt] 101)).heap.size (wr.alloc (.cells #[.int .i64 x, kk, tt] 101)) W2) : Shut (CB w.heap.size at0 sl f W2) ∧ Shut (Below w.heap.size w W2) ∧ W2.cell? ⟨wr.heap.size, 0, none⟩ = some (.int .i64 x) ∧
    (W2.cell? ⟨w.heap.size + 1, 0, none⟩ = some (.int .i64 0) ∧ W2.cell? ⟨w.heap.size + 1, 1, none⟩ = some (.int .i64 0) ∧ W2.cell? ⟨w.heap.size + 1, 2, none⟩ = some (.int .i64 0) ∧ W2.cell? ⟨w.heap.size + 1, 3, none⟩ = some (.int .i64 0) ∧ W2.cell? ⟨w.heap.size + 1, 4, none⟩ = some (.int .i64 0) ∧ W2.cell? ⟨w.heap.size + 1, 5, none⟩ = some (.int .i64 0)) ∧
    (W2.cell? ⟨w.heap.size + 1 + 1, 0, none⟩ = some (.int .i64 0) ∧ W2.cell? ⟨w.heap.size + 1 + 1, 1, none⟩ = some (.int .i64 0)) ∧
    (∀ j, W2.frozen? ⟨w.heap.size + 1, j, none⟩ = false) ∧ (∀ j, W2.frozen? ⟨w.heap.size + 1 + 1, j, none⟩ = false) := by
  have hs := x2.size
  have hs2 : (wr.alloc (.cells #[.int .i64 x, kk, tt] 101)).heap.size = wr.heap.size + 1 := by simp
  have hc := (hcb.alloc (.cells #[.int .i64 x, kk, tt] 101)).more x2
  refine ⟨hc, below_appC (hbl.alloc hbl.size _) (by have := hbl.size; omega) x2, ?_, hc.out⟩
  have h4 : W2.heap[wr.heap.size]? = some (.cells #[.int .i64 x, kk, tt] 101) := (x2.block _ (by omega)).trans (ahn wr _)
  simp [World.cell?, h4]
theorem after_one {w wr W2 : World} {at0 : Int} {sl : Value} {f : Word} {M : Nat} {a0 a1 a2 a3 a4 a5 : Int} (hcb : CB w.heap.size at0 sl f wr) (hbl : Below w.heap.size w wr) (hM : M < wr.heap.size) (hcc : wr.heap[M]? = some (cCells a0 a1 a2 a3 a4 a5))
    (x2 : Below wr.drew.heap.size wr.drew W2) : Shut (CB w.heap.size at0 sl f W2) ∧ Shut (Below w.heap.size w W2) ∧
    (W2.cell? ⟨M, 0, none⟩ = some (.int .i64 a0) ∧ W2.cell? ⟨M, 1, none⟩ = some (.int .i64 a1) ∧ W2.cell? ⟨M, 2, none⟩ = some (.int .i64 a2) ∧ W2.cell? ⟨M, 3, none⟩ = some (.int .i64 a3) ∧ W2.cell? ⟨M, 4, none⟩ = some (.int .i64 a4) ∧ W2.cell? ⟨M, 5, none⟩ = some (.int .i64 a5)) ∧
    W2.cell? ⟨w.heap.size + 1 + 1 + 1, 0, none⟩ = some (.int .i64 f.At) ∧
    (W2.cell? ⟨w.heap.size + 1, 0, none⟩ = some (.int .i64 0) ∧ W2.cell? ⟨w.heap.size + 1, 1, none⟩ = some (.int .i64 0) ∧ W2.cell? ⟨w.heap.size + 1, 2, none⟩ = some (.int .i64 0) ∧ W2.cell? ⟨w.heap.size + 1, 3, none⟩ = some (.int .i64 0) ∧ W2.cell? ⟨w.heap.size + 1, 4, none⟩ = some (.int .i64 0) ∧ W2.cell? ⟨w.heap.size + 1, 5, none⟩ = some (.int .i64 0)) ∧
    (W2.cell? ⟨w.heap.size + 1 + 1, 0, none⟩ = some (.int .i64 0) ∧ W2.cell? ⟨w.heap.size + 1 + 1, 1, none⟩ = some (.int .i64 0)) ∧
    (∀ j, W2.frozen? ⟨w.heap.size + 1, j, none⟩ = false) ∧ (∀ j, W2.frozen? ⟨w.heap.size + 1 + 1, j, none⟩ = false) := by
  have hcd : CB w.heap.size at0 sl f wr.drew := hcb.keep (Nat.le_refl _) fun k _ => drew_heap wr k
  have hc := hcd.more x2
  have h4 : W2.heap[M]? = some (cCells a0 a1 a2 a3 a4 a5) := (x2.block M hM).trans hcc
  exact ⟨hc, below_appC (drew_below hbl) hbl.size x2, (cc_cells h4).1, hc.cells.2.2.1, hc.out⟩
theorem res_inl {a fa fb : Int} {c : Contact} {f : Word} (h : (∃ a', (.inl a : Int ⊕ List Int) = .inl a' ∧ c = zc ∧ fa = 3 ∧ fb = a') ∨ (∃ a0 a1 a2 a3 a4 a5, (.inl a : Int ⊕ List Int) = .inr [a0, a1, a2, a3, a4, a5] ∧ c = ⟨a0, a1, a2, a3, a4, a5⟩ ∧ plan_One c = some fa ∧ fb = f.At)) : c = zc ∧ fa = 3 ∧ fb = a := by
  rcases h with ⟨a', h1, h2, h3, h4⟩ | ⟨_, _, _, _, _, _, h1, _⟩
  · cases h1; exact ⟨h2, h3, h4⟩
  · cases h1
theorem res_inr {a0 a1 a2 a3 a4 a5 fa fb : Int} {c : Contact} {f : Word} (h : (∃ a', (.inr [a0, a1, a2, a3, a4, a5] : Int ⊕ List Int) = .inl a' ∧ c = zc ∧ fa = 3 ∧ fb = a') ∨ (∃ b0 b1 b2 b3 b4 b5, (.inr [a0, a1, a2, a3, a4, a5] : Int ⊕ List Int) = .inr [b0, b1, b2, b3, b4, b5] ∧ c = ⟨b0, b1, b2, b3, b4, b5⟩ ∧ plan_One c = some fa ∧ fb = f.At)) : c = ⟨a0, a1, a2, a3, a4, a5⟩ ∧ plan_One ⟨a0, a1, a2, a3, a4, a5⟩ = some fa ∧ fb = f.At := by
  rcases h with ⟨a', h1, _⟩ | ⟨b0, b1, b2, b3, b4, b5, h1, rfl, h3, h4⟩
  · cases h1
  · cases h1; exact ⟨rfl, h3, h4⟩
set_option maxRecDepth 20000 in
set_option maxHeartbeats 8000000 in
theorem contact_ok (w : World) (b o cap : Nat) (at0 : Int) (f w0 w1 w2 w3 w4 w5 : Word) (hlt : b < w.heap.size) (hw : WordsAt w b o [f, w0, w1, w2, w3, w4, w5]) (hft : f.Text = contactT)
    (hC : ∀ W, Below w.heap.size w W → Calls Tryd.prog 120 #[.slice (some ⟨b, o, none⟩) 7 cap, .func (.func 121) #[] #[]] W fun en W' => en = .returned (.bool false) ∧ Below W.heap.size W W')
    (hN : ∀ W l n is, Below w.heap.size w W → l.length ≤ maxLen → words_Number l = some (n, is) → Calls Tryd.prog 122 #[.string ⟨l.toArray⟩] W fun e W' => e = .returned (.tuple #[.int .u64 n, .bool is]) ∧ Below W.heap.size W W')
    (hO : ∀ W c e, Below w.heap.size w W → plan_One c = some e → Calls Tryd.prog 111 #[cVal c] W fun en W' => en = .returned (.int .i64 e) ∧ Below W.heap.size W W')
    (c : Contact) (fa fb : Int) (z : Int ⊕ List Int) (hz : numsF [w0, w1, w2, w3, w4, w5] 0 [0, 0, 0, 0, 0, 0] = some z)
    (hres : (∃ a, z = .inl a ∧ c = zc ∧ fa = 3 ∧ fb = a) ∨ (∃ a0 a1 a2 a3 a4 a5, z = .inr [a0, a1, a2, a3, a4, a5] ∧ c = ⟨a0, a1, a2, a3, a4, a5⟩ ∧ plan_One c = some fa ∧ fb = f.At)) :
    Calls Tryd.prog 60 #[.agg #[.int .i64 at0, .slice (some ⟨b, o, none⟩) 7 cap]] w fun e W' => e = .returned (.tuple #[cVal c, fVal fa fb]) ∧ Below w.heap.size w W' := by
  have mixed : Tryd.prog.follows .mixedOrders = true := by kernel_rfl
  have d0 := hw.c0 0 f rfl
  have d1 := hw.c1 0 f rfl
  have d2 := hw.c2 0 f rfl
  rw [Nat.zero_mul, Nat.add_zero] at d0 d1 d2
  have lt1 : b < w.heap.size + 1 := by omega
  have lt2 : b < w.heap.size + 1 + 1 := by omega
  have lt3 : b < w.heap.size + 1 + 1 + 1 := by omega
  have hb4 : ∀ o1 o2 o3 o4, Below w.heap.size w ((((w.alloc o1).alloc o2).alloc o3).alloc o4) := fun o1 o2 o3 o4 => (((Below.refl _ _).alloc (Nat.le_refl _) _).alloc (by simp) _ |>.alloc (by simp; omega) _).alloc (by simp; omega) _
  have cb0 : Shut _ := CB.init (w := w) at0 (.slice (some ⟨b, o, none⟩) 7 cap) f
  have ht' : (f.Text == ([99, 111, 110, 116, 97, 99, 116] : List UInt8)) = true := by rw [hft]; rfl
  have hfin : Shut (∀ (tmps : Array Value) (W1 : World), CB w.heap.size at0 (.slice (some ⟨b, o, none⟩) 7 cap) f W1 → Below w.heap.size w W1 → tmps[2]?.getD undef = .pointer (some ⟨w.heap.size + 1, 0, none⟩) → tmps[3]?.getD undef = .pointer (some ⟨w.heap.size + 1 + 1, 0, none⟩) →
      bodyPost Tryd.prog Tryd.f60 (fun e W' => e = .returned (.tuple #[cVal c, fVal fa fb]) ∧ Below w.heap.size w W') .ret { tmps, defers := [] } (outW W1 w.heap.size c fa fb)) := fun tmps W1 hcb hbl t2 t3 =>
    con_fin (outW_b1 hcb c fa fb) (outW_b2 hcb c fa fb) t2 t3 ⟨rfl, outW_below hbl (Nat.le_refl _) _ _ _⟩
  have hfin0 : Shut (∀ (tmps : Array Value) (W1 : World), CB w.heap.size at0 (.slice (some ⟨b, o, none⟩) 7 cap) f W1 → Below w.heap.size w W1 → tmps[2]?.getD undef = .pointer (some ⟨w.heap.size + 1, 0, none⟩) → tmps[3]?.getD undef = .pointer (some ⟨w.heap.size + 1 + 1, 0, none⟩) →
      bodyPost Tryd.prog Tryd.f60 (fun e W' => e = .returned (.tuple #[cVal c, fVal fa fb]) ∧ Below w.heap.size w W') .ret { tmps, defers := [] } (outW0 W1 w.heap.size c fa fb)) := fun tmps W1 hcb hbl t2 t3 =>
    con_fin (outW0_b1 hcb c fa fb) (outW0_b2 hcb c fa fb) t2 t3 ⟨rfl, outW0_below hbl (Nat.le_refl _) _ _ _⟩
  have hb5 : Shut (∀ o1 o2 o3 o4 W1, Below ((((w.alloc o1).alloc o2).alloc o3).alloc o4).heap.size ((((w.alloc o1).alloc o2).alloc o3).alloc o4) W1 → Below w.heap.size w W1) := fun o1 o2 o3 o4 W1 h =>
    below_appC (hb4 o1 o2 o3 o4) (by simp; omega) h
  have hw' : Shut _ := hw
  have hz' : Shut _ := hz
  have hres' : Shut _ := hres
  clear hw hz hres hft
  go_enter Tryd.func60, Tryd.ntmps60
  go_wp2_with (go_at_call 120; refine (hC _ (hb4 _ _ _ _)).mono ?_; rintro en W1 ⟨rfl, x1⟩; have cb1 := cb0.out.more x1; have hbl1 := hb5.out _ _ _ _ _ x1; clear x1 cb0 hb4 hb5 hC d0 d1 d2; obtain ⟨r0, r1, f0, f1, f2⟩ := cb1.cells)
  have hsz1 := cb1.size
  have cb1' : Shut _ := cb1
  have hbl1' : Shut _ := hbl1
  clear cb1 hbl1
  go_loopw [42] (fun v42 wr => ∃ (i a0 a1 a2 a3 a4 a5 : Int), v42 = .int .i64 i ∧ 0 ≤ i ∧ i ≤ 6 ∧ numsF ([w0, w1, w2, w3, w4, w5].drop i.toNat) i.toNat [a0, a1, a2, a3, a4, a5] = some z ∧ CB w.heap.size at0 (.slice (some ⟨b, o, none⟩) 7 cap) f wr ∧ Below w.heap.size w wr ∧ W1.heap.size < wr.heap.size ∧ wr.heap[W1.heap.size]? = some (cCells a0 a1 a2 a3 a4 a5))
    (fun v42 wr => ((6 : Int) - intOf v42).toNat)
  case atStart =>
    have hs2 : (W1.alloc (cCells 0 0 0 0 0 0)).heap.size = W1.heap.size + 1 := by simp
    have hs3 : W1.heap.size < (W1.alloc (cCells 0 0 0 0 0 0)).heap.size := by omega
    exact ⟨0, 0, 0, 0, 0, 0, 0, rfl, by decide, by decide, hz'.out, cb1'.out.alloc _, hbl1'.out.alloc hbl1'.out.size _, hs3, ahn W1 (cCells 0 0 0 0 0 0)⟩
  case round =>
    obtain ⟨i, a0, a1, a2, a3, a4, a5, rfl, hi0, hi6, hq, hcb, hbl, hM, hcc⟩ := hrel
    obtain ⟨r0, r1, f0, f1, f2⟩ := hcb.cells
    obtain ⟨⟨c0, c1, c2, c3, c4, c5⟩, cfz⟩ := cc_cells hcc
    have hwr := hw'.out.more hlt hbl
    have hi : i = 0 ∨ i = 1 ∨ i = 2 ∨ i = 3 ∨ i = 4 ∨ i = 5 ∨ i = 6 := by omega
    rcases hi with rfl | rfl | rfl | rfl | rfl | rfl | rfl
    · have hq' : numsF [w0, w1, w2, w3, w4, w5] 0 [a0, a1, a2, a3, a4, a5] = some z := hq
      have e0 := hwr.c0 1 w0 rfl
      have e1 := hwr.c1 1 w0 rfl
      have e2 := hwr.c2 1 w0 rfl
      have e3 := ix0 W1.heap.size wr
      have l1 : w0.Text.length ≤ maxLen := (hw'.out.l1 w0 (by simp)).2
      clear hq
      unfold numsF at hq'
      obtain ⟨⟨n, is⟩, hn, hq'⟩ := bind_some hq'
      have hb1 : Shut (∀ o1, Below w.heap.size w (wr.alloc o1)) := fun o1 => hbl.alloc hbl.size _
      cases is with
      | false =>
        obtain rfl : .inl w0.At = z := by simpa using hq'
        obtain ⟨rfl, rfl, rfl⟩ := res_inl hres'.out
        clear hq' hres' hz'
        go_wp2_with (go_at_call 122; refine (hN _ _ n false (hb1.out _) l1 hn).mono ?_; rintro en W2 ⟨rfl, x2⟩; obtain ⟨s1, s2, g0, ⟨⟨k0, k1, k2, k3, k4, k5⟩, ⟨m0, m1⟩, fz1, fz2⟩⟩ := after_bad hcb hbl x2)
        go_region
        go_wp2
        exact hfin.out _ W2 s1.out s2.out rfl rfl
      | true =>
        have hq2 : Shut (numsF [w1, w2, w3, w4, w5] 1 [wrap64 (min n 2199023255552), a1, a2, a3, a4, a5] = some z) := hq'
        clear hq'
        go_wp2_with (go_at_call 122; refine (hN _ _ n true (hb1.out _) l1 hn).mono ?_; rintro en W2 ⟨rfl, x2⟩; obtain ⟨s1, s2, s3, s4, ⟨c0, c1, c2, c3, c4, c5⟩, cfz⟩ := after_num hcb hbl hM hcc x2)
        exact ⟨⟨1, wrap64 (min n 2199023255552), a1, a2, a3, a4, a5, rfl, by decide, by decide, hq2.out, s1.out.set hsz1 _, blw_set s2.out (Nat.le_trans (Nat.le_add_right _ 4) hsz1) _, by rw [World.size_setCell]; exact s3.out, heap_setCell_same _ _ 0 _ _ _ s4.out⟩, by decide⟩
    · have hq' : numsF [w1, w2, w3, w4, w5] 1 [a0, a1, a2, a3, a4, a5] = some z := hq
      have e0 := hwr.c0 2 w1 rfl
      have e1 := hwr.c1 2 w1 rfl
      have e2 := hwr.c2 2 w1 rfl
      have e3 := ix1 W1.heap.size wr
      have l1 : w1.Text.length ≤ maxLen := (hw'.out.l1 w1 (by simp)).2
      clear hq
      unfold numsF at hq'
      obtain ⟨⟨n, is⟩, hn, hq'⟩ := bind_some hq'
      have hb1 : Shut (∀ o1, Below w.heap.size w (wr.alloc o1)) := fun o1 => hbl.alloc hbl.size _
      cases is with
      | false =>
        obtain rfl : .inl w1.At = z := by simpa using hq'
        obtain ⟨rfl, rfl, rfl⟩ := res_inl hres'.out
        clear hq' hres' hz'
        go_wp2_with (go_at_call 122; refine (hN _ _ n false (hb1.out _) l1 hn).mono ?_; rintro en W2 ⟨rfl, x2⟩; obtain ⟨s1, s2, g0, ⟨⟨k0, k1, k2, k3, k4, k5⟩, ⟨m0, m1⟩, fz1, fz2⟩⟩ := after_bad hcb hbl x2)
        go_region
        go_wp2
        exact hfin.out _ W2 s1.out s2.out rfl rfl
      | true =>
        have hq2 : Shut (numsF [w2, w3, w4, w5] 2 [a0, wrap64 (min n 2199023255552), a2, a3, a4, a5] = some z) := hq'
        clear hq'
        go_wp2_with (go_at_call 122; refine (hN _ _ n true (hb1.out _) l1 hn).mono ?_; rintro en W2 ⟨rfl, x2⟩; obtain ⟨s1, s2, s3, s4, ⟨c0, c1, c2, c3, c4, c5⟩, cfz⟩ := after_num hcb hbl hM hcc x2)
        exact ⟨⟨2, a0, wrap64 (min n 2199023255552), a2, a3, a4, a5, rfl, by decide, by decide, hq2.out, s1.out.set hsz1 _, blw_set s2.out (Nat.le_trans (Nat.le_add_right _ 4) hsz1) _, by rw [World.size_setCell]; exact s3.out, heap_setCell_same _ _ 1 _ _ _ s4.out⟩, by decide⟩
    · have hq' : numsF [w2, w3, w4, w5] 2 [a0, a1, a2, a3, a4, a5] = some z := hq
      have e0 := hwr.c0 3 w2 rfl
      have e1 := hwr.c1 3 w2 rfl
      have e2 := hwr.c2 3 w2 rfl
      have e3 := ix2 W1.heap.size wr
      have l1 : w2.Text.length ≤ maxLen := (hw'.out.l1 w2 (by simp)).2
      clear hq
      unfold numsF at hq'
      obtain ⟨⟨n, is⟩, hn, hq'⟩ := bind_some hq'
      have hb1 : Shut (∀ o1, Below w.heap.size w (wr.alloc o1)) := fun o1 => hbl.alloc hbl.size _
      cases is with
      | false =>
        obtain rfl : .inl w2.At = z := by simpa using hq'
        obtain ⟨rfl, rfl, rfl⟩ := res_inl hres'.out
        clear hq' hres' hz'
        go_wp2_with (go_at_call 122; refine (hN _ _ n false (hb1.out _) l1 hn).mono ?_; rintro en W2 ⟨rfl, x2⟩; obtain ⟨s1, s2, g0, ⟨⟨k0, k1, k2, k3, k4, k5⟩, ⟨m0, m1⟩, fz1, fz2⟩⟩ := after_bad hcb hbl x2)
        go_region
        go_wp2
        exact hfin.out _ W2 s1.out s2.out rfl rfl
      | true =>
        have hq2 : Shut (numsF [w3, w4, w5] 3 [a0, a1, wrap64 (min n 2199023255552), a3, a4, a5] = some z) := hq'
        clear hq'
        go_wp2_with (go_at_call 122; refine (hN _ _ n true (hb1.out _) l1 hn).mono ?_; rintro en W2 ⟨rfl, x2⟩; obtain ⟨s1, s2, s3, s4, ⟨c0, c1, c2, c3, c4, c5⟩, cfz⟩ := after_num hcb hbl hM hcc x2)
        exact ⟨⟨3, a0, a1, wrap64 (min n 2199023255552), a3, a4, a5, rfl, by decide, by decide, hq2.out, s1.out.set hsz1 _, blw_set s2.out (Nat.le_trans (Nat.le_add_right _ 4) hsz1) _, by rw [World.size_setCell]; exact s3.out, heap_setCell_same _ _ 2 _ _ _ s4.out⟩, by decide⟩
    · have hq' : numsF [w3, w4, w5] 3 [a0, a1, a2, a3, a4, a5] = some z := hq
      have e0 := hwr.c0 4 w3 rfl
      have e1 := hwr.c1 4 w3 rfl
      have e2 := hwr.c2 4 w3 rfl
      have e3 := ix3 W1.heap.size wr
      have l1 : w3.Text.length ≤ maxLen := (hw'.out.l1 w3 (by simp)).2
      clear hq
      unfold numsF at hq'
      obtain ⟨⟨n, is⟩, hn, hq'⟩ := bind_some hq'
      have hb1 : Shut (∀ o1, Below w.heap.size w (wr.alloc o1)) := fun o1 => hbl.alloc hbl.size _
      cases is with
      | false =>
        obtain rfl : .inl w3.At = z := by simpa using hq'
        obtain ⟨rfl, rfl, rfl⟩ := res_inl hres'.out
        clear hq' hres' hz'
        go_wp2_with (go_at_call 122; refine (hN _ _ n false (hb1.out _) l1 hn).mono ?_; rintro en W2 ⟨rfl, x2⟩; obtain ⟨s1, s2, g0, ⟨⟨k0, k1, k2, k3, k4, k5⟩, ⟨m0, m1⟩, fz1, fz2⟩⟩ := after_bad hcb hbl x2)
        go_region
        go_wp2
        exact hfin.out _ W2 s1.out s2.out rfl rfl
      | true =>
        have hq2 : Shut (numsF [w4, w5] 4 [a0, a1, a2, wrap64 (min n 2199023255552), a4, a5] = some z) := hq'
        clear hq'
        go_wp2_with (go_at_call 122; refine (hN _ _ n true (hb1.out _) l1 hn).mono ?_; rintro en W2 ⟨rfl, x2⟩; obtain ⟨s1, s2, s3, s4, ⟨c0, c1, c2, c3, c4, c5⟩, cfz⟩ := after_num hcb hbl hM hcc x2)
        exact ⟨⟨4, a0, a1, a2, wrap64 (min n 2199023255552), a4, a5, rfl, by decide, by decide, hq2.out, s1.out.set hsz1 _, blw_set s2.out (Nat.le_trans (Nat.le_add_right _ 4) hsz1) _, by rw [World.size_setCell]; exact s3.out, heap_setCell_same _ _ 3 _ _ _ s4.out⟩, by decide⟩
    · have hq' : numsF [w4, w5] 4 [a0, a1, a2, a3, a4, a5] = some z := hq
      have e0 := hwr.c0 5 w4 rfl
      have e1 := hwr.c1 5 w4 rfl
      have e2 := hwr.c2 5 w4 rfl
      have e3 := ix4 W1.heap.size wr
      have l1 : w4.Text.length ≤ maxLen := (hw'.out.l1 w4 (by simp)).2
      clear hq
      unfold numsF at hq'
      obtain ⟨⟨n, is⟩, hn, hq'⟩ := bind_some hq'
      have hb1 : Shut (∀ o1, Below w.heap.size w (wr.alloc o1)) := fun o1 => hbl.alloc hbl.size _
      cases is with
      | false =>
        obtain rfl : .inl w4.At = z := by simpa using hq'
        obtain ⟨rfl, rfl, rfl⟩ := res_inl hres'.out
        clear hq' hres' hz'
        go_wp2_with (go_at_call 122; refine (hN _ _ n false (hb1.out _) l1 hn).mono ?_; rintro en W2 ⟨rfl, x2⟩; obtain ⟨s1, s2, g0, ⟨⟨k0, k1, k2, k3, k4, k5⟩, ⟨m0, m1⟩, fz1, fz2⟩⟩ := after_bad hcb hbl x2)
        go_region
        go_wp2
        exact hfin.out _ W2 s1.out s2.out rfl rfl
      | true =>
        have hq2 : Shut (numsF [w5] 5 [a0, a1, a2, a3, wrap64 (min n 2199023255552), a5] = some z) := hq'
        clear hq'
        go_wp2_with (go_at_call 122; refine (hN _ _ n true (hb1.out _) l1 hn).mono ?_; rintro en W2 ⟨rfl, x2⟩; obtain ⟨s1, s2, s3, s4, ⟨c0, c1, c2, c3, c4, c5⟩, cfz⟩ := after_num hcb hbl hM hcc x2)
        exact ⟨⟨5, a0, a1, a2, a3, wrap64 (min n 2199023255552), a5, rfl, by decide, by decide, hq2.out, s1.out.set hsz1 _, blw_set s2.out (Nat.le_trans (Nat.le_add_right _ 4) hsz1) _, by rw [World.size_setCell]; exact s3.out, heap_setCell_same _ _ 4 _ _ _ s4.out⟩, by decide⟩
    · have hq' : numsF [w5] 5 [a0, a1, a2, a3, a4, a5] = some z := hq
      have e0 := hwr.c0 6 w5 rfl
      have e1 := hwr.c1 6 w5 rfl
      have e2 := hwr.c2 6 w5 rfl
      have e3 := ix5 W1.heap.size wr
      have l1 : w5.Text.length ≤ maxLen := (hw'.out.l1 w5 (by simp)).2
      clear hq
      unfold numsF at hq'
      obtain ⟨⟨n, is⟩, hn, hq'⟩ := bind_some hq'
      have hb1 : Shut (∀ o1, Below w.heap.size w (wr.alloc o1)) := fun o1 => hbl.alloc hbl.size _
      cases is with
      | false =>
        obtain rfl : .inl w5.At = z := by simpa using hq'
        obtain ⟨rfl, rfl, rfl⟩ := res_inl hres'.out
        clear hq' hres' hz'
        go_wp2_with (go_at_call 122; refine (hN _ _ n false (hb1.out _) l1 hn).mono ?_; rintro en W2 ⟨rfl, x2⟩; obtain ⟨s1, s2, g0, ⟨⟨k0, k1, k2, k3, k4, k5⟩, ⟨m0, m1⟩, fz1, fz2⟩⟩ := after_bad hcb hbl x2)
        go_region
        go_wp2
        exact hfin.out _ W2 s1.out s2.out rfl rfl
      | true =>
        have hq2 : Shut (numsF [] 6 [a0, a1, a2, a3, a4, wrap64 (min n 2199023255552)] = some z) := hq'
        clear hq'
        go_wp2_with (go_at_call 122; refine (hN _ _ n true (hb1.out _) l1 hn).mono ?_; rintro en W2 ⟨rfl, x2⟩; obtain ⟨s1, s2, s3, s4, ⟨c0, c1, c2, c3, c4, c5⟩, cfz⟩ := after_num hcb hbl hM hcc x2)
        exact ⟨⟨6, a0, a1, a2, a3, a4, wrap64 (min n 2199023255552), rfl, by decide, by decide, hq2.out, s1.out.set hsz1 _, blw_set s2.out (Nat.le_trans (Nat.le_add_right _ 4) hsz1) _, by rw [World.size_setCell]; exact s3.out, heap_setCell_same _ _ 5 _ _ _ s4.out⟩, by decide⟩
    · have hq' : numsF [] 6 [a0, a1, a2, a3, a4, a5] = some z := hq
      clear hq
      obtain rfl : .inr [a0, a1, a2, a3, a4, a5] = z := by simpa [numsF] using hq'
      obtain ⟨rfl, ho, rfl⟩ := res_inr hres'.out
      clear hq' hres' hz'
      obtain ⟨⟨k0, k1, k2, k3, k4, k5⟩, ⟨m0, m1⟩, fz1, fz2⟩ := hcb.out
      have hbd : Shut (Below w.heap.size w wr.drew) := drew_below hbl
      go_wp2
      go_region_with (go_at_call 111; refine (hO _ ⟨a0, a1, a2, a3, a4, a5⟩ fa hbd.out ho).mono ?_; rintro en W2 ⟨rfl, x2⟩; obtain ⟨s1, s2, ⟨c0, c1, c2, c3, c4, c5⟩, f0, ⟨k0, k1, k2, k3, k4, k5⟩, ⟨m0, m1⟩, fz1, fz2⟩ := after_one hcb hbl hM hcc x2)
      all_goals (go_wp2; exact hfin0.out _ W2 s1.out s2.out rfl rfl)
end Go.Proofs.YtjcbpfhlgebgdaaDoor
