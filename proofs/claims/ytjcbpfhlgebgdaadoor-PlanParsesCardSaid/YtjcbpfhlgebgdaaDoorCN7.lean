import Derived.Test.YtjcbpfhlgebgdaaDoorCN6
set_option linter.unusedSimpArgs false
set_option linter.unusedVariables false
namespace Go.Proofs.YtjcbpfhlgebgdaaDoor
open Go Go.Eng Go.RowKit Go.X Go.Seq Go.Shelf
theorem rafter_num {w wr W2:World} {at0:Int} {sl:Value} {M:Nat} {a0 a1 a2 a3 a4 a5 a6:Int} (hcb:RB w.heap.size at0 sl wr) (hbl:Below w.heap.size w wr) (hM:M < wr.heap.size) (hcc:wr.heap[M]? = some (nCells a0 a1 a2 a3 a4 a5 a6))
  (x2:Below wr.heap.size wr W2):Shut (RB w.heap.size at0 sl W2)∧Shut (Below w.heap.size w W2)∧Shut (M < W2.heap.size)∧Shut (W2.heap[M]? = some (nCells a0 a1 a2 a3 a4 a5 a6)) ∧
  (W2.cell? ⟨M,0,none⟩ = some (.int .i64 a0)∧W2.cell? ⟨M,1,none⟩ = some (.int .i64 a1)∧W2.cell? ⟨M,2,none⟩ = some (.int .i64 a2)∧W2.cell? ⟨M,3,none⟩ = some (.int .i64 a3)∧W2.cell? ⟨M,4,none⟩ = some (.int .i64 a4)∧W2.cell? ⟨M,5,none⟩ = some (.int .i64 a5)∧W2.cell? ⟨M,6,none⟩ = some (.int .i64 a6))∧∀ j,W2.frozen? ⟨M,j,none⟩ = false:=by
 have hs:=x2.size
 have h4:W2.heap[M]? = some (nCells a0 a1 a2 a3 a4 a5 a6):=(x2.block M hM).trans hcc
 refine ⟨hcb.more x2,below_app hbl hbl.size x2,(by show M < W2.heap.size; omega),h4,nc_cells h4⟩
theorem rafter_bad {w wr W2:World} {at0:Int} {sl:Value} {b o:Nat} {ws:List Word} (hcb:RB w.heap.size at0 sl wr) (hbl:Below w.heap.size w wr) (hlt:b < w.heap.size) (hw:WordsAt w b o ws)
  (x2:Below wr.heap.size wr W2):Shut (RB w.heap.size at0 sl W2)∧Shut (Below w.heap.size w W2)∧WordsAt W2 b o ws∧(W2.cell? ⟨w.heap.size,0,none⟩ = some (.int .i64 at0)∧W2.cell? ⟨w.heap.size,1,none⟩ = some sl) ∧
  (W2.cell? ⟨w.heap.size + 1,0,none⟩ = some (.int .i64 0)∧W2.cell? ⟨w.heap.size + 1,1,none⟩ = some (.int .i64 0)∧W2.cell? ⟨w.heap.size + 1,2,none⟩ = some (.int .i64 0)∧W2.cell? ⟨w.heap.size + 1,3,none⟩ = some (.int .i64 0)∧W2.cell? ⟨w.heap.size + 1,4,none⟩ = some (.int .i64 0)∧W2.cell? ⟨w.heap.size + 1,5,none⟩ = some (.int .i64 0)) ∧
  (W2.cell? ⟨w.heap.size + 1 + 1,0,none⟩ = some (.int .i64 0)∧W2.cell? ⟨w.heap.size + 1 + 1,1,none⟩ = some (.int .i64 0)) ∧
  (∀ j,W2.frozen? ⟨w.heap.size + 1,j,none⟩ = false)∧(∀ j,W2.frozen? ⟨w.heap.size + 1 + 1,j,none⟩ = false) :=
 have hb:=below_app hbl hbl.size x2
 ⟨hcb.more x2,hb,hw.more hlt hb,(hcb.more x2).cells,(hcb.more x2).out⟩
theorem rafter_one {w wr W2:World} {at0:Int} {sl:Value} {c:Contact} (hcb:RB w.heap.size at0 sl wr) (hbl:Below w.heap.size w wr)
  (x2:Below (wr.alloc (.cells #[.int .i64 c.From,.int .i64 c.To,.int .i64 c.Start,.int .i64 c.End,.int .i64 c.Rate,.int .i64 c.Delay] 83)).heap.size (wr.alloc (.cells #[.int .i64 c.From,.int .i64 c.To,.int .i64 c.Start,.int .i64 c.End,.int .i64 c.Rate,.int .i64 c.Delay] 83)) W2) :
  Shut (RB w.heap.size at0 sl W2)∧Shut (Below w.heap.size w W2) ∧
  (W2.cell? ⟨wr.heap.size,0,none⟩ = some (.int .i64 c.From)∧W2.cell? ⟨wr.heap.size,1,none⟩ = some (.int .i64 c.To)∧W2.cell? ⟨wr.heap.size,2,none⟩ = some (.int .i64 c.Start)∧W2.cell? ⟨wr.heap.size,3,none⟩ = some (.int .i64 c.End)∧W2.cell? ⟨wr.heap.size,4,none⟩ = some (.int .i64 c.Rate)∧W2.cell? ⟨wr.heap.size,5,none⟩ = some (.int .i64 c.Delay)) ∧
  (W2.cell? ⟨w.heap.size + 1,0,none⟩ = some (.int .i64 0)∧W2.cell? ⟨w.heap.size + 1,1,none⟩ = some (.int .i64 0)∧W2.cell? ⟨w.heap.size + 1,2,none⟩ = some (.int .i64 0)∧W2.cell? ⟨w.heap.size + 1,3,none⟩ = some (.int .i64 0)∧W2.cell? ⟨w.heap.size + 1,4,none⟩ = some (.int .i64 0)∧W2.cell? ⟨w.heap.size + 1,5,none⟩ = some (.int .i64 0)) ∧
  (W2.cell? ⟨w.heap.size + 1 + 1,0,none⟩ = some (.int .i64 0)∧W2.cell? ⟨w.heap.size + 1 + 1,1,none⟩ = some (.int .i64 0)) ∧
  (∀ j,W2.frozen? ⟨w.heap.size + 1,j,none⟩ = false)∧(∀ j,W2.frozen? ⟨w.heap.size + 1 + 1,j,none⟩ = false):=by
 generalize ho:Obj.cells #[.int .i64 c.From,.int .i64 c.To,.int .i64 c.Start,.int .i64 c.End,.int .i64 c.Rate,.int .i64 c.Delay] 83 = ob at x2
 have hs2:(wr.alloc ob).heap.size = wr.heap.size + 1:=by simp
 have hc:=(hcb.alloc ob).more x2
 have h4:W2.heap[wr.heap.size]? = some ob:=(x2.block _ (by omega)).trans (ahn wr _)
 subst ho
 refine ⟨hc,below_app (hbl.alloc hbl.size _) (by have:=hbl.size; omega) x2,?_,hc.out⟩
 simp [World.cell?,h4]
theorem rres_inl {a fa fb:Int} {c:Contact} {f:Word} (h:(∃ a',(.inl a:Int ⊕ List Int) = .inl a'∧c = zc∧fa = 3∧fb = a') ∨ (∃ a0 a1 a2 a3 a4 a5 a6 e,(.inl a:Int ⊕ List Int) = .inr [a0,a1,a2,a3,a4,a5,a6]∧packhorseref22_One ⟨a1,a2,a3,a4,a5,a6⟩ = some e∧((e ≠ 0∧c = zc∧fa = 2∧fb = f.At) ∨ (e = 0∧c = ⟨a1,a2,a3,a4,a5,a6⟩∧fa = 0∧fb = 0)))):c = zc∧fa = 3∧fb = a:=by
 rcases h with ⟨a',h1,h2,h3,h4⟩ | ⟨_,_,_,_,_,_,_,_,h1,_⟩
 ·cases h1; exact ⟨h2,h3,h4⟩
 ·cases h1
theorem rres_inr {a0 a1 a2 a3 a4 a5 a6 fa fb:Int} {c:Contact} {f:Word} (h:(∃ a',(.inr [a0,a1,a2,a3,a4,a5,a6]:Int ⊕ List Int) = .inl a'∧c = zc∧fa = 3∧fb = a') ∨ (∃ b0 b1 b2 b3 b4 b5 b6 e,(.inr [a0,a1,a2,a3,a4,a5,a6]:Int ⊕ List Int) = .inr [b0,b1,b2,b3,b4,b5,b6]∧packhorseref22_One ⟨b1,b2,b3,b4,b5,b6⟩ = some e∧((e ≠ 0∧c = zc∧fa = 2∧fb = f.At) ∨ (e = 0∧c = ⟨b1,b2,b3,b4,b5,b6⟩∧fa = 0∧fb = 0)))) :
  ∃ e,packhorseref22_One ⟨a1,a2,a3,a4,a5,a6⟩ = some e∧((e ≠ 0∧c = zc∧fa = 2∧fb = f.At) ∨ (e = 0∧c = ⟨a1,a2,a3,a4,a5,a6⟩∧fa = 0∧fb = 0)):=by
 rcases h with ⟨a',h1,_⟩ | ⟨b0,b1,b2,b3,b4,b5,b6,e,h1,h2,h3⟩
 ·cases h1
 ·cases h1; exact ⟨e,h2,h3⟩
def keyRes (f:Word) (ws:List Word) (c:Contact) (fa fb:Int):Prop :=
 ∃ z,numsR ws 1 [0,0,0,0,0,0,0] = some z∧((∃ a,z = .inl a∧c = zc∧fa = 3∧fb = a) ∨ (∃ a0 a1 a2 a3 a4 a5 a6 e,z = .inr [a0,a1,a2,a3,a4,a5,a6]∧packhorseref22_One ⟨a1,a2,a3,a4,a5,a6⟩ = some e∧((e ≠ 0∧c = zc∧fa = 2∧fb = f.At) ∨ (e = 0∧c = ⟨a1,a2,a3,a4,a5,a6⟩∧fa = 0∧fb = 0))))
set_option maxRecDepth 20000 in
set_option maxHeartbeats 8000000 in
theorem refcon_ok (w:World) (b o cap:Nat) (at0:Int) (f w0 w1 w2 w3 w4 w5:Word) (hlt:b < w.heap.size) (hw:WordsAt w b o [f,w0,w1,w2,w3,w4,w5]) (hft:f.Text = contactT)
  (hN:∀ W l n is,Below w.heap.size w W→l.length ≤ maxLen→packhorseref03_Number l = some (n,is)→Calls Tryd.prog 124 #[.string ⟨l.toArray⟩] W fun e W'=>e = .returned (.tuple #[.int .u64 n,.bool is])∧Below W.heap.size W W')
  (hO:∀ W c e,Below w.heap.size w W→packhorseref22_One c = some e→Calls Tryd.prog 116 #[cVal c] W fun en W'=>en = .returned (.int .i64 e)∧Below W.heap.size W W')
  (c:Contact) (fa fb:Int)
  (hbad:(∃ x ∈ [f,w0,w1,w2,w3,w4,w5],x.Key ≠ [])→c = zc∧fa = 3∧fb = f.At)
  (hgood:(∀ x ∈ [f,w0,w1,w2,w3,w4,w5],x.Key = [])→keyRes f [w0,w1,w2,w3,w4,w5] c fa fb) :
  Calls Tryd.prog 62 #[.agg #[.int .i64 at0,.slice (some ⟨b,o,none⟩) 7 cap]] w fun e W'=>e = .returned (.tuple #[cVal c,fVal fa fb])∧Below w.heap.size w W':=by
 have mixed:Tryd.prog.follows .mixedOrders = true:=by kernel_rfl
 have d0:=hw.c0 0 f rfl
 have d1:=hw.c1 0 f rfl
 have d2:=hw.c2 0 f rfl
 rw [Nat.zero_mul,Nat.add_zero] at d0 d1 d2
 have lt1:b < w.heap.size + 1:=by omega
 have lt2:b < w.heap.size + 1 + 1:=by omega
 have lt3:b < w.heap.size + 1 + 1 + 1:=by omega
 have hrb:Shut _:=RB.init (w:=w) at0 (.slice (some ⟨b,o,none⟩) 7 cap)
 have hb3:Shut (∀ o1 o2 o3,Below w.heap.size w (((w.alloc o1).alloc o2).alloc o3)):=fun o1 o2 o3=>((Below.refl _ _).alloc (Nat.le_refl _) _).alloc (by simp) _ |>.alloc (by simp; omega) _
 have ht':(f.Text == ([99,111,110,116,97,99,116]:List UInt8)) = true:=by rw [hft]; rfl
 have hfin:Shut (∀ (c:Contact) (fa fb:Int) (tmps:Array Value) (W1:World),RB w.heap.size at0 (.slice (some ⟨b,o,none⟩) 7 cap) W1→Below w.heap.size w W1→tmps[2]?.getD undef = .pointer (some ⟨w.heap.size + 1,0,none⟩)→tmps[3]?.getD undef = .pointer (some ⟨w.heap.size + 1 + 1,0,none⟩) →
   bodyPost Tryd.prog Tryd.f62 (fun e W'=>e = .returned (.tuple #[cVal c,fVal fa fb])∧Below w.heap.size w W') .ret { tmps,defers:=[] } (outW W1 w.heap.size c fa fb)):=fun c fa fb tmps W1 hcb hbl t2 t3 =>
  rcon_fin (routW_b1 hcb c fa fb) (routW_b2 hcb c fa fb) t2 t3 ⟨rfl,outW_below hbl (Nat.le_refl _) _ _ _⟩
 have hfin0:Shut (∀ (c:Contact) (fa fb:Int) (tmps:Array Value) (W1:World),RB w.heap.size at0 (.slice (some ⟨b,o,none⟩) 7 cap) W1→Below w.heap.size w W1→tmps[2]?.getD undef = .pointer (some ⟨w.heap.size + 1,0,none⟩)→tmps[3]?.getD undef = .pointer (some ⟨w.heap.size + 1 + 1,0,none⟩) →
   bodyPost Tryd.prog Tryd.f62 (fun e W'=>e = .returned (.tuple #[cVal c,fVal fa fb])∧Below w.heap.size w W') .ret { tmps,defers:=[] } (outW0 W1 w.heap.size c fa fb)):=fun c fa fb tmps W1 hcb hbl t2 t3 =>
  rcon_fin (routW0_b1 hcb c fa fb) (routW0_b2 hcb c fa fb) t2 t3 ⟨rfl,outW0_below hbl (Nat.le_refl _) _ _ _⟩
 have hw':Shut _:=hw
 have hbad':Shut _:=hbad
 have hgood':Shut _:=hgood
 clear hw hbad hgood hft
 go_enter Tryd.func62,Tryd.ntmps62
 go_wp2
 go_loopw [5] (fun v5 wr=>∃ i:Int,v5 = .int .i64 i∧0 ≤ i∧i ≤ 7∧(∀ x ∈ [f,w0,w1,w2,w3,w4,w5].take i.toNat,x.Key = [])∧RB w.heap.size at0 (.slice (some ⟨b,o,none⟩) 7 cap) wr∧Below w.heap.size w wr)
  (fun v5 wr=>((7:Int) - intOf v5).toNat)
 case atStart=>exact ⟨0,rfl,by decide,by decide,(fun x hx=>by cases hx),hrb.out,hb3.out _ _ _⟩
 case round =>
  clear lt1 lt2 lt3 hrb hb3 d0 d1 d2 ht'
  obtain ⟨i,rfl,hi0,hi7,hks,hcb,hbl⟩:=hrel
  obtain ⟨r0,r1⟩:=hcb.cells
  have hwr:=hw'.out.more hlt hbl
  have hks':Shut _:=hks
  clear hks
  have hi:i = 0 ∨ i = 1 ∨ i = 2 ∨ i = 3 ∨ i = 4 ∨ i = 5 ∨ i = 6 ∨ i = 7:=by omega
  rcases hi with rfl | rfl | rfl | rfl | rfl | rfl | rfl | rfl
  ·have e1:=hwr.c1 0 f rfl
   rw [Nat.zero_mul,Nat.add_zero] at e1
   cases hk:(f.Key == ([]:List UInt8)) with
   | false =>
    obtain ⟨rfl,rfl,rfl⟩:=hbad'.out ⟨f,by simp,by simpa using hk⟩
    obtain ⟨⟨k0,k1,k2,k3,k4,k5⟩,⟨m0,m1⟩,fz1,fz2⟩:=hcb.out
    clear hbad' hgood' hN hO
    go_wp2
    exact hfin0.out _ _ _ _ wr hcb hbl rfl rfl
   | true =>
    have hk2:Shut (f.Key = []):=by show f.Key = []; simpa using hk
    go_wp2
    refine ⟨⟨1,rfl,by decide,by decide,fun x hx=>?_,hcb,hbl⟩,by decide⟩
    have hx':x ∈ [f]:=hx
    have hp:∀ x:Word,x ∈ ([]:List Word)→x.Key = []:=hks'.out
    simp only [List.mem_cons,List.not_mem_nil,or_false] at hx'
    subst hx'
    exact hk2.out
  ·have e1:=hwr.c1 1 w0 rfl
   cases hk:(w0.Key == ([]:List UInt8)) with
   | false =>
    obtain ⟨rfl,rfl,rfl⟩:=hbad'.out ⟨w0,by simp,by simpa using hk⟩
    obtain ⟨⟨k0,k1,k2,k3,k4,k5⟩,⟨m0,m1⟩,fz1,fz2⟩:=hcb.out
    clear hbad' hgood' hN hO
    go_wp2
    exact hfin0.out _ _ _ _ wr hcb hbl rfl rfl
   | true =>
    have hk2:Shut (w0.Key = []):=by show w0.Key = []; simpa using hk
    go_wp2
    refine ⟨⟨2,rfl,by decide,by decide,fun x hx=>?_,hcb,hbl⟩,by decide⟩
    have hx':x ∈ [f,w0]:=hx
    have hp:∀ x:Word,x ∈ ([f]:List Word)→x.Key = []:=hks'.out
    simp only [List.mem_cons,List.not_mem_nil,or_false] at hx'
    rcases hx' with rfl | rfl
    ·exact hp _ (by simp)
    ·exact hk2.out
  ·have e1:=hwr.c1 2 w1 rfl
   cases hk:(w1.Key == ([]:List UInt8)) with
   | false =>
    obtain ⟨rfl,rfl,rfl⟩:=hbad'.out ⟨w1,by simp,by simpa using hk⟩
    obtain ⟨⟨k0,k1,k2,k3,k4,k5⟩,⟨m0,m1⟩,fz1,fz2⟩:=hcb.out
    clear hbad' hgood' hN hO
    go_wp2
    exact hfin0.out _ _ _ _ wr hcb hbl rfl rfl
   | true =>
    have hk2:Shut (w1.Key = []):=by show w1.Key = []; simpa using hk
    go_wp2
    refine ⟨⟨3,rfl,by decide,by decide,fun x hx=>?_,hcb,hbl⟩,by decide⟩
    have hx':x ∈ [f,w0,w1]:=hx
    have hp:∀ x:Word,x ∈ ([f,w0]:List Word)→x.Key = []:=hks'.out
    simp only [List.mem_cons,List.not_mem_nil,or_false] at hx'
    rcases hx' with rfl | rfl | rfl
    ·exact hp _ (by simp)
    ·exact hp _ (by simp)
    ·exact hk2.out
  ·have e1:=hwr.c1 3 w2 rfl
   cases hk:(w2.Key == ([]:List UInt8)) with
   | false =>
    obtain ⟨rfl,rfl,rfl⟩:=hbad'.out ⟨w2,by simp,by simpa using hk⟩
    obtain ⟨⟨k0,k1,k2,k3,k4,k5⟩,⟨m0,m1⟩,fz1,fz2⟩:=hcb.out
    clear hbad' hgood' hN hO
    go_wp2
    exact hfin0.out _ _ _ _ wr hcb hbl rfl rfl
   | true =>
    have hk2:Shut (w2.Key = []):=by show w2.Key = []; simpa using hk
    go_wp2
    refine ⟨⟨4,rfl,by decide,by decide,fun x hx=>?_,hcb,hbl⟩,by decide⟩
    have hx':x ∈ [f,w0,w1,w2]:=hx
    have hp:∀ x:Word,x ∈ ([f,w0,w1]:List Word)→x.Key = []:=hks'.out
    simp only [List.mem_cons,List.not_mem_nil,or_false] at hx'
    rcases hx' with rfl | rfl | rfl | rfl
    ·exact hp _ (by simp)
    ·exact hp _ (by simp)
    ·exact hp _ (by simp)
    ·exact hk2.out
  ·have e1:=hwr.c1 4 w3 rfl
   cases hk:(w3.Key == ([]:List UInt8)) with
   | false =>
    obtain ⟨rfl,rfl,rfl⟩:=hbad'.out ⟨w3,by simp,by simpa using hk⟩
    obtain ⟨⟨k0,k1,k2,k3,k4,k5⟩,⟨m0,m1⟩,fz1,fz2⟩:=hcb.out
    clear hbad' hgood' hN hO
    go_wp2
    exact hfin0.out _ _ _ _ wr hcb hbl rfl rfl
   | true =>
    have hk2:Shut (w3.Key = []):=by show w3.Key = []; simpa using hk
    go_wp2
    refine ⟨⟨5,rfl,by decide,by decide,fun x hx=>?_,hcb,hbl⟩,by decide⟩
    have hx':x ∈ [f,w0,w1,w2,w3]:=hx
    have hp:∀ x:Word,x ∈ ([f,w0,w1,w2]:List Word)→x.Key = []:=hks'.out
    simp only [List.mem_cons,List.not_mem_nil,or_false] at hx'
    rcases hx' with rfl | rfl | rfl | rfl | rfl
    ·exact hp _ (by simp)
    ·exact hp _ (by simp)
    ·exact hp _ (by simp)
    ·exact hp _ (by simp)
    ·exact hk2.out
  ·have e1:=hwr.c1 5 w4 rfl
   cases hk:(w4.Key == ([]:List UInt8)) with
   | false =>
    obtain ⟨rfl,rfl,rfl⟩:=hbad'.out ⟨w4,by simp,by simpa using hk⟩
    obtain ⟨⟨k0,k1,k2,k3,k4,k5⟩,⟨m0,m1⟩,fz1,fz2⟩:=hcb.out
    clear hbad' hgood' hN hO
    go_wp2
    exact hfin0.out _ _ _ _ wr hcb hbl rfl rfl
   | true =>
    have hk2:Shut (w4.Key = []):=by show w4.Key = []; simpa using hk
    go_wp2
    refine ⟨⟨6,rfl,by decide,by decide,fun x hx=>?_,hcb,hbl⟩,by decide⟩
    have hx':x ∈ [f,w0,w1,w2,w3,w4]:=hx
    have hp:∀ x:Word,x ∈ ([f,w0,w1,w2,w3]:List Word)→x.Key = []:=hks'.out
    simp only [List.mem_cons,List.not_mem_nil,or_false] at hx'
    rcases hx' with rfl | rfl | rfl | rfl | rfl | rfl
    ·exact hp _ (by simp)
    ·exact hp _ (by simp)
    ·exact hp _ (by simp)
    ·exact hp _ (by simp)
    ·exact hp _ (by simp)
    ·exact hk2.out
  ·have e1:=hwr.c1 6 w5 rfl
   cases hk:(w5.Key == ([]:List UInt8)) with
   | false =>
    obtain ⟨rfl,rfl,rfl⟩:=hbad'.out ⟨w5,by simp,by simpa using hk⟩
    obtain ⟨⟨k0,k1,k2,k3,k4,k5⟩,⟨m0,m1⟩,fz1,fz2⟩:=hcb.out
    clear hbad' hgood' hN hO
    go_wp2
    exact hfin0.out _ _ _ _ wr hcb hbl rfl rfl
   | true =>
    have hk2:Shut (w5.Key = []):=by show w5.Key = []; simpa using hk
    go_wp2
    refine ⟨⟨7,rfl,by decide,by decide,fun x hx=>?_,hcb,hbl⟩,by decide⟩
    have hx':x ∈ [f,w0,w1,w2,w3,w4,w5]:=hx
    have hp:∀ x:Word,x ∈ ([f,w0,w1,w2,w3,w4]:List Word)→x.Key = []:=hks'.out
    simp only [List.mem_cons,List.not_mem_nil,or_false] at hx'
    rcases hx' with rfl | rfl | rfl | rfl | rfl | rfl | rfl
    ·exact hp _ (by simp)
    ·exact hp _ (by simp)
    ·exact hp _ (by simp)
    ·exact hp _ (by simp)
    ·exact hp _ (by simp)
    ·exact hp _ (by simp)
    ·exact hk2.out
  ·obtain ⟨z,hz,hres⟩:=hgood'.out hks'.out
   have hz':Shut _:=hz
   have hres':Shut _:=hres
   have hcb':Shut _:=hcb
   have hbl':Shut _:=hbl
   have hsz:w.heap.size + 3 ≤ wr.heap.size:=hcb.size
   clear hz hres hgood' hbad' hcb hbl hks' hwr hi0 hi7
   go_wp2
   go_loopw [7] (fun v7 wx=>∃ (i a0 a1 a2 a3 a4 a5 a6:Int),v7 = .int .i64 i∧1 ≤ i∧i ≤ 7∧numsR ([w0,w1,w2,w3,w4,w5].drop (i - 1).toNat) i.toNat [a0,a1,a2,a3,a4,a5,a6] = some z∧RB w.heap.size at0 (.slice (some ⟨b,o,none⟩) 7 cap) wx∧Below w.heap.size w wx∧wr.heap.size < wx.heap.size∧wx.heap[wr.heap.size]? = some (nCells a0 a1 a2 a3 a4 a5 a6))
    (fun v7 wx=>((7:Int) - intOf v7).toNat)
   case atStart =>
    have hs2:(wr.alloc (nCells 0 0 0 0 0 0 0)).heap.size = wr.heap.size + 1:=by simp
    have hs3:wr.heap.size < (wr.alloc (nCells 0 0 0 0 0 0 0)).heap.size:=by omega
    exact ⟨1,0,0,0,0,0,0,0,rfl,by decide,by decide,hz'.out,hcb'.out.alloc _,hbl'.out.alloc hbl'.out.size _,hs3,ahn wr (nCells 0 0 0 0 0 0 0)⟩
   case round =>
    clear r0 r1
    obtain ⟨i,a0,a1,a2,a3,a4,a5,a6,rfl,hi1,hi7,hq,hcb,hbl,hM,hcc⟩:=hrel
    obtain ⟨r0,r1⟩:=hcb.cells
    obtain ⟨⟨c0,c1,c2,c3,c4,c5,c6⟩,cfz⟩:=nc_cells hcc
    have hwr:=hw'.out.more hlt hbl
    have hi:i = 1 ∨ i = 2 ∨ i = 3 ∨ i = 4 ∨ i = 5 ∨ i = 6 ∨ i = 7:=by omega
    rcases hi with rfl | rfl | rfl | rfl | rfl | rfl | rfl
    ·have hq':numsR [w0,w1,w2,w3,w4,w5] 1 [a0,a1,a2,a3,a4,a5,a6] = some z:=hq
     have e1:=hwr.c2 1 w0 rfl
     have l1:w0.Text.length ≤ maxLen:=(hw'.out.l1 w0 (by simp)).2
     clear hq hwr
     unfold numsR at hq'
     obtain ⟨⟨n,is⟩,hn,hq'⟩:=bind_some hq'
     have hb1:Shut (Below w.heap.size w _):=hbl
     cases is with
     | false =>
      obtain rfl:.inl w0.At = z:=by simpa using hq'
      obtain ⟨rfl,rfl,rfl⟩:=rres_inl hres'.out
      clear hq' hres' hz'
      go_wp2_with (go_at_call 124; refine (hN _ _ n false hb1.out l1 hn).mono ?_; rintro en W2 ⟨rfl,x2⟩; obtain ⟨s1,s2,hw2,⟨r0,r1⟩,⟨⟨k0,k1,k2,k3,k4,k5⟩,⟨m0,m1⟩,fz1,fz2⟩⟩:=rafter_bad hcb hbl hlt hw'.out x2; have e0:=hw2.c0 1 w0 rfl; clear hw2)
      go_region
      go_wp2
      exact hfin.out _ _ _ _ W2 s1.out s2.out rfl rfl
     | true =>
      have hq2:Shut (numsR [w1,w2,w3,w4,w5] 2 [a0,wrap64 n,a2,a3,a4,a5,a6] = some z):=hq'
      clear hq'
      go_wp2_with (go_at_call 124; refine (hN _ _ n true hb1.out l1 hn).mono ?_; rintro en W2 ⟨rfl,x2⟩; obtain ⟨s1,s2,s3,s4,⟨c0,c1,c2,c3,c4,c5,c6⟩,cfz⟩:=rafter_num hcb hbl hM hcc x2)
      exact ⟨⟨2,a0,wrap64 n,a2,a3,a4,a5,a6,rfl,by decide,by decide,hq2.out,s1.out.set hsz _,blw_set s2.out (Nat.le_trans (Nat.le_add_right _ 3) hsz) _,by rw [World.size_setCell]; exact s3.out,heap_setCell_same _ _ 1 _ _ _ s4.out⟩,by decide⟩
    ·have hq':numsR [w1,w2,w3,w4,w5] 2 [a0,a1,a2,a3,a4,a5,a6] = some z:=hq
     have e1:=hwr.c2 2 w1 rfl
     have l1:w1.Text.length ≤ maxLen:=(hw'.out.l1 w1 (by simp)).2
     clear hq hwr
     unfold numsR at hq'
     obtain ⟨⟨n,is⟩,hn,hq'⟩:=bind_some hq'
     have hb1:Shut (Below w.heap.size w _):=hbl
     cases is with
     | false =>
      obtain rfl:.inl w1.At = z:=by simpa using hq'
      obtain ⟨rfl,rfl,rfl⟩:=rres_inl hres'.out
      clear hq' hres' hz'
      go_wp2_with (go_at_call 124; refine (hN _ _ n false hb1.out l1 hn).mono ?_; rintro en W2 ⟨rfl,x2⟩; obtain ⟨s1,s2,hw2,⟨r0,r1⟩,⟨⟨k0,k1,k2,k3,k4,k5⟩,⟨m0,m1⟩,fz1,fz2⟩⟩:=rafter_bad hcb hbl hlt hw'.out x2; have e0:=hw2.c0 2 w1 rfl; clear hw2)
      go_region
      go_wp2
      exact hfin.out _ _ _ _ W2 s1.out s2.out rfl rfl
     | true =>
      have hq2:Shut (numsR [w2,w3,w4,w5] 3 [a0,a1,wrap64 n,a3,a4,a5,a6] = some z):=hq'
      clear hq'
      go_wp2_with (go_at_call 124; refine (hN _ _ n true hb1.out l1 hn).mono ?_; rintro en W2 ⟨rfl,x2⟩; obtain ⟨s1,s2,s3,s4,⟨c0,c1,c2,c3,c4,c5,c6⟩,cfz⟩:=rafter_num hcb hbl hM hcc x2)
      exact ⟨⟨3,a0,a1,wrap64 n,a3,a4,a5,a6,rfl,by decide,by decide,hq2.out,s1.out.set hsz _,blw_set s2.out (Nat.le_trans (Nat.le_add_right _ 3) hsz) _,by rw [World.size_setCell]; exact s3.out,heap_setCell_same _ _ 2 _ _ _ s4.out⟩,by decide⟩
    ·have hq':numsR [w2,w3,w4,w5] 3 [a0,a1,a2,a3,a4,a5,a6] = some z:=hq
     have e1:=hwr.c2 3 w2 rfl
     have l1:w2.Text.length ≤ maxLen:=(hw'.out.l1 w2 (by simp)).2
     clear hq hwr
     unfold numsR at hq'
     obtain ⟨⟨n,is⟩,hn,hq'⟩:=bind_some hq'
     have hb1:Shut (Below w.heap.size w _):=hbl
     cases is with
     | false =>
      obtain rfl:.inl w2.At = z:=by simpa using hq'
      obtain ⟨rfl,rfl,rfl⟩:=rres_inl hres'.out
      clear hq' hres' hz'
      go_wp2_with (go_at_call 124; refine (hN _ _ n false hb1.out l1 hn).mono ?_; rintro en W2 ⟨rfl,x2⟩; obtain ⟨s1,s2,hw2,⟨r0,r1⟩,⟨⟨k0,k1,k2,k3,k4,k5⟩,⟨m0,m1⟩,fz1,fz2⟩⟩:=rafter_bad hcb hbl hlt hw'.out x2; have e0:=hw2.c0 3 w2 rfl; clear hw2)
      go_region
      go_wp2
      exact hfin.out _ _ _ _ W2 s1.out s2.out rfl rfl
     | true =>
      have hq2:Shut (numsR [w3,w4,w5] 4 [a0,a1,a2,wrap64 n,a4,a5,a6] = some z):=hq'
      clear hq'
      go_wp2_with (go_at_call 124; refine (hN _ _ n true hb1.out l1 hn).mono ?_; rintro en W2 ⟨rfl,x2⟩; obtain ⟨s1,s2,s3,s4,⟨c0,c1,c2,c3,c4,c5,c6⟩,cfz⟩:=rafter_num hcb hbl hM hcc x2)
      exact ⟨⟨4,a0,a1,a2,wrap64 n,a4,a5,a6,rfl,by decide,by decide,hq2.out,s1.out.set hsz _,blw_set s2.out (Nat.le_trans (Nat.le_add_right _ 3) hsz) _,by rw [World.size_setCell]; exact s3.out,heap_setCell_same _ _ 3 _ _ _ s4.out⟩,by decide⟩
    ·have hq':numsR [w3,w4,w5] 4 [a0,a1,a2,a3,a4,a5,a6] = some z:=hq
     have e1:=hwr.c2 4 w3 rfl
     have l1:w3.Text.length ≤ maxLen:=(hw'.out.l1 w3 (by simp)).2
     clear hq hwr
     unfold numsR at hq'
     obtain ⟨⟨n,is⟩,hn,hq'⟩:=bind_some hq'
     have hb1:Shut (Below w.heap.size w _):=hbl
     cases is with
     | false =>
      obtain rfl:.inl w3.At = z:=by simpa using hq'
      obtain ⟨rfl,rfl,rfl⟩:=rres_inl hres'.out
      clear hq' hres' hz'
      go_wp2_with (go_at_call 124; refine (hN _ _ n false hb1.out l1 hn).mono ?_; rintro en W2 ⟨rfl,x2⟩; obtain ⟨s1,s2,hw2,⟨r0,r1⟩,⟨⟨k0,k1,k2,k3,k4,k5⟩,⟨m0,m1⟩,fz1,fz2⟩⟩:=rafter_bad hcb hbl hlt hw'.out x2; have e0:=hw2.c0 4 w3 rfl; clear hw2)
      go_region
      go_wp2
      exact hfin.out _ _ _ _ W2 s1.out s2.out rfl rfl
     | true =>
      have hq2:Shut (numsR [w4,w5] 5 [a0,a1,a2,a3,wrap64 n,a5,a6] = some z):=hq'
      clear hq'
      go_wp2_with (go_at_call 124; refine (hN _ _ n true hb1.out l1 hn).mono ?_; rintro en W2 ⟨rfl,x2⟩; obtain ⟨s1,s2,s3,s4,⟨c0,c1,c2,c3,c4,c5,c6⟩,cfz⟩:=rafter_num hcb hbl hM hcc x2)
      exact ⟨⟨5,a0,a1,a2,a3,wrap64 n,a5,a6,rfl,by decide,by decide,hq2.out,s1.out.set hsz _,blw_set s2.out (Nat.le_trans (Nat.le_add_right _ 3) hsz) _,by rw [World.size_setCell]; exact s3.out,heap_setCell_same _ _ 4 _ _ _ s4.out⟩,by decide⟩
    ·have hq':numsR [w4,w5] 5 [a0,a1,a2,a3,a4,a5,a6] = some z:=hq
     have e1:=hwr.c2 5 w4 rfl
     have l1:w4.Text.length ≤ maxLen:=(hw'.out.l1 w4 (by simp)).2
     clear hq hwr
     unfold numsR at hq'
     obtain ⟨⟨n,is⟩,hn,hq'⟩:=bind_some hq'
     have hb1:Shut (Below w.heap.size w _):=hbl
     cases is with
     | false =>
      obtain rfl:.inl w4.At = z:=by simpa using hq'
      obtain ⟨rfl,rfl,rfl⟩:=rres_inl hres'.out
      clear hq' hres' hz'
      go_wp2_with (go_at_call 124; refine (hN _ _ n false hb1.out l1 hn).mono ?_; rintro en W2 ⟨rfl,x2⟩; obtain ⟨s1,s2,hw2,⟨r0,r1⟩,⟨⟨k0,k1,k2,k3,k4,k5⟩,⟨m0,m1⟩,fz1,fz2⟩⟩:=rafter_bad hcb hbl hlt hw'.out x2; have e0:=hw2.c0 5 w4 rfl; clear hw2)
      go_region
      go_wp2
      exact hfin.out _ _ _ _ W2 s1.out s2.out rfl rfl
     | true =>
      have hq2:Shut (numsR [w5] 6 [a0,a1,a2,a3,a4,wrap64 n,a6] = some z):=hq'
      clear hq'
      go_wp2_with (go_at_call 124; refine (hN _ _ n true hb1.out l1 hn).mono ?_; rintro en W2 ⟨rfl,x2⟩; obtain ⟨s1,s2,s3,s4,⟨c0,c1,c2,c3,c4,c5,c6⟩,cfz⟩:=rafter_num hcb hbl hM hcc x2)
      exact ⟨⟨6,a0,a1,a2,a3,a4,wrap64 n,a6,rfl,by decide,by decide,hq2.out,s1.out.set hsz _,blw_set s2.out (Nat.le_trans (Nat.le_add_right _ 3) hsz) _,by rw [World.size_setCell]; exact s3.out,heap_setCell_same _ _ 5 _ _ _ s4.out⟩,by decide⟩
    ·have hq':numsR [w5] 6 [a0,a1,a2,a3,a4,a5,a6] = some z:=hq
     have e1:=hwr.c2 6 w5 rfl
     have l1:w5.Text.length ≤ maxLen:=(hw'.out.l1 w5 (by simp)).2
     clear hq hwr
     unfold numsR at hq'
     obtain ⟨⟨n,is⟩,hn,hq'⟩:=bind_some hq'
     have hb1:Shut (Below w.heap.size w _):=hbl
     cases is with
     | false =>
      obtain rfl:.inl w5.At = z:=by simpa using hq'
      obtain ⟨rfl,rfl,rfl⟩:=rres_inl hres'.out
      clear hq' hres' hz'
      go_wp2_with (go_at_call 124; refine (hN _ _ n false hb1.out l1 hn).mono ?_; rintro en W2 ⟨rfl,x2⟩; obtain ⟨s1,s2,hw2,⟨r0,r1⟩,⟨⟨k0,k1,k2,k3,k4,k5⟩,⟨m0,m1⟩,fz1,fz2⟩⟩:=rafter_bad hcb hbl hlt hw'.out x2; have e0:=hw2.c0 6 w5 rfl; clear hw2)
      go_region
      go_wp2
      exact hfin.out _ _ _ _ W2 s1.out s2.out rfl rfl
     | true =>
      have hq2:Shut (numsR [] 7 [a0,a1,a2,a3,a4,a5,wrap64 n] = some z):=hq'
      clear hq'
      go_wp2_with (go_at_call 124; refine (hN _ _ n true hb1.out l1 hn).mono ?_; rintro en W2 ⟨rfl,x2⟩; obtain ⟨s1,s2,s3,s4,⟨c0,c1,c2,c3,c4,c5,c6⟩,cfz⟩:=rafter_num hcb hbl hM hcc x2)
      exact ⟨⟨7,a0,a1,a2,a3,a4,a5,wrap64 n,rfl,by decide,by decide,hq2.out,s1.out.set hsz _,blw_set s2.out (Nat.le_trans (Nat.le_add_right _ 3) hsz) _,by rw [World.size_setCell]; exact s3.out,heap_setCell_same _ _ 6 _ _ _ s4.out⟩,by decide⟩
    ·have hq':numsR [] 7 [a0,a1,a2,a3,a4,a5,a6] = some z:=hq
     clear hq hwr
     obtain rfl:.inr [a0,a1,a2,a3,a4,a5,a6] = z:=by simpa [numsR] using hq'
     obtain ⟨e,he,hres2⟩:=rres_inr hres'.out
     clear hq' hres' hz'
     obtain ⟨⟨k0,k1,k2,k3,k4,k5⟩,⟨m0,m1⟩,fz1,fz2⟩:=hcb.out
     have hb1:Shut (∀ o1,Below w.heap.size w (World.alloc _ o1)):=fun o1=>hbl.alloc hbl.size o1
     rcases hres2 with ⟨hne,rfl,rfl,rfl⟩ | ⟨rfl,rfl,rfl,rfl⟩
     ·have hne2:(e != (0:Int)) = true:=bne_iff_ne.2 hne
      go_wp2_with (go_at_call 116; refine (hO _ ⟨a1,a2,a3,a4,a5,a6⟩ e (hb1.out _) he).mono ?_; rintro en W2 ⟨rfl,x2⟩; obtain ⟨s1,s2,⟨g0,g1,g2,g3,g4,g5⟩,⟨k0,k1,k2,k3,k4,k5⟩,⟨m0,m1⟩,fz1,fz2⟩:=rafter_one (c:=⟨a1,a2,a3,a4,a5,a6⟩) hcb hbl x2)
      exact hfin0.out _ _ _ _ W2 s1.out s2.out rfl rfl
     ·go_wp2_with (go_at_call 116; refine (hO _ ⟨a1,a2,a3,a4,a5,a6⟩ 0 (hb1.out _) he).mono ?_; rintro en W2 ⟨rfl,x2⟩; obtain ⟨s1,s2,⟨g0,g1,g2,g3,g4,g5⟩,⟨k0,k1,k2,k3,k4,k5⟩,⟨m0,m1⟩,fz1,fz2⟩:=rafter_one (c:=⟨a1,a2,a3,a4,a5,a6⟩) hcb hbl x2)
      exact hfin0.out _ _ _ _ W2 s1.out s2.out rfl rfl
end Go.Proofs.YtjcbpfhlgebgdaaDoor
