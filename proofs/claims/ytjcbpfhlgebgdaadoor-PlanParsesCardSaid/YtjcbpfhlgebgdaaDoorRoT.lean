import Derived.Test.YtjcbpfhlgebgdaaDoorRoS
namespace Go.Seq
open Go.RowKit Go.Shelf Go.Proofs
theorem sub_f (f n:Nat) (hf:f ≤ 20001) (hn:n ≤ 20001):wrap64 ((f:Int) + (n:Int) - (f:Int)) = (n:Int):=by rw [show (f:Int) + (n:Int) - (f:Int) = (n:Int) by omega]; exact IntWalk.wrap64_in _ (by omega)
theorem nxt_f (f n:Nat) (hf:f ≤ 20001) (hn:n ≤ 20001):wrap64 ((f:Int) + (n:Int) + 1) = (((f + n + 1:Nat)):Int):=by rw [IntWalk.wrap64_in _ (by omega)]; omega
theorem add_b (f:Nat) {b:Int} (hf:f ≤ 20001) (h1:-1 ≤ b) (h2:b ≤ 1000):wrap64 ((f:Int) + b) = (f:Int) + b:=IntWalk.wrap64_in _ (by omega)
theorem add_w (f:Nat) {b:Int} (hf:f ≤ 20001) (h1:0 ≤ b) (h2:b ≤ 1000):wrap64 (b + (f:Int)) = b + (f:Int):=IntWalk.wrap64_in _ (by omega)
theorem one_i (i:Nat) (h:i ≤ 20001):wrap64 ((i:Int) + 1) = ((i + 1:Nat):Int):=by rw [IntWalk.wrap64_in _ (by omega)]; omega
theorem line_facts (S:ByteArray) (hS:S.size ≤ 20000) (f:Nat) (hf:f ≤ S.size):∃ (n:Nat) (ps2:List (List UInt8)) (p:List UInt8),p.length = n∧n ≤ 20000∧f ≤ 20000∧S.extract f (f + n) = bsOf p∧pieces 10 (S.data.toList.drop f) = p :: ps2 ∧
  ((f + n + 1 ≤ S.size∧ps2 = pieces 10 (S.data.toList.drop (f + n + 1))) ∨ (f + n + 1 = S.size + 1∧ps2 = []))∧(∀ j,j < n→(f:Int) + (j:Int) < (S.size:Int)∧∃ h:f + j < S.size,((S[f + j]'h).toNat:Int) ≠ 10)∧(f:Int) + (n:Int) ≤ (S.size:Int) ∧
  (¬ (f:Int) + (n:Int) < (S.size:Int) ∨ ((f:Int) + (n:Int) < (S.size:Int)∧∃ h:f + n < S.size,((S[f + n]'h).toNat:Int) = 10)):=by
 have hSl:S.data.toList.length = S.size:=Array.length_toList
 obtain ⟨n,hn⟩:∃ n,nlL (S.data.toList.drop f) = n:=⟨_,rfl⟩
 have hn1:=(nl_at (S.data.toList.drop f) n).2 hn.symm
 have hdl:(S.data.toList.drop f).length = S.size - f:=by rw [List.length_drop,hSl]
 have hn2:=hn1.1
 rw [hdl] at hn2
 have hj:∀ j,j < n→(f:Int) + (j:Int) < (S.size:Int)∧∃ h:f + j < S.size,((S[f + j]'h).toNat:Int) ≠ 10:=fun j hj=>by
  obtain ⟨h1,h2⟩:=(nl_at (S.data.toList.drop f) j).1 (by rw [hn]; exact hj)
  rw [List.getElem_drop] at h2
  exact ⟨by omega,by omega,fun e=>h2 (UInt8.toNat_inj.1 (by show _ = 10; exact Int.ofNat.inj e))⟩
 have hex:S.extract f (f + n) = bsOf ((S.data.toList.drop f).take n):=by rw [ext_dt,show f + n - f = n by omega]; rfl
 have hpl:((S.data.toList.drop f).take n).length = n:=by rw [List.length_take,hdl]; omega
 rcases Nat.lt_or_ge (f + n) S.size with hlt | hge
 ·have hps:=(pieces_nl (S.data.toList.drop f)).2 (by rw [hn,hdl]; omega)
  rw [hn,List.drop_drop] at hps
  have h10:=hn1.2 (by rw [hdl]; omega)
  rw [List.getElem_drop] at h10
  exact ⟨n,_,_,hpl,by omega,by omega,hex,hps,.inl ⟨by omega,by rw [show f + (n + 1) = f + n + 1 by omega]⟩,hj,by omega,.inr ⟨by omega,hlt,by show ((S.data.toList[f + n]).toNat:Int) = 10; rw [h10]; rfl⟩⟩
 ·have hps:=(pieces_nl (S.data.toList.drop f)).1 (by rw [hn,hdl]; omega)
  rw [← List.take_of_length_le (l:=S.data.toList.drop f) (i:=n) (by rw [hdl]; omega)] at hps
  refine ⟨n,[],_,hpl,by omega,by omega,hex,?_,.inr ⟨by omega,rfl⟩,hj,by omega,.inl (by omega)⟩
  rw [List.take_of_length_le (l:=S.data.toList.drop f) (i:=n) (by rw [hdl]; omega)] at hps ⊢
  exact hps
theorem ref_cells {N:Nat} {W:World} {a b:Int} (h:W.heap[N]? = some (.cells #[.int .i64 a,.int .i64 b] 30 (0,0))):W.cell? ⟨N,0,none⟩ = some (.int .i64 a)∧W.cell? ⟨N,1,none⟩ = some (.int .i64 b)∧W.frozen? ⟨N,0,none⟩ = false∧W.frozen? ⟨N,1,none⟩ = false:=by
 simp [World.cell?,World.frozen?,h]
theorem ref_store {N:Nat} {W:World} {a b:Int} (h:W.heap[N]? = some (.cells #[.int .i64 a,.int .i64 b] 30 (0,0))) (c d:Int):((W.setCell ⟨N,0,none⟩ (.int .i64 c)).setCell ⟨N,1,none⟩ (.int .i64 d)).heap[N]? = some (.cells #[.int .i64 c,.int .i64 d] 30 (0,0)) :=
 heap_setCell_same _ _ 1 _ _ (.int .i64 d) (heap_setCell_same _ _ 0 _ _ (.int .i64 c) h)
theorem ref_below {N:Nat} {w W:World} {a b:Int} (hb:Below w.heap.size w W) (hN:w.heap.size = N) (h:W.heap[N]? = some (.cells #[.int .i64 a,.int .i64 b] 30 (0,0))) (u v:Value):Below w.heap.size w ((W.setCell ⟨N,0,none⟩ u).setCell ⟨N,1,none⟩ v):=below_set1 (below_set1 hb (by simp [hN]) _) (by simp [hN]) _
theorem ref_fin {R:Ending→World→Prop} {tmps:Array Value} {B:World} {N:Nat} {v:Value} {a b:Int} (hB:B.heap[N]? = some (.cells #[.int .i64 a,.int .i64 b] 30 (0,0))) (h2:tmps[2]?.getD undef = v) (h3:tmps[3]?.getD undef = .pointer (some ⟨N,0,none⟩)) (h:R (.returned (.tuple #[v,.agg #[.int .i64 a,.int .i64 b]])) B):bodyPost Tryd.prog Tryd.f61 R .ret { tmps,defers:=[] } B:=by
 obtain ⟨q0,q1,_,_⟩:=ref_cells hB
 refine bodyPost_ret (v:=.tuple #[v,.agg #[.int .i64 a,.int .i64 b]]) ?_ rfl h
 simp [results,Tryd.f61,go_sem,h2,h3,q0,q1]
theorem own_some {W:World} {base:Nat} {e:TypeId} {size:Nat} {ba:Option Addr} {n cap:Nat} {xs:List Value} (h:W.ownsRow base e size (.slice ba n cap) n xs) (hn:0 < n):∃ g,ba = some ⟨g,0,none⟩∧n ≤ cap:=by
 obtain ⟨hl,⟨h0,h1⟩ | ⟨g',cap',cur,hv,hb,hh,hc,hm,hs,ht⟩⟩:=h
 ·omega
 ·cases hv; exact ⟨g',rfl,hc⟩
theorem mid_at {x:Wd} (a:Int):∀ {l:List Wd} {i:Nat},l[i]? = some x→((l.take i).map (shW a)++l.drop i)[i]? = some x
 | [],i,h=>by simp at h
 | y :: l,0,h=>by simpa using h
 | y :: l,i + 1,h=>by simpa using mid_at a (l:=l) (i:=i) (by simpa using h)
theorem mid_set {x:Wd} (a:Int):∀ {l:List Wd} {i:Nat},l[i]? = some x→((l.take i).map (shW a)++l.drop i).set i (x.1 + a,x.2) = (l.take (i + 1)).map (shW a)++l.drop (i + 1)
 | [],i,h=>by simp at h
 | y :: l,0,h=>by simp at h; subst h; simp [shW]
 | y :: l,i + 1,h=>by simpa using mid_set a (l:=l) (i:=i) (by simpa using h)
theorem mid_len (a:Int) (l:List Wd) (i:Nat) (hi:i ≤ l.length):((l.take i).map (shW a)++l.drop i).length = l.length:=by simp; omega
theorem lt_i {i n:Nat} (h:i < n):(i:Int) < (n:Int):=by omega
theorem mea_i {i n:Nat} (h:i < n):((n:Int) - ((i + 1:Nat):Int)).toNat < ((n:Int) - (i:Int)).toNat:=by omega
theorem mea_f {f n s:Nat} (h:(f:Int) + (n:Int) ≤ (s:Int)):((s:Int) + 1 - ((f + n + 1:Nat):Int)).toNat < ((s:Int) + 1 - (f:Int)).toNat:=by omega
theorem idx3 {i n m:Nat} (h:i < n) (hm:m = n * 3):i * 3 < m:=by omega
theorem to_next (f n:Nat) (p:List UInt8) (hp:p.length = n):(f:Int) + ((p.length:Int) + 1) = ((f + n + 1:Nat):Int):=by omega
theorem ref_own {M N:Nat} {W:World} {e:TypeId} {size:Nat} {v:Value} {n:Nat} {xs:List Value} (h:W.ownsRow (N + 1) e size v n xs) (hM:M ≤ N) (a b:Value):((W.setCell ⟨N,0,none⟩ a).setCell ⟨N,1,none⟩ b).ownsRow M e size v n xs :=
 own_mono' (own_kept h fun g cur _ _ hge=>(Below.heap_setCell _ _ _ _ (by show g ≠ N; omega)).trans (Below.heap_setCell _ _ _ _ (by show g ≠ N; omega))) (by omega)
theorem blk_keep {N:Nat} {A W3:World} {o1 ob:Obj} {v:Value} {e:TypeId} {size n:Nat} {xs:List Value} (hN:N + 1 ≤ A.heap.size) (hown:A.ownsRow (N + 1) e size v n xs) (hg:(A.alloc o1).grownBy W3 v.ownBlock) (h:A.heap[N]? = some ob):W3.heap[N]? = some ob :=
 (hg.block N (by simp; omega) (fun e=>by have:=(own_blk hown e.symm).1; omega)).trans ((Below.heap_alloc _ _ _ (by omega)).trans h)
theorem ol_next {o f n:Nat} (h:o ≤ f):o ≤ f + n + 1:=by omega
theorem ol_next2 {o f n:Nat} (h:o ≤ f):o + 1 ≤ f + n + 1:=by omega
theorem ol_max {o f:Nat} (h:o ≤ f) (hf:f ≤ 20000):o + 1 ≤ maxLen:=by unfold maxLen; omega
theorem ol_max2 {o f:Nat} (h:o ≤ f) (hf:f ≤ 20000):(o + 1) * 32 ≤ 140737488355328:=by omega
theorem mea_j {s:Nat} {f j:Nat} (h:(f:Int) + (j:Int) < (s:Int)):((s:Int) - ((f:Int) + ((j + 1:Nat):Int))).toNat < ((s:Int) - ((f:Int) + (j:Int))).toNat:=by omega
theorem nxt_j (f j:Nat) (hf:f ≤ 20000) (hj:j ≤ 20000):wrap64 ((f:Int) + (j:Int) + 1) = (f:Int) + ((j + 1:Nat):Int):=by rw [IntWalk.wrap64_in _ (by omega)]; omega
theorem toN_fj (f j:Nat):((f:Int) + (j:Int)).toNat = f + j:=by omega
theorem nn_fj (f j:Nat):0 ≤ (f:Int) + (j:Int):=by omega
theorem le_fn (f n:Nat):(f:Int) ≤ (f:Int) + (n:Int):=by omega
theorem cast_gt {n:Nat} (h:1000 < n):(1000:Int) < (n:Int):=by omega
theorem cast_ngt {n:Nat} (h:¬ 1000 < n):¬ (1000:Int) < (n:Int):=by omega
theorem cast_le {a b:Nat} (h:a ≤ b):(a:Int) ≤ (b:Int):=by omega
theorem cast_nle {a:Nat}:¬ ((a + 1:Nat):Int) ≤ (a:Int):=by omega
set_option maxRecDepth 20000 in
set_option maxHeartbeats 8000000 in
theorem refrows_in (rowL:List UInt8→Option (List Wd × Int)) (S:ByteArray) (hS:S.size ≤ 20000) (w:World)
  (hR:∀ W (L:ByteArray) l bad,L.size ≤ 1000→Below w.heap.size w W→rowL L.data.toList = some (l,bad)→Calls Tryd.prog 123 #[.string L] W fun e W'=>∃ v,e = .returned (.tuple #[v,.int .i64 bad])∧Below W.heap.size W W'∧W'.ownsRow W.heap.size 101 3 v l.length (cellsW l))
  (hRb:∀ L l bad,L.length ≤ 1000→rowL L = some (l,bad)→-1 ≤ bad∧bad ≤ 1000∧l.length ≤ 1001∧∀ x ∈ l,0 ≤ x.1∧x.1 ≤ 1000)
  {out:List (Int × List Wd)} {e1 e2:Int} (hr:refRowsF rowL (pieces 10 S.data.toList) [] 0 = some (out,e1,e2)) :
  Calls Tryd.prog 61 #[.string S] w fun en w'=>∃ v vs,en = .returned (.tuple #[v,.agg #[.int .i64 e1,.int .i64 e2]])∧Below w.heap.size w w' ∧
   w'.ownsRow w.heap.size 97 2 v out.length (cellsR out vs)∧vs.length = out.length∧∀ (i:Nat) (b:Int) (ws:List Wd) (u:Value),out[i]? = some (b,ws)→vs[i]? = some u→w'.ownsRow w.heap.size 101 3 u ws.length (cellsW ws):=by
 have mixed:Tryd.prog.follows .mixedOrders = true:=by kernel_rfl
 have hSi:¬ (20000:Int) < (S.size:Int):=by omega
 obtain ⟨N,hN⟩:∃ N,w.heap.size = N:=⟨_,rfl⟩
 have hSl:S.data.toList.length = S.size:=Array.length_toList
 go_enter Tryd.func61,Tryd.ntmps61
 go_wp2
 go_loopw [4,5] (fun v4 v5 wr=>∃ (ps:List (List UInt8)) (o:List (Int × List Wd)) (vs:List Value) (f:Nat),v5 = .int .i64 (f:Int)∧refRowsF rowL ps o (f:Int) = some (out,e1,e2)∧((f ≤ S.size∧ps = pieces 10 (S.data.toList.drop f)) ∨ (f = S.size + 1∧ps = []))∧RS (N + 1) w wr v4 vs o∧wr.heap[N]? = some (.cells #[.int .i64 0,.int .i64 0] 30 (0,0))∧o.length ≤ f)
  (fun v4 v5 wr=>((S.size:Int) + 1 - intOf v5).toNat)
 case atStart =>
  refine ⟨pieces 10 S.data.toList,[],[],0,rfl,hr,.inl ⟨Nat.zero_le _,rfl⟩,⟨(Below.refl _ _).alloc (Nat.le_refl _) _,by simp [hN],World.ownsRow_nil _ _ _ _,rfl,fun i b ws u h=>by simp at h⟩,by rw [← hN]; exact ahn w _,Nat.zero_le _⟩
 case round =>
  obtain ⟨ps,o,vs,f,rfl,hq,hps,hRS,hb0,hol⟩:=hrel
  have hcf:wr.cell? ⟨N,0,none⟩ = some (.int .i64 0)∧wr.cell? ⟨N,1,none⟩ = some (.int .i64 0)∧wr.frozen? ⟨N,0,none⟩ = false∧wr.frozen? ⟨N,1,none⟩ = false:=by simp [World.cell?,World.frozen?,hb0]
  obtain ⟨c0,c1,c0f,c1f⟩:=hcf
  rcases hps with ⟨hf,rfl⟩ | ⟨rfl,rfl⟩
  ·obtain ⟨n,ps2,p,hpl,hn2,hf2,hex,hps,hps9,hj9,hle9,hend⟩:=line_facts S hS f hf
   rw [hps] at hq
   have hfi:=cast_le hf
   clear hps
   clear hr
   obtain ⟨hq⟩:Nonempty (Shut (refRowsF rowL (p :: ps2) o (f:Int) = some (out,e1,e2))):=⟨hq⟩
   obtain ⟨hj9⟩:Nonempty (Shut (∀ j,j < n→(f:Int) + (j:Int) < (S.size:Int)∧∃ h:f + j < S.size,((S[f + j]'h).toNat:Int) ≠ 10)):=⟨hj9⟩
   go_wp2
   go_loopw [6] (fun v6 w6=>∃ j:Nat,v6 = .int .i64 ((f:Int) + (j:Int))∧j ≤ n∧w6 = wr) (fun v6 w6=>((S.size:Int) - intOf v6).toNat)
   case atStart=>exact ⟨0,by simp,Nat.zero_le _,rfl⟩
   case round =>
    obtain ⟨j,rfl,hj,rfl⟩:=hrel
    have hx:=toN_fj f j
    have hx0:=nn_fj f j
    have hlf:=le_fn f j
    by_cases hjn:j < n
    ·obtain ⟨g1,g2,g3⟩:=hj9.out j hjn
     have bw:(((S[f + j]'g2).toNat:Int) != 10) = true:=bne_iff_ne.2 g3
     have hnx:=nxt_j f j hf2 (Nat.le_trans (Nat.le_of_lt hjn) hn2)
     clear hR hRb hq hj9 hRS
     clear hend
     try clear hps9
     clear hle9 hex hpl hol
     try clear hb0
     try clear hfi
     try clear hf
     try clear hSi
     try clear hSl
     clear c0 c1 c0f c1f
     go_wp2
     all_goals first | exact absurd (bw.symm.trans ‹(((S[f + j]'g2).toNat:Int) != 10) = false›) (by decide) | skip
     refine ⟨⟨j + 1,rfl,hjn,by first | rfl | trivial⟩,?_⟩
     simp only [intOf]
     exact mea_j g1
    ·obtain rfl:j = n:=Nat.le_antisymm hj (Nat.not_lt.1 hjn)
     clear hj9 hj hjn
     rcases hend with hend | ⟨g1,g2,g3⟩
     ·have hend2:(S.size:Int) ≤ (f:Int) + (j:Int):=by first | exact hend | exact Int.not_lt.1 hend
      by_cases h1000:1000 < j
      ·have hgi:=cast_gt h1000
       have hw1:=sub_f f j (Nat.le_succ_of_le hf2) (Nat.le_succ_of_le hn2)
       obtain ⟨hkeep⟩:Nonempty (Shut (RS (N + 1) w wr u4 vs o∧wr.heap[N]? = some (.cells #[.int .i64 0,.int .i64 0] 30 (0,0))∧w.heap.size = N∧p.length = j∧1000 < j)):=⟨⟨hRS,hb0,hN,hpl,h1000⟩⟩
       clear hRS hb0 hN hpl h1000 hR hRb hps9 hol hn2 hf2
       try clear hSl
       try clear hSi
       try clear hS
       try clear hf
       try clear hfi
       go_wp2
       obtain ⟨hRS,hb0,hN,hpl,h1000⟩:=hkeep.out
       refine ref_fin (a:=4) (b:=(f:Int)) (ref_store hb0 4 (f:Int)) rfl rfl ?_
       have hq':refRowsF rowL (p :: ps2) o (f:Int) = some (out,e1,e2):=hq
       rw [refRowsF,if_pos (by rw [hpl]; exact h1000)] at hq'
       simp only [Option.some.injEq,Prod.mk.injEq] at hq'
       obtain ⟨rfl,rfl,rfl⟩:=hq'
       first
        | exact ⟨_,[],rfl,ref_below hRS.bel hN hb0 _ _,World.ownsRow_nil _ _ _ _,rfl,fun i b ws u h=>by simp at h⟩
        | exact ⟨_,rfl,ref_below hRS.bel hN hb0 _ _,[],World.ownsRow_nil _ _ _ _,rfl,fun i b ws u h=>by simp at h⟩
      ·have hgi:=cast_ngt h1000
       cases hrow:rowL p with
       | none =>
        have hq':refRowsF rowL (p :: ps2) o (f:Int) = some (out,e1,e2):=hq
        rw [refRowsF,if_neg (by rw [hpl]; exact h1000),hrow] at hq'
        cases hq'
       | some r =>
       obtain ⟨l,bad⟩:=r
       have hq':refRowsF rowL (p :: ps2) o (f:Int) = some (out,e1,e2):=hq
       rw [refRowsF,if_neg (by rw [hpl]; exact h1000),hrow] at hq'
       simp only [Option.bind_some] at hq'
       obtain ⟨hq2⟩:Nonempty (Shut ((if 0 ≤ bad then some ([],3,(f:Int) + bad) else refRowsF rowL ps2 (if l = [] then o else o++[((f:Int),l.map (shW (f:Int)))]) ((f:Int) + ((p.length:Int) + 1))) = some (out,e1,e2))):=⟨hq'⟩
       clear hq hq'
       obtain ⟨b1,b2,b3,b4⟩:=hRb p l bad (by rw [hpl]; exact Nat.not_lt.1 h1000) hrow
       have hW:=fun W hb=>hR W (bsOf p) l bad (by show p.toArray.size ≤ 1000; rw [List.size_toArray,hpl]; exact Nat.not_lt.1 h1000) hb hrow
       have hwb:=add_b f (Nat.le_succ_of_le hf2) b1 b2
       clear hR hRb
       have hcall:=hW wr hRS.bel
       clear hW
       have hw1:=sub_f f j (Nat.le_succ_of_le hf2) (Nat.le_succ_of_le hn2)
       obtain ⟨hkeep⟩:Nonempty (Shut (RS (N + 1) w wr u4 vs o∧wr.heap[N]? = some (.cells #[.int .i64 0,.int .i64 0] 30 (0,0))∧w.heap.size = N∧p.length = j∧¬ 1000 < j∧j ≤ 20000∧f ≤ 20000∧o.length ≤ f∧(-1 ≤ bad∧bad ≤ 1000∧l.length ≤ 1001∧∀ x ∈ l,0 ≤ x.1∧x.1 ≤ 1000)∧((f + j + 1 ≤ S.size∧ps2 = pieces 10 (S.data.toList.drop (f + j + 1))) ∨ (f + j + 1 = S.size + 1∧ps2 = [])))):=⟨⟨hRS,hb0,hN,hpl,h1000,hn2,hf2,hol,⟨b1,b2,b3,b4⟩,hps9⟩⟩
       clear hRS hb0 hN hpl h1000 hn2 hf2 hol b1 b2 b3 b4 hps9
       try clear hSl
       try clear hSi
       try clear hS
       try clear hf
       try clear hfi
       by_cases hbad:0 ≤ bad
       ·go_wp2_with (go_at_call 123; refine hcall.mono ?_; rintro e W1 ⟨v,rfl,x1,ow⟩; obtain ⟨hRS,hb0,hN,hpl,h1000,hn2,hf2,hol,⟨b1,b2,b3,b4⟩,hps9⟩:=hkeep.out; have hb1:=(x1.block N (Array.getElem?_eq_some_iff.1 hb0).1).trans hb0; have hcf1:=ref_cells hb1; obtain ⟨q0,q1,q0f,q1f⟩:=hcf1; clear hRS hb0 hN hpl h1000 hn2 hf2 hol b1 b2 b3 b4 hps9)
        obtain ⟨hRS,hb0,hN,hpl,h1000,hn2,hf2,hol,⟨b1,b2,b3,b4⟩,hps9⟩:=hkeep.out
        refine ref_fin (a:=3) (b:=(f:Int) + bad) (ref_store hb1 3 ((f:Int) + bad)) rfl rfl ?_
        have hq':(if 0 ≤ bad then some ([],3,(f:Int) + bad) else refRowsF rowL ps2 (if l = [] then o else o++[((f:Int),l.map (shW (f:Int)))]) ((f:Int) + ((p.length:Int) + 1))) = some (out,e1,e2):=hq2
        rw [if_pos hbad] at hq'
        simp only [Option.some.injEq,Prod.mk.injEq] at hq'
        obtain ⟨rfl,rfl,rfl⟩:=hq'
        first
         | exact ⟨_,[],rfl,ref_below (RS.kept hRS (Nat.le_trans (Nat.le_of_eq hN) (Nat.le_succ _)) x1).bel hN hb1 _ _,World.ownsRow_nil _ _ _ _,rfl,fun i b ws u h=>by simp at h⟩
         | exact ⟨_,rfl,ref_below (RS.kept hRS (Nat.le_trans (Nat.le_of_eq hN) (Nat.le_succ _)) x1).bel hN hb1 _ _,[],World.ownsRow_nil _ _ _ _,rfl,fun i b ws u h=>by simp at h⟩
       ·go_wp2_with (go_at_call 123; refine hcall.mono ?_; rintro e W1 ⟨v,rfl,x1,ow⟩; obtain ⟨ba,cap,rfl⟩:=own_form ow)
        go_loopw [9] (fun v9 w9=>∃ i:Nat,v9 = .int .i64 (i:Int)∧i ≤ l.length∧Below wr.heap.size wr w9∧w9.ownsRow wr.heap.size 101 3 (.slice ba l.length cap) l.length (cellsW ((l.take i).map (shW (f:Int))++l.drop i)))
         (fun v9 w9=>((l.length:Int) - intOf v9).toNat)
        case atStart=>exact ⟨0,rfl,Nat.zero_le _,x1,by simpa using ow⟩
        case round =>
         obtain ⟨i,rfl,hi,hb9,ho9⟩:=hrel
         have hf20:=hkeep.out.2.2.2.2.2.2.1
         have hbs:=hkeep.out.2.2.2.2.2.2.2.2.1
         by_cases hil:i < l.length
         ·obtain ⟨g,rfl,hcap⟩:=own_some ho9 (Nat.lt_of_le_of_lt (Nat.zero_le _) hil)
          obtain ⟨x,hx⟩:∃ x,l[i]? = some x:=⟨l[i],List.getElem?_eq_getElem hil⟩
          have hxi:=mid_at (f:Int) hx
          obtain ⟨z0,z1⟩:=own_at ho9 (cellsW_get hxi)
          have hset:=own_set_at ho9 (j:=i * 3) (idx3 hil (by rw [cellsW_len,mid_len _ _ _ hi])) (.int .i64 (x.1 + (f:Int)))
          rw [cellsW_set _ hxi,mid_set _ hx] at hset
          have hbx:=hbs.2.2.2 x (List.mem_of_getElem? hx)
          have hwx:=add_w f (Nat.le_succ_of_le hf20) hbx.1 hbx.2
          have hbb:=below_set1 hb9 (a:=⟨g,i * 3,none⟩) (own_blk ho9 rfl).1 (.int .i64 (x.1 + (f:Int)))
          have h1i:=one_i i (Nat.le_trans hi (Nat.le_trans hbs.2.2.1 (by decide)))
          have hili:=lt_i hil
          have hi0:0 ≤ (i:Int):=Int.natCast_nonneg _
          have htoN:((i:Int)).toNat = i:=rfl
          clear ho9 hcall hkeep hb9 hcap hf20 hbs hxi hbx hwb hx0 hlf hx hq2 hgi hw1 ow x1 c0 c1 c0f c1f hle9 hex hi
          go_wp2
          rw [h1i]
          refine ⟨⟨i + 1,rfl,hil,hbb,hset⟩,?_⟩
          simp only [intOf]
          exact mea_i hil
         ·obtain rfl:i = l.length:=Nat.le_antisymm hi (Nat.not_lt.1 hil)
          have ho8:wr.ownsRow (N + 1) 101 3 (.slice ba l.length cap) (l.map (shW (f:Int))).length (cellsW (l.map (shW (f:Int)))):=by
           have h9:=own_mono' ho9 (base':=N + 1) hkeep.out.1.size
           rw [List.length_map]; simpa using h9
          obtain ⟨hRS,hb0,hN,hpl,h1000,hn2,hf2,hol,⟨b1,b2,b3,b4⟩,hps9⟩:=hkeep.out
          have hM:w.heap.size ≤ N + 1:=Nat.le_trans (Nat.le_of_eq hN) (Nat.le_succ _)
          have hRS2:=RS.kept hRS hM hb9
          have hb2:=(hb9.block N (Array.getElem?_eq_some_iff.1 hb0).1).trans hb0
          have hq':(if 0 ≤ bad then some ([],3,(f:Int) + bad) else refRowsF rowL ps2 (if l = [] then o else o++[((f:Int),l.map (shW (f:Int)))]) ((f:Int) + ((p.length:Int) + 1))) = some (out,e1,e2):=hq2
          rw [if_neg (by first | exact hbad | exact Int.not_le.2 hbad),to_next f j p hpl] at hq'
          have hmea:=mea_f hle9
          by_cases hl0:l = []
          ·rw [if_pos hl0] at hq'
           have hz:¬ (0:Int) < (l.length:Int):=by rw [hl0]; decide
           obtain ⟨hfin⟩:Nonempty (Shut ((∃ (ps:List (List UInt8)) (o:List (Int × List Wd)) (vs:List Value) (f2:Nat),Value.int .i64 ((f + j + 1:Nat):Int) = .int .i64 (f2:Int)∧refRowsF rowL ps o (f2:Int) = some (out,e1,e2)∧((f2 ≤ S.size∧ps = pieces 10 (S.data.toList.drop f2)) ∨ (f2 = S.size + 1∧ps = []))∧RS (N + 1) w wr u4 vs o∧wr.heap[N]? = some (.cells #[.int .i64 0,.int .i64 0] 30 (0,0))∧o.length ≤ f2))) :=
            ⟨⟨ps2,o,vs,f + j + 1,rfl,hq',hps9,hRS2,hb2,ol_next hol⟩⟩
           have hw2:=nxt_f f j (Nat.le_succ_of_le hf2) (Nat.le_succ_of_le hn2)
           clear hRS hb0 hN hpl h1000 hn2 hf2 hol b1 b2 b3 b4 hps9 hM hRS2 hb2 hq' hq2 hkeep hcall ho9 ho8 hb9 hi hil hbs hf20 hwb ow x1 hw1 c0 c1 c0f c1f hle9 hex
           go_wp2
           rw [hw2]
           refine ⟨hfin.out,?_⟩
           simp only [intOf]
           exact hmea
          ·rw [if_neg hl0] at hq'
           have hposi:=pos_cast (List.length_pos_iff.2 hl0)
           obtain ⟨iR,zR,uR,hiR,hzR,hsR,hbR,hcR⟩:=infoR
           have hown1:(wr.alloc (.cells #[.int .i64 (f:Int),.slice ba l.length cap] 97)).ownsRow (N + 1) 97 2 u4 o.length (cellsR o vs):=own_kept hRS2.own fun g cur hg _ _=>Below.heap_alloc _ _ _ (Array.getElem?_eq_some_iff.1 hg).1
           have hsz9:N + 1 ≤ (wr.alloc (.cells #[.int .i64 (f:Int),.slice ba l.length cap] 97)).heap.size:=Nat.le_trans hRS2.size (by simp)
           have hom:=ol_max hol hf2
           have hom2:=ol_max2 hol hf2
           have hblk:∀ W3:World,(wr.alloc (.cells #[.int .i64 (f:Int),.slice ba l.length cap] 97)).grownBy W3 u4.ownBlock→W3.heap[N]? = some (.cells #[.int .i64 0,.int .i64 0] 30 (0,0)):=fun W3 hg=>blk_keep hRS2.size hRS2.own hg hb2
           obtain ⟨hfin⟩:Nonempty (Shut (∀ (v2:Value) (W3:World),(wr.alloc (.cells #[.int .i64 (f:Int),.slice ba l.length cap] 97)).grownBy W3 u4.ownBlock→W3.ownsRow (N + 1) 97 2 v2 (o.length + 1) (cellsR o vs++[.int .i64 (f:Int),.slice ba l.length cap])→(∃ (ps:List (List UInt8)) (o:List (Int × List Wd)) (vs:List Value) (f2:Nat),Value.int .i64 ((f + j + 1:Nat):Int) = .int .i64 (f2:Int)∧refRowsF rowL ps o (f2:Int) = some (out,e1,e2)∧((f2 ≤ S.size∧ps = pieces 10 (S.data.toList.drop f2)) ∨ (f2 = S.size + 1∧ps = []))∧RS (N + 1) w W3 v2 vs o∧W3.heap[N]? = some (.cells #[.int .i64 0,.int .i64 0] 30 (0,0))∧o.length ≤ f2))) :=
            ⟨fun v2 W3 hg how=>⟨ps2,_,_,f + j + 1,rfl,hq',hps9,RS.next hM hRS2 ho8 hg how,hblk W3 hg,by rw [List.length_append]; exact ol_next2 hol⟩⟩
           have hw2:=nxt_f f j (Nat.le_succ_of_le hf2) (Nat.le_succ_of_le hn2)
           clear hRS hb0 hN hpl h1000 hn2 hf2 hol b1 b2 b3 b4 hps9 hM hRS2 hb2 hq' hq2 hkeep hcall ho9 ho8 hb9 hi hil hbs hf20 hwb ow x1 hw1 c0 c1 c0f c1f hle9 hex hblk
           go_wp2_with (at_builtin; go_loud (refine wpList_append_own _ rfl _ _ 92 rfl (N + 1) 97 _ zR 2 32 uR hiR hzR hsR hbR hcR (by decide) _ _ _ rfl hown1 ⟨wr.heap.size,0,none⟩ 1 1 [.int .i64 (f:Int),.slice ba l.length cap] rfl rfl ?d1 ?d2 ?d3 ?d4 ?d5 ?_))
           case d1=>exact cell_new2 wr _ _ _ _ rfl
           case d2=>first | (intro u hu; simp at hu; rcases hu with rfl | rfl <;> rfl) | simp [Value.oneCell']
           case d3=>exact hom
           case d4=>exact hom2
           case d5=>first | exact hsz9 | (simp at hsz9; exact hsz9)
           intro v2 W3 hown2 hg2 _
           have hfin2:=hfin.out v2 W3 hg2 hown2
           obtain ⟨hfin3⟩:Nonempty (Shut _):=⟨hfin2⟩
           clear hfin hfin2 hown1 hown2 hg2 hsz9 hom hom2
           go_wp2
           rw [hw2]
           refine ⟨hfin3.out,?_⟩
           simp only [intOf]
           exact hmea
     ·have bw:(((S[f + j]'g2).toNat:Int) != 10) = false:=bne_eq_false_iff_eq.2 g3
      by_cases h1000:1000 < j
      ·have hgi:=cast_gt h1000
       have hw1:=sub_f f j (Nat.le_succ_of_le hf2) (Nat.le_succ_of_le hn2)
       obtain ⟨hkeep⟩:Nonempty (Shut (RS (N + 1) w wr u4 vs o∧wr.heap[N]? = some (.cells #[.int .i64 0,.int .i64 0] 30 (0,0))∧w.heap.size = N∧p.length = j∧1000 < j)):=⟨⟨hRS,hb0,hN,hpl,h1000⟩⟩
       clear hRS hb0 hN hpl h1000 hR hRb hps9 hol hn2 hf2
       try clear hSl
       try clear hSi
       try clear hS
       try clear hf
       try clear hfi
       go_wp2
       obtain ⟨hRS,hb0,hN,hpl,h1000⟩:=hkeep.out
       refine ref_fin (a:=4) (b:=(f:Int)) (ref_store hb0 4 (f:Int)) rfl rfl ?_
       have hq':refRowsF rowL (p :: ps2) o (f:Int) = some (out,e1,e2):=hq
       rw [refRowsF,if_pos (by rw [hpl]; exact h1000)] at hq'
       simp only [Option.some.injEq,Prod.mk.injEq] at hq'
       obtain ⟨rfl,rfl,rfl⟩:=hq'
       first
        | exact ⟨_,[],rfl,ref_below hRS.bel hN hb0 _ _,World.ownsRow_nil _ _ _ _,rfl,fun i b ws u h=>by simp at h⟩
        | exact ⟨_,rfl,ref_below hRS.bel hN hb0 _ _,[],World.ownsRow_nil _ _ _ _,rfl,fun i b ws u h=>by simp at h⟩
      ·have hgi:=cast_ngt h1000
       cases hrow:rowL p with
       | none =>
        have hq':refRowsF rowL (p :: ps2) o (f:Int) = some (out,e1,e2):=hq
        rw [refRowsF,if_neg (by rw [hpl]; exact h1000),hrow] at hq'
        cases hq'
       | some r =>
       obtain ⟨l,bad⟩:=r
       have hq':refRowsF rowL (p :: ps2) o (f:Int) = some (out,e1,e2):=hq
       rw [refRowsF,if_neg (by rw [hpl]; exact h1000),hrow] at hq'
       simp only [Option.bind_some] at hq'
       obtain ⟨hq2⟩:Nonempty (Shut ((if 0 ≤ bad then some ([],3,(f:Int) + bad) else refRowsF rowL ps2 (if l = [] then o else o++[((f:Int),l.map (shW (f:Int)))]) ((f:Int) + ((p.length:Int) + 1))) = some (out,e1,e2))):=⟨hq'⟩
       clear hq hq'
       obtain ⟨b1,b2,b3,b4⟩:=hRb p l bad (by rw [hpl]; exact Nat.not_lt.1 h1000) hrow
       have hW:=fun W hb=>hR W (bsOf p) l bad (by show p.toArray.size ≤ 1000; rw [List.size_toArray,hpl]; exact Nat.not_lt.1 h1000) hb hrow
       have hwb:=add_b f (Nat.le_succ_of_le hf2) b1 b2
       clear hR hRb
       have hcall:=hW wr hRS.bel
       clear hW
       have hw1:=sub_f f j (Nat.le_succ_of_le hf2) (Nat.le_succ_of_le hn2)
       obtain ⟨hkeep⟩:Nonempty (Shut (RS (N + 1) w wr u4 vs o∧wr.heap[N]? = some (.cells #[.int .i64 0,.int .i64 0] 30 (0,0))∧w.heap.size = N∧p.length = j∧¬ 1000 < j∧j ≤ 20000∧f ≤ 20000∧o.length ≤ f∧(-1 ≤ bad∧bad ≤ 1000∧l.length ≤ 1001∧∀ x ∈ l,0 ≤ x.1∧x.1 ≤ 1000)∧((f + j + 1 ≤ S.size∧ps2 = pieces 10 (S.data.toList.drop (f + j + 1))) ∨ (f + j + 1 = S.size + 1∧ps2 = [])))):=⟨⟨hRS,hb0,hN,hpl,h1000,hn2,hf2,hol,⟨b1,b2,b3,b4⟩,hps9⟩⟩
       clear hRS hb0 hN hpl h1000 hn2 hf2 hol b1 b2 b3 b4 hps9
       try clear hSl
       try clear hSi
       try clear hS
       try clear hf
       try clear hfi
       by_cases hbad:0 ≤ bad
       ·go_wp2_with (go_at_call 123; refine hcall.mono ?_; rintro e W1 ⟨v,rfl,x1,ow⟩; obtain ⟨hRS,hb0,hN,hpl,h1000,hn2,hf2,hol,⟨b1,b2,b3,b4⟩,hps9⟩:=hkeep.out; have hb1:=(x1.block N (Array.getElem?_eq_some_iff.1 hb0).1).trans hb0; have hcf1:=ref_cells hb1; obtain ⟨q0,q1,q0f,q1f⟩:=hcf1; clear hRS hb0 hN hpl h1000 hn2 hf2 hol b1 b2 b3 b4 hps9)
        obtain ⟨hRS,hb0,hN,hpl,h1000,hn2,hf2,hol,⟨b1,b2,b3,b4⟩,hps9⟩:=hkeep.out
        refine ref_fin (a:=3) (b:=(f:Int) + bad) (ref_store hb1 3 ((f:Int) + bad)) rfl rfl ?_
        have hq':(if 0 ≤ bad then some ([],3,(f:Int) + bad) else refRowsF rowL ps2 (if l = [] then o else o++[((f:Int),l.map (shW (f:Int)))]) ((f:Int) + ((p.length:Int) + 1))) = some (out,e1,e2):=hq2
        rw [if_pos hbad] at hq'
        simp only [Option.some.injEq,Prod.mk.injEq] at hq'
        obtain ⟨rfl,rfl,rfl⟩:=hq'
        first
         | exact ⟨_,[],rfl,ref_below (RS.kept hRS (Nat.le_trans (Nat.le_of_eq hN) (Nat.le_succ _)) x1).bel hN hb1 _ _,World.ownsRow_nil _ _ _ _,rfl,fun i b ws u h=>by simp at h⟩
         | exact ⟨_,rfl,ref_below (RS.kept hRS (Nat.le_trans (Nat.le_of_eq hN) (Nat.le_succ _)) x1).bel hN hb1 _ _,[],World.ownsRow_nil _ _ _ _,rfl,fun i b ws u h=>by simp at h⟩
       ·go_wp2_with (go_at_call 123; refine hcall.mono ?_; rintro e W1 ⟨v,rfl,x1,ow⟩; obtain ⟨ba,cap,rfl⟩:=own_form ow)
        go_loopw [9] (fun v9 w9=>∃ i:Nat,v9 = .int .i64 (i:Int)∧i ≤ l.length∧Below wr.heap.size wr w9∧w9.ownsRow wr.heap.size 101 3 (.slice ba l.length cap) l.length (cellsW ((l.take i).map (shW (f:Int))++l.drop i)))
         (fun v9 w9=>((l.length:Int) - intOf v9).toNat)
        case atStart=>exact ⟨0,rfl,Nat.zero_le _,x1,by simpa using ow⟩
        case round =>
         obtain ⟨i,rfl,hi,hb9,ho9⟩:=hrel
         have hf20:=hkeep.out.2.2.2.2.2.2.1
         have hbs:=hkeep.out.2.2.2.2.2.2.2.2.1
         by_cases hil:i < l.length
         ·obtain ⟨g,rfl,hcap⟩:=own_some ho9 (Nat.lt_of_le_of_lt (Nat.zero_le _) hil)
          obtain ⟨x,hx⟩:∃ x,l[i]? = some x:=⟨l[i],List.getElem?_eq_getElem hil⟩
          have hxi:=mid_at (f:Int) hx
          obtain ⟨z0,z1⟩:=own_at ho9 (cellsW_get hxi)
          have hset:=own_set_at ho9 (j:=i * 3) (idx3 hil (by rw [cellsW_len,mid_len _ _ _ hi])) (.int .i64 (x.1 + (f:Int)))
          rw [cellsW_set _ hxi,mid_set _ hx] at hset
          have hbx:=hbs.2.2.2 x (List.mem_of_getElem? hx)
          have hwx:=add_w f (Nat.le_succ_of_le hf20) hbx.1 hbx.2
          have hbb:=below_set1 hb9 (a:=⟨g,i * 3,none⟩) (own_blk ho9 rfl).1 (.int .i64 (x.1 + (f:Int)))
          have h1i:=one_i i (Nat.le_trans hi (Nat.le_trans hbs.2.2.1 (by decide)))
          have hili:=lt_i hil
          have hi0:0 ≤ (i:Int):=Int.natCast_nonneg _
          have htoN:((i:Int)).toNat = i:=rfl
          clear ho9 hcall hkeep hb9 hcap hf20 hbs hxi hbx hwb hx0 hlf hx hq2 hgi hw1 ow x1 c0 c1 c0f c1f hle9 hex hi
          go_wp2
          rw [h1i]
          refine ⟨⟨i + 1,rfl,hil,hbb,hset⟩,?_⟩
          simp only [intOf]
          exact mea_i hil
         ·obtain rfl:i = l.length:=Nat.le_antisymm hi (Nat.not_lt.1 hil)
          have ho8:wr.ownsRow (N + 1) 101 3 (.slice ba l.length cap) (l.map (shW (f:Int))).length (cellsW (l.map (shW (f:Int)))):=by
           have h9:=own_mono' ho9 (base':=N + 1) hkeep.out.1.size
           rw [List.length_map]; simpa using h9
          obtain ⟨hRS,hb0,hN,hpl,h1000,hn2,hf2,hol,⟨b1,b2,b3,b4⟩,hps9⟩:=hkeep.out
          have hM:w.heap.size ≤ N + 1:=Nat.le_trans (Nat.le_of_eq hN) (Nat.le_succ _)
          have hRS2:=RS.kept hRS hM hb9
          have hb2:=(hb9.block N (Array.getElem?_eq_some_iff.1 hb0).1).trans hb0
          have hq':(if 0 ≤ bad then some ([],3,(f:Int) + bad) else refRowsF rowL ps2 (if l = [] then o else o++[((f:Int),l.map (shW (f:Int)))]) ((f:Int) + ((p.length:Int) + 1))) = some (out,e1,e2):=hq2
          rw [if_neg (by first | exact hbad | exact Int.not_le.2 hbad),to_next f j p hpl] at hq'
          have hmea:=mea_f hle9
          by_cases hl0:l = []
          ·rw [if_pos hl0] at hq'
           have hz:¬ (0:Int) < (l.length:Int):=by rw [hl0]; decide
           obtain ⟨hfin⟩:Nonempty (Shut ((∃ (ps:List (List UInt8)) (o:List (Int × List Wd)) (vs:List Value) (f2:Nat),Value.int .i64 ((f + j + 1:Nat):Int) = .int .i64 (f2:Int)∧refRowsF rowL ps o (f2:Int) = some (out,e1,e2)∧((f2 ≤ S.size∧ps = pieces 10 (S.data.toList.drop f2)) ∨ (f2 = S.size + 1∧ps = []))∧RS (N + 1) w wr u4 vs o∧wr.heap[N]? = some (.cells #[.int .i64 0,.int .i64 0] 30 (0,0))∧o.length ≤ f2))) :=
            ⟨⟨ps2,o,vs,f + j + 1,rfl,hq',hps9,hRS2,hb2,ol_next hol⟩⟩
           have hw2:=nxt_f f j (Nat.le_succ_of_le hf2) (Nat.le_succ_of_le hn2)
           clear hRS hb0 hN hpl h1000 hn2 hf2 hol b1 b2 b3 b4 hps9 hM hRS2 hb2 hq' hq2 hkeep hcall ho9 ho8 hb9 hi hil hbs hf20 hwb ow x1 hw1 c0 c1 c0f c1f hle9 hex
           go_wp2
           rw [hw2]
           refine ⟨hfin.out,?_⟩
           simp only [intOf]
           exact hmea
          ·rw [if_neg hl0] at hq'
           have hposi:=pos_cast (List.length_pos_iff.2 hl0)
           obtain ⟨iR,zR,uR,hiR,hzR,hsR,hbR,hcR⟩:=infoR
           have hown1:(wr.alloc (.cells #[.int .i64 (f:Int),.slice ba l.length cap] 97)).ownsRow (N + 1) 97 2 u4 o.length (cellsR o vs):=own_kept hRS2.own fun g cur hg _ _=>Below.heap_alloc _ _ _ (Array.getElem?_eq_some_iff.1 hg).1
           have hsz9:N + 1 ≤ (wr.alloc (.cells #[.int .i64 (f:Int),.slice ba l.length cap] 97)).heap.size:=Nat.le_trans hRS2.size (by simp)
           have hom:=ol_max hol hf2
           have hom2:=ol_max2 hol hf2
           have hblk:∀ W3:World,(wr.alloc (.cells #[.int .i64 (f:Int),.slice ba l.length cap] 97)).grownBy W3 u4.ownBlock→W3.heap[N]? = some (.cells #[.int .i64 0,.int .i64 0] 30 (0,0)):=fun W3 hg=>blk_keep hRS2.size hRS2.own hg hb2
           obtain ⟨hfin⟩:Nonempty (Shut (∀ (v2:Value) (W3:World),(wr.alloc (.cells #[.int .i64 (f:Int),.slice ba l.length cap] 97)).grownBy W3 u4.ownBlock→W3.ownsRow (N + 1) 97 2 v2 (o.length + 1) (cellsR o vs++[.int .i64 (f:Int),.slice ba l.length cap])→(∃ (ps:List (List UInt8)) (o:List (Int × List Wd)) (vs:List Value) (f2:Nat),Value.int .i64 ((f + j + 1:Nat):Int) = .int .i64 (f2:Int)∧refRowsF rowL ps o (f2:Int) = some (out,e1,e2)∧((f2 ≤ S.size∧ps = pieces 10 (S.data.toList.drop f2)) ∨ (f2 = S.size + 1∧ps = []))∧RS (N + 1) w W3 v2 vs o∧W3.heap[N]? = some (.cells #[.int .i64 0,.int .i64 0] 30 (0,0))∧o.length ≤ f2))) :=
            ⟨fun v2 W3 hg how=>⟨ps2,_,_,f + j + 1,rfl,hq',hps9,RS.next hM hRS2 ho8 hg how,hblk W3 hg,by rw [List.length_append]; exact ol_next2 hol⟩⟩
           have hw2:=nxt_f f j (Nat.le_succ_of_le hf2) (Nat.le_succ_of_le hn2)
           clear hRS hb0 hN hpl h1000 hn2 hf2 hol b1 b2 b3 b4 hps9 hM hRS2 hb2 hq' hq2 hkeep hcall ho9 ho8 hb9 hi hil hbs hf20 hwb ow x1 hw1 c0 c1 c0f c1f hle9 hex hblk
           go_wp2_with (at_builtin; go_loud (refine wpList_append_own _ rfl _ _ 92 rfl (N + 1) 97 _ zR 2 32 uR hiR hzR hsR hbR hcR (by decide) _ _ _ rfl hown1 ⟨wr.heap.size,0,none⟩ 1 1 [.int .i64 (f:Int),.slice ba l.length cap] rfl rfl ?d1 ?d2 ?d3 ?d4 ?d5 ?_))
           case d1=>exact cell_new2 wr _ _ _ _ rfl
           case d2=>first | (intro u hu; simp at hu; rcases hu with rfl | rfl <;> rfl) | simp [Value.oneCell']
           case d3=>exact hom
           case d4=>exact hom2
           case d5=>first | exact hsz9 | (simp at hsz9; exact hsz9)
           intro v2 W3 hown2 hg2 _
           have hfin2:=hfin.out v2 W3 hg2 hown2
           obtain ⟨hfin3⟩:Nonempty (Shut _):=⟨hfin2⟩
           clear hfin hfin2 hown1 hown2 hg2 hsz9 hom hom2
           go_wp2
           rw [hw2]
           refine ⟨hfin3.out,?_⟩
           simp only [intOf]
           exact hmea
  ·simp only [refRowsF,Option.some.injEq,Prod.mk.injEq] at hq
   have hgt:¬ ((S.size + 1:Nat):Int) ≤ (S.size:Int):=cast_nle
   obtain ⟨hkeep⟩:Nonempty (Shut ((o = out∧0 = e1∧0 = e2)∧RS (N + 1) w wr u4 vs o∧wr.heap[N]? = some (.cells #[.int .i64 0,.int .i64 0] 30 (0,0))∧w.heap.size = N)):=⟨⟨hq,hRS,hb0,hN⟩⟩
   clear hq hRS hb0 hR hRb hr hol hN
   go_wp2
   obtain ⟨⟨rfl,rfl,rfl⟩,hRS,hb0,hN2⟩:=hkeep.out
   refine ref_fin (a:=0) (b:=0) (ref_store hb0 0 0) rfl rfl ?_
   have hMN:w.heap.size ≤ N:=Nat.le_of_eq hN2
   first
    | exact ⟨_,vs,rfl,ref_below hRS.bel hN2 hb0 _ _,ref_own hRS.own hMN _ _,hRS.len,fun i b ws u h1 h2=>ref_own (hRS.rows i b ws u h1 h2) hMN _ _⟩
    | exact ⟨_,rfl,ref_below hRS.bel hN2 hb0 _ _,vs,ref_own hRS.own hMN _ _,hRS.len,fun i b ws u h1 h2=>ref_own (hRS.rows i b ws u h1 h2) hMN _ _⟩
end Go.Seq
