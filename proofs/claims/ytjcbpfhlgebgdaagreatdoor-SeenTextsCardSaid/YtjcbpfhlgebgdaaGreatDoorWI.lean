import Derived.RangeFuncNested
import Derived.RangeFuncBound
import Derived.RangeFuncCalls
import Derived.RangeFuncLeaves
import Derived.Shelf.RegionOpen
import Derived.Scope
import Derived.Test.YtjcbpfhlgebgdaaGreatDoorWO
import Derived.Test.YtjcbpfhlgebgdaaGreatDoorRS2
import Derived.Test.YtjcbpfhlgebgdaaGreatDoorQD
set_option linter.unusedSimpArgs false
set_option linter.unusedVariables false
namespace Go.Seq
open Go.RowKit Go.Shelf Go.Proofs
attribute [local go_sem] Oper.semAt_some
def zhb (x:Wd × Bool):Array Value:=#[zd6 x.1,.bool x.2]
def wsF (S:ByteArray) (wd:Int->Option ((Wd × Bool) × Int)):Nat->Int->Option (List (Wd × Bool))
 | 0,_=>none
 | k + 1,p=>if p < (S.size:Int) then
   (S.data[p.toNat]?).bind fun c=>if c = 32 then wsF S wd k (p + 1) else if c = 35 then some [] else
    (wd p).bind fun r=>if r.1.2 then (wsF S wd k r.2).map (r.1 :: ·) else some [r.1]
  else some []
theorem Fr.moves {s:Nat} {A B:World} (h:Fr s A B):Zq (fun k=>k = s) A B:=⟨h.os,h.tape,h.output,h.size,h.block⟩
set_option maxRecDepth 20000 in
set_option maxHeartbeats 8000000 in
theorem zn7 {m:Nat} (N bl l:Nat) (w:World) (S:ByteArray) (hS:S.size <= 1000000) (wd:Int->Option ((Wd × Bool) × Int))
  (hM:∀ W s p,N <= s->Below N w W->Bx s S W p->Calls Tryz.prog 99 #[.pointer (some ⟨s,0,none⟩)] W fun e W'=>e = .returned (.bool (decide (p < (S.size:Int))))/\Bx s S W' p/\Fr s W W')
  (hWd:∀ W s p r p',N <= s->Below N w W->Bx s S W p->wd p = some (r,p')->Calls Tryz.prog 100 #[.pointer (some ⟨s,0,none⟩)] W fun e W'=>e = .returned (.tuple (zhb r))/\Bx s S W' p'/\Fr s W W')
  (hWp:∀ p r p',wd p = some ((r,true),p')->0 <= p->p < p')
  (J Jx:List (Wd × Bool)->World->Prop) (W:World) (s:Nat) (hs:W.heap.size = s) (hN:N <= s)
  (hG:∀ x A,J x A->Below N w A) (hJ:∀ x A B,J x A->Zq (fun k=>k = s) A B->J x B) (hJx:∀ x A B,Jx x A->Zq (fun k=>k = s) A B->Jx x B)
  (hbl:W.cell? ⟨bl,0,none⟩ = some (.string S)) (h0:J [] W) (k0:Nat) (xs:List (Wd × Bool)) (hx:wsF S wd k0 0 = some xs)
  (hY:∀ pre x W1,J pre W1->s < W1.heap.size->pre++[x] <+: xs->YieldAt Fence.wide m Tryz.prog l (zhb x) W1 fun e W' =>
   (e = .returned (.bool true)/\J (pre++[x]) W'/\W'.heap[s]? = W1.heap[s]?) ∨ (e = .returned (.bool false)/\Jx (pre++[x]) W')) :
  CallsIn Fence.wide (m + 1) Tryz.prog 98 #[.func (.yield l) #[] #[],.pointer (some ⟨bl,0,none⟩)] W fun e W'=>(∃ v,e = .returned v)/\(J xs W' ∨ ∃ pre,Jx pre W'):=by
 refine callsIn_of_wp Tryz.func98 rfl trivial ?_ rfl
 simp only [Tryz.ntmps98,List.size_toArray,List.length_cons,List.length_nil,Nat.reduceAdd,Nat.reduceSub,Array.replicate_succ,Array.replicate_zero,List.push_toArray,List.append_toArray,List.nil_append,List.cons_append]
 refine wpIn_wide.2 (wp_scope_straight ((wpIn_wide (n:=m + 1)).1 ?_))
 gi_wp2_with (apply wpIn_label)
 have mixed:Tryz.prog.follows .mixedOrders = true:=by kernel_rfl
 have hcb:∀ A p,Bx s S A p->A.cell? ⟨s,0,none⟩ = some (.string S)/\A.cell? ⟨s,1,none⟩ = some (.int .i64 p)/\A.frozen? ⟨s,1,none⟩ = false:=fun A p h=>⟨Zz h,qB h,Ys h 1⟩
 gi_loopw [] (fun wr=>∃ (k:Nat) (pre rest:List (Wd × Bool)) (p:Int),wsF S wd k p = some rest/\xs = pre++rest/\0 <= p/\Bx s S wr p/\J pre wr)
  (fun wr=>match wr.cell? ⟨s,1,none⟩ with | some (.int _ p)=>((S.size:Int) - p).toNat | _=>0)
 case atStart =>
  refine ⟨k0,[],xs,0,hx,rfl,Int.le_refl _,?_,hJ _ _ _ h0 ⟨rfl,rfl,rfl,by simp,fun k hk _=>Below.heap_alloc _ _ _ hk⟩⟩
  show (W.alloc _).heap[s]? = _
  rw [<- hs]; exact World.alloc_heap_new W _
 case round =>
  obtain ⟨k,pre,rest,p,i1,i2,i3,i4,i5⟩:=hrel
  have hsr:s < wr.heap.size:=(Array.getElem?_eq_some_iff.1 i4).1
  have hcell:=qB i4
  cases k with
  | zero=>cases i1
  | succ k =>
  rw [wsF] at i1
  by_cases hp:p < (S.size:Int)
  ·rw [if_pos hp] at i1
   have hpn:p.toNat < S.size:=by omega
   rw [Array.getElem?_eq_getElem hpn] at i1
   simp only [Option.bind_some] at i1
   have hcN:(S[p.toNat]'hpn) = (S.data[p.toNat]'hpn):=rfl
   by_cases h32:(S.data[p.toNat]'hpn) = 32
   ·rw [if_pos h32] at i1
    have b32:(((S[p.toNat]'hpn).toNat:Int) == 32) = true:=by rw [hcN,h32]; rfl
    gi_wp2_with (refine ⟨trivial,?_⟩; gi_at_call 99; refine (callsIn_wide.2 (hM wr s p hN (hG _ _ i5) i4)).mono ?_; rintro e W1 ⟨rfl,x1,x2⟩; rw [decide_eq_true hp]; obtain ⟨d0,d1,d2⟩:=hcb _ _ x1)
    gi_region
    all_goals gi_wp2
    all_goals first | exact absurd (b32.symm.trans ‹(((S[p.toNat]'hpn).toNat:Int) == 32) = false›) (by decide) | skip
    have q1:Bx s S (W1.setCell ⟨s,1,none⟩ (.int .i64 (p + 1))).drew (p + 1):=zfx x1
    refine ⟨⟨k,pre,rest,p + 1,i1,i2,by omega,q1,hJ _ _ _ i5 ⟨x2.os,x2.tape,x2.output,by simpa [World.drew] using x2.size,fun j hj hn=>?_⟩⟩,?_⟩
    ·exact (Below.heap_setCell _ _ _ _ (by simpa using hn)).trans (x2.block j hj hn)
    ·rw [qB q1,hcell]
     show ((S.size:Int) - (p + 1)).toNat < ((S.size:Int) - p).toNat
     omega
   ·rw [if_neg h32] at i1
    have b32:(((S[p.toNat]'hpn).toNat:Int) == 32) = false:=by
     rw [hcN,beq_eq_false_iff_ne]
     intro h
     exact h32 (UInt8.toNat_inj.1 (by show _ = 32; omega))
    by_cases h35:(S.data[p.toNat]'hpn) = 35
    ·rw [if_pos h35] at i1
     cases i1
     have b35:(((S[p.toNat]'hpn).toNat:Int) == 35) = true:=by rw [hcN,h35]; rfl
     gi_wp2_with (refine ⟨trivial,?_⟩; gi_at_call 99; refine (callsIn_wide.2 (hM wr s p hN (hG _ _ i5) i4)).mono ?_; rintro e W1 ⟨rfl,x1,x2⟩; rw [decide_eq_true hp]; obtain ⟨d0,d1,d2⟩:=hcb _ _ x1)
     gi_region
     all_goals gi_wp2
     all_goals first | exact absurd (b32.symm.trans ‹(((S[p.toNat]'hpn).toNat:Int) == 32) = true›) (by decide) | skip
     gi_region
     all_goals gi_wp2
     all_goals first | exact absurd (b35.symm.trans ‹(((S[p.toNat]'hpn).toNat:Int) == 35) = false›) (by decide) | skip
     all_goals
      simp only [Exit.noGoto]
      refine bodyPost_ret (results_none rfl _ _ _) rfl ?_
      exact ⟨⟨_,rfl⟩,.inl (hJ _ _ W1.drew.drew (by rw [i2,List.append_nil]; exact i5) ⟨x2.os,x2.tape,x2.output,x2.size,x2.block⟩)⟩
    ·rw [if_neg h35] at i1
     have b35:(((S[p.toNat]'hpn).toNat:Int) == 35) = false:=by
      rw [hcN,beq_eq_false_iff_ne]
      intro h
      exact h35 (UInt8.toNat_inj.1 (by show _ = 35; omega))
     cases hw:wd p with
     | none=>rw [hw] at i1; cases i1
     | some r =>
     obtain ⟨⟨⟨wa,wk,wt⟩,b⟩,p'⟩:=r
     rw [hw] at i1
     simp only [Option.bind_some] at i1
     gi_wp2_with (first
      | (refine ⟨trivial,?_⟩; gi_at_call 99; refine (callsIn_wide.2 (hM wr s p hN (hG _ _ i5) i4)).mono ?_; rintro e W1 ⟨rfl,x1,x2⟩; rw [decide_eq_true hp]; obtain ⟨d0,d1,d2⟩:=hcb _ _ x1))
     gi_region
     all_goals gi_wp2
     all_goals first | exact absurd (b32.symm.trans ‹(((S[p.toNat]'hpn).toNat:Int) == 32) = true›) (by decide) | skip
     gi_region
     all_goals gi_wp2_with (first
      | (refine ⟨trivial,?_⟩; gi_at_call 100; refine (callsIn_wide.2 (hWd W1.drew.drew s p _ p' hN (hG _ _ (hJ _ _ W1.drew.drew i5 ⟨x2.os,x2.tape,x2.output,x2.size,x2.block⟩)) x1 hw)).mono ?_; rintro e W2 ⟨rfl,y1,y2⟩; unfold zhb zd6))
     all_goals first | exact absurd (b35.symm.trans ‹(((S[p.toNat]'hpn).toNat:Int) == 35) = true›) (by decide) | skip
     have hm2:Zq (fun k=>k = s) wr W2:=⟨y2.os.trans x2.os,y2.tape.trans x2.tape,y2.output.trans x2.output,Nat.le_trans x2.size y2.size,fun k hk hn=>(y2.block k (Nat.lt_of_lt_of_le hk x2.size) hn).trans (x2.block k hk hn)⟩
     have hm3:Zq (fun k=>k = s) wr (W2.alloc (.cells #[.int .i64 wa,.string ⟨wk.toArray⟩,.string ⟨wt.toArray⟩] 57)) :=
      ⟨hm2.os,hm2.tape,hm2.output,by have:=hm2.size; simp; omega,fun k hk hn=>(Below.heap_alloc _ _ _ (Nat.lt_of_lt_of_le hk hm2.size)).trans (hm2.block k hk hn)⟩
     obtain ⟨tl,htl⟩:∃ tl,rest = ((wa,wk,wt),b) :: tl:=by
      cases b with
      | true=>rw [if_pos rfl] at i1; obtain ⟨tl,_,rfl⟩:=Option.map_eq_some_iff.1 i1; exact ⟨_,rfl⟩
      | false=>cases i1; exact ⟨_,rfl⟩
     obtain ⟨fn,tmps,assign,body,hy,hR⟩:=hY pre ((wa,wk,wt),b) _ (hJ _ _ _ i5 hm3) (Nat.lt_of_lt_of_le hsr hm3.size) (by rw [i2,htl]; exact ⟨tl,by simp⟩)
     unfold zhb zd6 at hy
     gi_wp2
     refine hR.mono ?_
     rintro e W' (⟨rfl,hJ',hk⟩ | ⟨rfl,hJx'⟩)
     ·cases b with
      | true =>
       gi_wp2
       simp only [↓reduceIte] at i1
       obtain ⟨tl',h1,h2⟩:=Option.map_eq_some_iff.1 i1
       have h2':((wa,wk,wt),true) :: tl' = rest:=h2
       have hpp:=hWp p (wa,wk,wt) p' hw i3
       have q1:Bx s S W' p':=hk.trans ((Below.heap_alloc _ _ _ (Array.getElem?_eq_some_iff.1 y1).1).trans y1)
       refine ⟨⟨k,pre++[((wa,wk,wt),true)],tl',p',h1,by rw [i2,<- h2']; simp,by omega,q1,hJ'⟩,?_⟩
       rw [qB q1,hcell]
       show ((S.size:Int) - p').toNat < ((S.size:Int) - p).toNat
       omega
      | false =>
       cases i1
       gi_wp2
       simp only [Exit.noGoto]
       refine bodyPost_ret (results_none rfl _ _ _) rfl ?_
       exact ⟨⟨_,rfl⟩,.inl (by rw [i2]; exact hJ')⟩
     ·gi_wp2
      simp only [Exit.noGoto]
      refine bodyPost_ret (results_none rfl _ _ _) rfl ?_
      exact ⟨⟨_,rfl⟩,.inr ⟨_,hJx'⟩⟩
  ·rw [if_neg hp] at i1
   cases i1
   gi_wp2_with (refine ⟨trivial,?_⟩; gi_at_call 99; refine (callsIn_wide.2 (hM wr s p hN (hG _ _ i5) i4)).mono ?_; rintro e W1 ⟨rfl,x1,x2⟩; rw [decide_eq_false hp])
   simp only [Exit.noGoto]
   go_end0
   exact ⟨⟨_,rfl⟩,.inl (hJ _ _ _ (by rw [i2,List.append_nil]; exact i5) x2.moves)⟩
theorem zn8 {m N bl:Nat} {w:World} {S:ByteArray} (hS:S.size <= 1000000) {wd:Int->Option ((Wd × Bool) × Int)}
  (hM:∀ W s p,N <= s->Below N w W->Bx s S W p->Calls Tryz.prog 99 #[.pointer (some ⟨s,0,none⟩)] W fun e W'=>e = .returned (.bool (decide (p < (S.size:Int))))/\Bx s S W' p/\Fr s W W')
  (hWd:∀ W s p r p',N <= s->Below N w W->Bx s S W p->wd p = some (r,p')->Calls Tryz.prog 100 #[.pointer (some ⟨s,0,none⟩)] W fun e W'=>e = .returned (.tuple (zhb r))/\Bx s S W' p'/\Fr s W W')
  (hWp:∀ p r p',wd p = some ((r,true),p')->0 <= p->p < p')
  {w2:World} (hN:N <= w2.heap.size) (hbl:w2.cell? ⟨bl,0,none⟩ = some (.string S)) {k0:Nat} {xs:List (Wd × Bool)} (hx:wsF S wd k0 0 = some xs) :
  zko (Below N w) Fence.wide (m + 1) Tryz.prog 98 #[.pointer (some ⟨bl,0,none⟩)] zhb (fun h k=>k = h) xs w2:=by
 intro l W hW J Jx hG hJ hJx hY h0
 exact zn7 N bl l w S hS wd hM hWd hWp J Jx W _ rfl (Nat.le_trans hN hW.size) hG hJ hJx ((cell_of_heap (hW.block bl (World.block_lt_of_cell? w2 _ hbl) (fun q=>q))).trans hbl) h0 k0 xs hx
  (fun pre x W1 h1 h2 h3=>by
   obtain ⟨fn,tmps,assign,body,hy,hR⟩:=hY pre x W1 h1 (fun k hk=>by subst hk; exact h2) h3
   refine ⟨fn,tmps,assign,body,hy,hR.mono ?_⟩
   rintro e W' (⟨rfl,q1,q2⟩ | q)
   ·exact .inl ⟨rfl,q1,q2 _ rfl⟩
   ·exact .inr q)
theorem zlS {S:ByteArray} {wd:Int->Option ((Wd × Bool) × Int)} (hAt:∀ p r p',wd p = some (r,p')->r.1.1 = p) (hWp:∀ p r p',wd p = some ((r,true),p')->0 <= p->p < p') :
  ∀ {k:Nat} {p:Int} {xs:List (Wd × Bool)},0 <= p->wsF S wd k p = some xs->∀ x ∈ xs,0 <= x.1.1/\x.1.1 < (S.size:Int)
 | 0,p,xs,hp,h=>by cases h
 | k + 1,p,xs,hp,h=>by
  rw [wsF] at h
  split at h
  ·rename_i hlt
   cases hc:S.data[p.toNat]? with
   | none=>rw [hc] at h; cases h
   | some c =>
   rw [hc] at h
   simp only [Option.bind_some] at h
   split at h
   ·exact zlS hAt hWp (by omega) h
   ·split at h
    ·cases h; intro x hx; cases hx
    ·cases hw:wd p with
     | none=>rw [hw] at h; cases h
     | some r =>
     obtain ⟨⟨r,b⟩,p'⟩:=r
     rw [hw] at h
     simp only [Option.bind_some] at h
     have ha:r.1 = p:=hAt _ _ _ hw
     cases b with
     | true =>
      rw [if_pos rfl] at h
      obtain ⟨tl,h1,rfl⟩:=Option.map_eq_some_iff.1 h
      intro x hx
      rcases List.mem_cons.1 hx with rfl | hx
      ·exact ⟨by show 0 <= r.1; omega,by show r.1 < _; omega⟩
      ·exact zlS hAt hWp (by have:=hWp _ _ _ hw hp; omega) h1 x hx
     | false =>
      cases h
      intro x hx
      rcases List.mem_cons.1 hx with rfl | hx
      ·exact ⟨by show 0 <= r.1; omega,by show r.1 < _; omega⟩
      ·cases hx
  ·cases h; intro x hx; cases hx
end Go.Seq
