import Derived.OwnWalk
import Derived.Test.YtjcbpfhlgebgdaaGreatDoorRoW
set_option linter.unusedSimpArgs false
set_option linter.unusedVariables false
namespace Go.Seq
open Go.RowKit Go.Shelf Go.Proofs
def rrF (S:ByteArray) (wd:Int->Option (Wd × Int)):Nat->List Wd->Int->Option (List Wd × Int)
 | 0,_,_=>none
 | k + 1,acc,p=>if p < (S.size:Int) then
   (S.data[p.toNat]?).bind fun c=>if c = 35 then some (acc,-1) else if c = 32 then rrF S wd k acc (p + 1) else
    (wd p).bind fun r=>if r.2 < 0 then some ([],p) else rrF S wd k (acc++[r.1]) r.2
  else some (acc,-1)
theorem zge {c:UInt8} {n:Nat} (hn:n < 256) (h:¬ c = UInt8.ofNat n):¬ ((c.toNat:Int) = (n:Int)):=fun e=>h (UInt8.toNat_inj.1 (by rw [UInt8.toNat_ofNat']; omega))
theorem yR {N:Nat} {w wr W1:World} (hb:Below N w wr) (hN:N <= wr.heap.size) (x1:Below wr.heap.size wr W1):Below N w W1 :=
 ⟨x1.os.trans hb.os,x1.tape.trans hb.tape,x1.output.trans hb.output,Nat.le_trans hb.size x1.size,fun k hk=>(x1.block k (by omega)).trans (hb.block k hk)⟩
theorem zpD {N:Nat} {w W1 W3:World} {v:Value} {o1 o2:Obj} (hb:Below N w W1) (hN:N <= W1.heap.size) (hv:∀ g,v.ownBlock = some g->N <= g) (hg:((W1.alloc o1).alloc o2).grownBy W3 v.ownBlock):Below N w W3/\N <= W3.heap.size :=
 ⟨⟨hg.os.trans hb.os,hg.tape.trans hb.tape,hg.output.trans hb.output,by have:=hg.size; have:=hb.size; simp at this ⊢; have h2:=hg.size; simp at h2; omega,fun k hk=>(hg.block k (by simp; omega) (fun e=>by have:=hv k e.symm; omega)).trans ((Below.heap_alloc _ _ _ (by simp; omega)).trans ((Below.heap_alloc _ _ _ (by omega)).trans (hb.block k hk)))⟩,by have h2:=hg.size; simp at h2; omega⟩
set_option maxRecDepth 20000 in
set_option maxHeartbeats 8000000 in
theorem zsC (S:ByteArray) (hS:S.size <= 1000000) (wd:Int->Option (Wd × Int)) (w:World)
  (hW:∀ W p r q,Below w.heap.size w W->wd p = some (r,q)->Calls Tryz.prog 104 #[.string S,.int .i64 p] W fun e W'=>e = .returned (.tuple #[zd6 r,.int .i64 q])/\Below W.heap.size W W')
  (hWp:∀ p r q,wd p = some (r,q)->0 <= q->p < q)
  {k0:Nat} {l:List Wd} {bad:Int} (hr:rrF S wd k0 [] 0 = some (l,bad)) :
  Calls Tryz.prog 69 #[.string S] w fun e w'=>∃ v,e = .returned (.tuple #[v,.int .i64 bad])/\Below w.heap.size w w'/\w'.ownsRow w.heap.size 57 3 v l.length (cellsW l):=by
 have mixed:Tryz.prog.follows .mixedOrders = true:=by kernel_rfl
 obtain ⟨N,hN⟩:∃ N,w.heap.size = N:=⟨_,rfl⟩
 rw [hN]
 rw [hN] at hW
 go_enter Tryz.func69,Tryz.ntmps69
 go_wp2
 go_loopw [4,5] (fun v4 v5 wr=>∃ (k:Nat) (acc:List Wd) (p:Int),v5 = .int .i64 p/\0 <= p/\(acc.length:Int) <= p/\rrF S wd k acc p = some (l,bad)/\Below N w wr/\N <= wr.heap.size/\wr.ownsRow N 57 3 v4 acc.length (cellsW acc))
  (fun v4 v5 wr=>((S.size:Int) - intOf v5).toNat)
 case atStart=>exact ⟨k0,[],0,rfl,Int.le_refl _,by simp,hr,by rw [<- hN]; exact Below.refl _ _,by omega,World.ownsRow_nil _ _ _ _⟩
 case round =>
  obtain ⟨k,acc,p,rfl,h0,hlen,hq,hb,hNw,hown⟩:=hrel
  cases k with
  | zero=>cases hq
  | succ k =>
  rw [rrF] at hq
  by_cases hp:p < (S.size:Int)
  ·rw [if_pos hp] at hq
   have hpn:p.toNat < S.size:=by omega
   rw [Array.getElem?_eq_getElem hpn] at hq
   simp only [Option.bind_some] at hq
   have hcN:(S[p.toNat]'hpn) = (S.data[p.toNat]'hpn):=rfl
   by_cases h35:(S.data[p.toNat]'hpn) = 35
   ·rw [if_pos h35] at hq
    have b35:((S[p.toNat]'hpn).toNat:Int) = 35:=by rw [hcN,h35]; rfl
    cases hq
    clear hW hWp hr
    go_wp2
    go_ret2
    exact ⟨_,rfl,hb,hown⟩
   ·rw [if_neg h35] at hq
    have b35:¬ ((S[p.toNat]'hpn).toNat:Int) = 35:=zge (n:=35) (by omega) h35
    have bw35:(((S[p.toNat]'hpn).toNat:Int) != 35) = true:=bne_iff_ne.2 b35
    by_cases h32:(S.data[p.toNat]'hpn) = 32
    ·rw [if_pos h32] at hq
     have b32:((S[p.toNat]'hpn).toNat:Int) = 32:=by rw [hcN,h32]; rfl
     have wr1:wrap64 (p + 1) = p + 1:=IntWalk.wrap64_in _ (by omega)
     have bw32:(((S[p.toNat]'hpn).toNat:Int) == 32) = true:=beq_iff_eq.2 b32
     go_wp2
     all_goals first | exact absurd (bw35.symm.trans ‹(((S[p.toNat]'hpn).toNat:Int) != 35) = false›) (by decide) | skip
     refine ⟨⟨k,acc,p + 1,rfl,by omega,by omega,hq,hb,hNw,hown⟩,?_⟩
     simp only [intOf]
     omega
    ·rw [if_neg h32] at hq
     have b32:¬ ((S[p.toNat]'hpn).toNat:Int) = 32:=zge (n:=32) (by omega) h32
     have bw32:(((S[p.toNat]'hpn).toNat:Int) == 32) = false:=beq_eq_false_iff_ne.2 b32
     cases hw:wd p with
     | none=>rw [hw] at hq; cases hq
     | some r =>
     obtain ⟨⟨wa,wk,wt⟩,q⟩:=r
     rw [hw] at hq
     simp only [Option.bind_some] at hq
     by_cases hq0:q < 0
     ·rw [if_pos hq0] at hq
      go_wp2_with (go_at_call 104; refine (hW _ p _ q hb hw).mono ?_; rintro e W1 ⟨rfl,x1⟩; unfold zd6)
      all_goals first | exact absurd (bw32.symm.trans ‹(((S[p.toNat]'hpn).toNat:Int) == 32) = true›) (by decide) | exact absurd (bw35.symm.trans ‹(((S[p.toNat]'hpn).toNat:Int) != 35) = false›) (by decide) | skip
      simp only [Option.some.injEq,Prod.mk.injEq] at hq
      obtain ⟨rfl,rfl⟩:=hq
      go_ret2
      exact ⟨_,rfl,(yR hb hNw x1).alloc (Nat.le_trans hNw x1.size) _,World.ownsRow_nil _ _ _ _⟩
     ·rw [if_neg hq0] at hq
      obtain ⟨iW,zW,uW,hiW,hzW,hsW,hbW,hcW⟩:=zrZ
      have hpq:=hWp p _ q hw (by omega)
      have hown1:Shut (∀ W1,Below wr.heap.size wr W1->∀ o1 o2,((W1.alloc o1).alloc o2).ownsRow N 57 3 u4 acc.length (cellsW acc)):=fun W1 hB o1 o2 =>
       yG hown fun g cur hg _ _=>(Below.heap_alloc _ _ _ (by have:=hB.size; have:=(Array.getElem?_eq_some_iff.1 hg).1; simp; omega)).trans ((Below.heap_alloc _ _ _ (by have:=hB.size; have:=(Array.getElem?_eq_some_iff.1 hg).1; omega)).trans (hB.block g (Array.getElem?_eq_some_iff.1 hg).1))
      clear hWp hr
      go_wp2_with (first
       | (go_at_call 104; refine (hW _ p _ q hb hw).mono ?_; rintro e W1 ⟨rfl,x1⟩; unfold zd6)
       | (at_builtin; go_loud (refine wpList_append_own _ rfl _ _ 54 rfl N 57 _ zW 3 40 uW hiW hzW hsW hbW hcW (by decide) _ _ _ rfl (hown1.out W1 x1 _ _) ⟨W1.heap.size + 1,0,none⟩ 1 1 [.int .i64 wa,.string ⟨wk.toArray⟩,.string ⟨wt.toArray⟩] rfl rfl ?c1 ?c2 ?c3 ?c4 ?c5 ?_)))
      all_goals first | exact absurd (bw32.symm.trans ‹(((S[p.toNat]'hpn).toNat:Int) == 32) = true›) (by decide) | exact absurd (bw35.symm.trans ‹(((S[p.toNat]'hpn).toNat:Int) != 35) = false›) (by decide) | skip
      case c1=>exact zhQ (W1.alloc _) _ _ _ _ _ (by simp)
      case c2=>first | (intro u hu; simp at hu; rcases hu with rfl | rfl | rfl <;> rfl) | simp [Value.oneCell']
      case c3=>unfold maxLen; omega
      case c4=>omega
      case c5=>have:=x1.size; simp; omega
      intro v2 W3 hown2 hg2 _
      obtain ⟨z1,z2⟩:=zpD (yR hb hNw x1) (Nat.le_trans hNw x1.size) (fun g hg=>(Zj hown hg).1) hg2
      have hown3:W3.ownsRow N 57 3 v2 (acc++[(wa,wk,wt)]).length (cellsW (acc++[(wa,wk,wt)])):=by
       have e1:(acc++[(wa,wk,wt)]).length = acc.length + 1:=by simp
       have e2:cellsW (acc++[(wa,wk,wt)]) = cellsW acc++[.int .i64 wa,.string ⟨wk.toArray⟩,.string ⟨wt.toArray⟩]:=by simp [cellsW]
       rw [e1,e2]; exact hown2
      clear hW hown1 hown2 hg2
      go_wp2
      refine ⟨⟨k,acc++[(wa,wk,wt)],q,rfl,by omega,by simp; omega,hq,z1,z2,hown3⟩,?_⟩
      simp only [intOf]
      omega
  ·rw [if_neg hp] at hq
   cases hq
   clear hW hWp hr
   go_wp2
   go_ret2
   exact ⟨_,rfl,hb,hown⟩
end Go.Seq
