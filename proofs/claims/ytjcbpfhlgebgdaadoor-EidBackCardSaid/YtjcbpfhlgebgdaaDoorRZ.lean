import Derived.Test.YtjcbpfhlgebgdaaDoorR13
noncomputable section
namespace Go.Run
open Go.RowKit
section
variable {P:Program} {w0:World} {G:Nat} {L:Lam} {H:AH} {w:World}
theorem externV_spec {f:FuncId} {args args':List Value} (ha:args.all flat = true) (hr:LR L args args') {v:Value} (h:pureRun P (externV f args.toArray) = some v) (w:World):(callFunc f args'.toArray).run P w = .ok (.value v) w:=by
 have e:args' = args:=by
  apply List.ext_getElem hr.1.symm
  intro i h1 h2
  have:=hr.2 i _ _ (List.getElem?_eq_getElem h2) (List.getElem?_eq_getElem h1)
  exact this.eq_flat (List.all_eq_true.1 ha _ (List.getElem_mem h2))
 subst e
 have h1:=pureRun_run _ h w
 unfold externV at h1
 rw [Sem.run_bind] at h1
 cases hc:(callFunc f args'.toArray).run P w with
 | halt o w'=>rw [hc] at h1; cases h1
 | ok n w' =>
  rw [hc] at h1
  simp only [Result.andThen_ok] at h1
  cases n with
  | value u =>
   simp only [Sem.run_pure] at h1
   cases h1; rfl
  | _=>cases h1
theorem noEscB_spec {f:FuncId} (h:noEscB P f = true) (x:Value) (w:World):(callFunc f #[x]).run P w = .ok (.value x) w:=by
 unfold noEscB at h
 split at h
 ·rename_i fn hf
  simp only [Bool.and_eq_true,Option.isNone_iff_eq_none,beq_iff_eq] at h
  obtain ⟨⟨h1,h2⟩,h3⟩:=h
  have e1:Extern.findNext fn = none:=by
   unfold Extern.findNext
   rw [h2,h3]
   have q1 : Extern.allNextRows.lookup "internal/abi.NoEscape" = none := by
    have : (Extern.allNextRows.lookup "internal/abi.NoEscape").isNone = true := by kernel_rfl
    simpa using this
   have q2 : Extern.allNextRows.lookup "" = none := by
    have : (Extern.allNextRows.lookup "").isNone = true := by kernel_rfl
    simpa using this
   simp only [q1,q2]
   rfl
  have e2:Extern.find fn = some Extern.AbiNoEscape.same:=by
   unfold Extern.find
   rw [h2,h3]
   have q1 : Extern.allGenericRows.lookup "internal/abi.NoEscape" = none := by
    have : (Extern.allGenericRows.lookup "internal/abi.NoEscape").isNone = true := by kernel_rfl
    simpa using this
   have q2 : Extern.allTypedRows.lookup "internal/abi.NoEscape" = none := by
    have : (Extern.allTypedRows.lookup "internal/abi.NoEscape").isNone = true := by kernel_rfl
    simpa using this
   have q3 : Extern.allRows.lookup "internal/abi.NoEscape" = some Extern.AbiNoEscape.same := by kernel_rfl
   simp only [q1,q2,q3]
   rfl
  have e3 : (fn.name == "runtime.NumGoroutine") = false := by rw [h2]; decide
  have e4:∀ (u:Mark) (w:World),(mark u).run P w = .ok () w:=fun _ _=>rfl
  have e5:Extern.AbiNoEscape.same #[x] = pure x:=rfl
  have e6:program.run P w = .ok P w:=rfl
  simp only [callFunc,Sem.run_bind,e6,Result.andThen_ok,hf,e3,h1,Option.isNone_none,Bool.false_eq_true,if_false,if_true,e4,e1,e2,e5,Sem.run_pure]
 ·cases h
theorem markA_nx {s d:TypeId} {x v:Value} {H':AH} (h:markA P G H s d x = some (v,H')):H.nx ≤ H'.nx:=by
 unfold markA at h
 replace h:=(cc h).2
 split at h
 ·split at h
  ·have:=(cc h).2; cases this; exact Nat.le_refl _
  ·cases h
 ·cases h
theorem markA_spec (h:HRel w0 G L H w) {s d:TypeId} {v x r:Value} {H':AH} (hr:markA P G H s d v = some (r,H')) (hx:VR L v x) :
  ∃ y w',(convert s d x).run P w = .ok y w'∧HRel w0 G L H' w'∧VR L r y:=by
 unfold markA at hr
 have c0:=(cc hr).1
 replace hr:=(cc hr).2
 simp only [Bool.and_eq_true] at c0
 have hsd:s = d:=Nat.eq_of_beq_eq_true c0.1
 subst hsd
 obtain ⟨e,hu,he⟩:=isBytes_spec c0.2
 split at hr
 ·rename_i b o n c
  split at hr
  ·rename_i nn tr ty op hb
   obtain ⟨c1,hr⟩:=cc hr
   simp only [Option.some.injEq,Prod.mk.injEq] at hr
   obtain ⟨rfl,rfl⟩:=hr
   simp only [Bool.and_eq_true] at c1
   have hG:=ble c1.1.1
   have hs:=c1.1.2
   cases hx with
   | slice hp =>
    rename_i p
    obtain ⟨cur,fr,a1,a2,a3,a4⟩:=h.obj b _ p hb hp
    have hfr:fr = (0,0):=by
     rcases a2 with ⟨_,q⟩ | ⟨q,_⟩ | ⟨_,q⟩ | q
     ·exact q
     ·cases q
     ·exact q
     ·exact absurd q (Nat.not_lt_zero _)
    subst hfr
    have hrun:(convert s s (.slice (some ⟨p.b,p.base + o,none⟩) n (ccap c p.ext))).run P w = .ok (.slice (some ⟨p.b,p.base + o,none⟩) n (ccap c p.ext)) (w.freeze ⟨p.b,cur.size,none⟩ 1):=by
     have hsh:w.shape? p.b = some (ty,cur.size):=by
      unfold World.shape?
      rw [a1]
     simp [convert,run_underlying hu,run_underlying he,markStringish,hsh]
    have hfz:∀ k,(w.freeze ⟨p.b,cur.size,none⟩ 1).heap[k]? = if k = p.b then some (.cells cur ty (cur.size,cur.size + 1)) else w.heap[k]?:=fun k=>by
     unfold World.freeze
     rw [if_neg (by decide)]
     simp only [Array.getElem?_modify]
     by_cases e:p.b = k
     ·subst e; simp [a1]
     ·rw [if_neg e,if_neg (fun q=>e q.symm)]
    refine ⟨_,_,hrun,h.upd hb rfl hp hG hs (fun k hk=>by rw [hfz,if_neg hk]) (by unfold World.freeze; rw [if_neg (by decide)]; simp) (by unfold World.freeze; rw [if_neg (by decide)]) (by unfold World.freeze; rw [if_neg (by decide)]) (by unfold World.freeze; rw [if_neg (by decide)]) ?_,.slice hp⟩
    refine ⟨cur,(cur.size,cur.size + 1),by rw [hfz,if_pos rfl],.inr (.inl ⟨rfl,.inr (Nat.le_refl _)⟩),a3,a4⟩
  ·cases hr
 ·cases hr
theorem intT_spec {u:TypeId} (h:intT P u = true):∃ k,P.underlying u = some (.int k):=by
 unfold intT at h
 split at h
 ·rename_i k hu; exact ⟨k,hu⟩
 ·cases h
theorem run_append_zeros {t u ty e:TypeId} {i:TypeInfo} {z:Value} {m:Nat} (ht:P.underlying t = some (.slice e)) (hu:intT P u = true) (hi:P.info? e = some i) (hz:i.zero = some z) (hm:0 < m) (hsz:0 < i.size) (hm2:m ≤ 4294967296) (hb:m * i.bytes ≤ 140737488355328) {w:World} :
  (Builtin.append_ #[t,u] ty #[.slice none 0 0,.int .i64 (m:Int)]).run P w =
   .ok (.slice (some ⟨w.heap.size,0,none⟩) (0 + m) (grownCap w (0 + m) 0 e))
    (w.drew.alloc (.cells ((#[]:Array Value)++Builtin.zeroCells z.cells m++Builtin.zeroCells z.cells (grownCap w (0 + m) 0 e - (0 + m))) e)):=by
 obtain ⟨k,hk⟩:=intT_spec hu
 have hwrap:IntKind.i64.wrap (m:Int) = (m:Int):=by
  have e1:(m:Int) % 2 ^ 64 = (m:Int):=Int.emod_eq_of_lt (by omega) (by omega)
  have e2:¬ ((m:Int) ≥ 2 ^ (64 - 1)):=by omega
  simp only [IntKind.wrap,IntKind.bits,IntKind.signed,e1,e2,decide_false,Bool.and_false,Bool.false_eq_true,if_false]
 have h0:¬ ((m:Int) < 0):=by omega
 have h1:¬ (281474976710656 < (m:Int) * (i.bytes:Int)):=by
  have:((m * i.bytes:Nat):Int) ≤ ((140737488355328:Nat):Int):=Int.ofNat_le.2 hb
  rw [Int.natCast_mul] at this
  generalize (m:Int) * (i.bytes:Int) = q at this ⊢
  omega
 have h2:¬ (m ≤ 0):=by omega
 have h3:¬ ((9223372036854775807:Int) < (m:Int)):=by omega
 have h4:=growslice_fits (need:=m) (old:=0) (bytes:=i.bytes) (by omega) hb
 have h4':¬ (281474976710656 < Builtin.nextslicecap m 0 * i.bytes):=by omega
 have h5:¬ (m * i.size = 0):=by
  have:=Nat.mul_pos hm hsz
  omega
 simp [Builtin.append_,run_underlying ht,run_underlying hk,sizeOf,typeInfo,zeroValue,hi,hz,asInt,asIntOf,hwrap,h0,h1,h3,h4',h5,Question.forced,Builtin.firstCells,newRow,grownCap]
 omega
theorem appendZ_nx {t u:TypeId} {s x v:Value} {H':AH} (h:appendZ P H t u s x = some (v,H')):H.nx ≤ H'.nx:=by
 unfold appendZ at h
 split at h
 ·split at h
  ·split at h
   ·replace h:=(cc h).2
    split at h
    ·cases h; exact Nat.le_succ _
    ·cases h
   ·cases h
  ·cases h
 ·cases h
theorem appendZ_spec (h:HRel w0 G L H w) {t u ty:TypeId} {s x s' x' v:Value} {H':AH} (hr:appendZ P H t u s x = some (v,H')) (hs:VR L s s') (hx:VR L x x') :
  ∃ y w' L',(Builtin.append_ #[t,u] ty #[s',x']).run P w = .ok y w'∧Lam.ext H.nx L L'∧HRel w0 G L' H' w'∧VR L' v y:=by
 unfold appendZ at hr
 split at hr
 ·rename_i e he
  have hu:=elemT_slice he
  split at hr
  ·rename_i i n hi
   split at hr
   ·rename_i z hz
    have c0:=(cc hr).1
    replace hr:=(cc hr).2
    simp only [Bool.and_eq_true] at c0
    obtain ⟨⟨⟨⟨⟨⟨⟨⟨⟨⟨c1,c2⟩,c3⟩,c4⟩,c5⟩,c6⟩,c7⟩,c8⟩,c9⟩,c10⟩,c11⟩:=c0
    split at hr
    ·cases n with
     | negSucc q=>cases c2
     | ofNat m =>
      simp only [Option.some.injEq,Prod.mk.injEq] at hr
      obtain ⟨rfl,rfl⟩:=hr
      cases hs
      have hx':x' = .int .i64 (m:Int):=hx.eq_flat rfl
      subst hx'
      have c4:z.cells.size = i.size:=Nat.eq_of_beq_eq_true c4
      simp only [Int.ofNat_eq_natCast,Int.toNat_natCast] at c3 c8 c9 c10 ⊢
      have c3:0 < m:=by simpa using c3
      have c5:0 < i.size:=by simpa using c5
      have hrun:=run_append_zeros (P:=P) (ty:=ty) (w:=w) hu c1 hi hz c3 c5 (ble c9) (ble c8)
      have hone:(Builtin.zeroCells z.cells m).toList.all (·.oneCell') = true∧(Builtin.zeroCells z.cells m).toList.all flat = true:=by
       constructor <;>
       ·rw [List.all_eq_true] at c6 c7 ⊢
        intro y hy
        simp only [Builtin.zeroCells,Array.toList_map,List.mem_map] at hy
        obtain ⟨j,hj,rfl⟩:=hy
        have hlt:j % z.cells.size < z.cells.size:=Nat.mod_lt _ (by omega)
        rw [getElem!_pos z.cells _ hlt]
        first | exact c6 _ (by simp) | exact c7 _ (by simp)
      have hsize:(Builtin.zeroCells z.cells m).size = m * i.size:=by rw [size_zeroCells,c4]
      have hl:=grow_laid (L:=L) (w:=w) (n:=0) (m:=m) (sz:=i.size) (cap:=0) (e:=e) (z:=z) (olds:=[]) (news:=(Builtin.zeroCells z.cells m).toList) (xo:=[]) (xn:=(Builtin.zeroCells z.cells m).toList)
       (LR.refl_flat fun c hc=>List.all_eq_true.1 hone.2 c hc) (by simp [hsize]) hone.1 (by simpa using c10) c4 (.inl rfl) (by have:=ble c9; omega)
      obtain ⟨L',l1,l2,l3⟩:=h.laid (L:=L) hl c11
      simp only [List.nil_append,Nat.zero_add] at l2 l3
      refine ⟨_,_,L',hrun,l1,?_,?_⟩
      ·simpa using l2
      ·simpa using l3
    ·cases hr
   ·cases hr
  ·cases hr
 ·cases hr
theorem clearA_nx {t:TypeId} {x v:Value} {H':AH} (h:clearA P G H t x = some (v,H')):H.nx ≤ H'.nx:=by
 unfold clearA at h
 split at h
 ·have:=(cc h).2; cases this; exact Nat.le_refl _
 ·split at h
  ·split at h
   ·split at h
    ·have:=(cc h).2; cases this; exact Nat.le_refl _
    ·cases h
   ·cases h
  ·cases h
 ·cases h
theorem clearA_spec (h:HRel w0 G L H w) {t ty:TypeId} {x x' v:Value} {H':AH} (hr:clearA P G H t x = some (v,H')) (hx:VR L x x') :
  ∃ w',(Builtin.clear_ #[t] ty #[x']).run P w = .ok (.tuple #[]) w'∧HRel w0 G L H' w'∧v = .tuple #[]:=by
 unfold clearA at hr
 split at hr
 ·have c0:=(cc hr).1
  replace hr:=(cc hr).2
  simp only [Option.some.injEq,Prod.mk.injEq] at hr
  obtain ⟨rfl,rfl⟩:=hr
  cases hx
  split at c0
  ·rename_i e he
   have hu:=elemT_slice he
   exact ⟨w,by simp [Builtin.clear_,run_underlying hu],h,rfl⟩
  ·cases c0
 ·rename_i b o n c
  split at hr
  ·rename_i e he
   have hu:=elemT_slice he
   split at hr
   ·rename_i i hi
    split at hr
    ·rename_i z nn tr ty' op fz hz hb
     have c0:=(cc hr).1
     replace hr:=(cc hr).2
     simp only [Option.some.injEq,Prod.mk.injEq] at hr
     obtain ⟨rfl,rfl⟩:=hr
     simp only [Bool.and_eq_true] at c0
     obtain ⟨⟨⟨⟨⟨⟨⟨c1,c2⟩,c3⟩,c4⟩,c5⟩,c6⟩,c7⟩,c8⟩:=c0
     cases hx with
     | slice hp =>
      rename_i p
      obtain ⟨w',q1,q2,_⟩:=h.write (P:=P) hb hp (ble c1) c2 (off:=o) (cs:=(Builtin.zeroCells z.cells n).toList) (xs:=(Builtin.zeroCells z.cells n).toList) (ble c5) c3 c6 (ble c8) (LR.refl_flat fun y hy=>List.all_eq_true.1 c7 y hy)
      refine ⟨w',?_,q2,rfl⟩
      have c4:0 < n:=by simpa using c4
      cases n with
      | zero=>omega
      | succ n=>simp [Builtin.clear_,run_underlying hu,zeroValue,typeInfo,hi,hz,q1]
    ·cases hr
   ·cases hr
  ·cases hr
 ·cases hr
end
end Go.Run
