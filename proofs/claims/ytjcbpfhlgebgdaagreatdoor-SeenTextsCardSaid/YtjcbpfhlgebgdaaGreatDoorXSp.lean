import Derived.Test.YtjcbpfhlgebgdaaGreatDoorXTw
import Derived.Test.YtjcbpfhlgebgdaaGreatDoorPLayP
import Derived.Lib.IndexBytes
set_option linter.unusedSimpArgs false
set_option linter.unusedVariables false
namespace Go.Proofs.YtjcbpfhlgebgdaaGreatDoor
open Go Go.X Go.Eng Go.RowKit Go.Proofs Go.Shelf
def zgW (a:List UInt8 × List UInt8):Option Int:=match a.2 with
 | [c]=>some (Lib.indexByte a.1 c)
 | _=>none
def zN:List UInt8 × List UInt8->Option Int:=zgW
theorem zqP {f:FuncId} {g:List UInt8 × List UInt8->Option Int} (h:∀ (s:List UInt8) (t:List UInt8) n,g (s,t) = some n->∃ c,t = [c]/\∀ w:World,Calls Tryz.prog f #[.string ⟨s.toArray⟩,.string ⟨#[c]⟩] w fun e w'=>e = .returned (.int .i64 n)/\w' = w):FnT Tryz.prog f [.d .str,.d .str] [.i64] g:=by
 intro x r hr
 obtain ⟨s,t⟩:=x
 obtain ⟨c,rfl,hc⟩:=h s t r hr
 refine zbY fun w pr lam cargs hl hargs=>?_
 simp only [yr,qT,qa,refl,YP,zg,toV,RL,R] at hargs
 obtain ⟨y,ys,e,⟨rfl,hs⟩,y2,ys2,rfl,⟨rfl,hs2⟩,rfl⟩:=hargs
 have hc':cargs = #[.string ⟨s.toArray⟩,.string ⟨#[c]⟩]:=by rw [<- Array.toList_inj]; simpa using e
 subst hc'
 refine (hc w).mono ?_
 rintro en w' ⟨rfl,rfl⟩
 refine ⟨_,rfl,fun E=>?_,Below.refl _ _⟩
 show R E (.int .i64 r) _
 simp only [R]
theorem zs6 {s t:List UInt8} {n:Int} (h:zgW (s,t) = some n):∃ c,t = [c]/\n = Lib.indexByte s c:=by
 unfold zgW at h
 dsimp only at h
 split at h
 ·rename_i c
  cases h
  exact ⟨c,rfl,rfl⟩
 ·cases h
theorem zN.fn:FnT Tryz.prog 134 [.d .str,.d .str] [.i64] zN:=zqP fun s t n h=>by
 obtain ⟨c,rfl,rfl⟩:=zs6 h
 exact ⟨c,rfl,fun w=>Any.stringslite_Index_one { Tryz.indexI with } ⟨s.toArray⟩ c w⟩
noncomputable def zN.spec:ze Tryz.prog:=ze.t 134 [.d .str,.d .str] [.i64] zN (by kernel_rfl) zN.fn
open Go Go.X Go.Eng Go.RowKit Go.Proofs Go.Shelf
set_option maxHeartbeats 1000000 in
theorem zoH {P:Program} {ρ:Ren} (L:Lays.n146 P ρ) (hi9:(P.info? (ρ.t 9)).map (fun i=>(i.zero,i.size,i.bytes)) = some (some (.string ByteArray.empty),1,16)) (s:ByteArray) (c:UInt8) (w:World) (hs:s.size < 4294967281) :
  Calls P (ρ.f 146) #[.string s,.string ⟨#[c]⟩] w fun e w' =>
   e = .returned (.slice (some ⟨w.heap.size,0,none⟩) (Lib.countB s ⟨#[c]⟩ + 1) (Lib.countB s ⟨#[c]⟩ + 1))/\w' = w.alloc (.cells ((Lib.splitB ⟨#[c]⟩ 0 (Lib.countB s ⟨#[c]⟩) s).map Value.string).toArray (ρ.t 9)):=by
 have h1:1 <= (⟨#[c]⟩:ByteArray).size:=Nat.le_refl _
 have hle:=Lib.countB_le ⟨#[c]⟩ h1 s.size s (Nat.le_refl _)
 have hlen:=Lib.splitB_all ⟨#[c]⟩ h1 0 _ s rfl
 have hC:Calls P (ρ.f 138) #[.string s,.string ⟨#[c]⟩] w fun e w'=>e = .returned (.int .i64 (Lib.countB s ⟨#[c]⟩))/\w' = w:=by
  refine (Any.strings_Count_one { L with } s c w).mono fun e w' ⟨he,hw⟩=>⟨?_,hw⟩
  rw [he]
  show _ = Ending.returned (Value.int .i64 ((Lib.count s.data.toList [c]:Nat):Int))
  rw [Lib.count_one]
  rfl
 have cc:=Any.strings_genSplit_core { L with } hi9 s ⟨#[c]⟩ 0 (-1) (Lib.countB s ⟨#[c]⟩ + 1) w hs h1 (Nat.zero_le _) (fun x cs hx=>by
  refine (Any.strings_Index_one { L with } x c _).mono fun e w' ⟨he,hw⟩=>⟨?_,hw⟩
  rw [he]
  show _ = Ending.returned (Value.int .i64 (Lib.index x.data.toList [c]))
  rw [Lib.index_one]) hC (by decide) (by decide) (by rw [if_pos (by decide)]; omega)
 rw [Nat.add_sub_cancel,hlen] at cc
 have e2:Lib.cellsOf (Lib.splitB ⟨#[c]⟩ 0 (Lib.countB s ⟨#[c]⟩) s) (Lib.countB s ⟨#[c]⟩ + 1) = ((Lib.splitB ⟨#[c]⟩ 0 (Lib.countB s ⟨#[c]⟩) s).map Value.string).toArray:=by rw [<- hlen]; exact Lib.cellsOf_full _
 rw [e2] at cc
 have t3:=L.t3; have t9:=L.t9; have t31:=L.t31
 have a3:=L.a3; have a9:=L.a9; have a31:=L.a31
 have z3:=L.z3; have v3:=L.v3; have z9:=L.z9; have v9:=L.v9; have z31:=L.z31; have v31:=L.v31
 have e221:∀ args w,(callFunc (ρ.f 221) args).run P w = .ok (.enter (ρ.f 221) args) w:=enters_of L.f221 (by kernel_rfl) rfl
 go_enter L.f146,Body.n146_ntmps ρ
 go_wp2_with (go_at_fn (ρ.f 221); refine cc.mono ?_; rintro e w' ⟨rfl,hw⟩; rw [hw])
 go_ret
 exact ⟨rfl,rfl⟩
noncomputable def qe (a:List UInt8 × List UInt8):Option (List (List UInt8)):=match a.2 with
 | [c]=>if a.1.length <= 1000000/\(∀ x ∈ Lib.splitK [c] 0 (Lib.count a.1 [c]) a.1,x.length <= 1000000)/\Lib.count a.1 [c] <= 1000000 then some (Lib.splitK [c] 0 (Lib.count a.1 [c]) a.1) else none
 | _=>none
theorem qe.fo:zoB Tryz.prog 89 [.d .str,.d .str] .str 9 qe:=by
 intro x l h w pr cargs hl hargs
 obtain ⟨s,t⟩:=x
 rcases t with _ | ⟨c,_ | ⟨d,t⟩⟩
 ·cases h
 ·unfold qe at h
  dsimp only at h
  split at h
  ·rename_i hg
   obtain ⟨g1,g2,g3⟩:=hg
   cases h
   simp only [yr,qT,qa,refl,YP,zg,toV,RL,R] at hargs
   obtain ⟨y,ys,e,⟨rfl,hs⟩,y2,ys2,rfl,⟨rfl,hs2⟩,rfl⟩:=hargs
   have hc':cargs = #[.string ⟨s.toArray⟩,.string ⟨#[c]⟩]:=by rw [<- Array.toList_inj]; simpa using e
   subst hc'
   have hsz:(⟨s.toArray⟩:ByteArray).size < 4294967281:=by show s.toArray.size < _; simp; omega
   have hd:=Lib.splitB_data ⟨#[c]⟩ 0 (Lib.countB ⟨s.toArray⟩ ⟨#[c]⟩) ⟨s.toArray⟩
   have hlen:=Lib.splitB_all ⟨#[c]⟩ (Nat.le_refl _) 0 _ ⟨s.toArray⟩ rfl
   have hcb:Lib.countB ⟨s.toArray⟩ ⟨#[c]⟩ = Lib.count s [c]:=rfl
   rw [hcb] at hd hlen
   have hd':(Lib.splitB ⟨#[c]⟩ 0 (Lib.count s [c]) ⟨s.toArray⟩).map (·.data.toList) = Lib.splitK [c] 0 (Lib.count s [c]) s:=hd
   refine (zoH Tryz.splI (by kernel_rfl) ⟨s.toArray⟩ c w hsz).mono ?_
   rintro en w' ⟨rfl,rfl⟩
   rw [hcb]
   have hh:(w.alloc (.cells ((Lib.splitB ⟨#[c]⟩ 0 (Lib.count s [c]) ⟨s.toArray⟩).map Value.string).toArray (Tryz.splI_ren.t 9))).heap[w.heap.size]? = some (.cells ((Lib.splitB ⟨#[c]⟩ 0 (Lib.count s [c]) ⟨s.toArray⟩).map Value.string).toArray (Tryz.splI_ren.t 9) (0,0)):=Array.getElem?_push.trans (if_pos rfl)
   have hll:(Lib.splitK [c] 0 (Lib.count s [c]) s).length = Lib.count s [c] + 1:=by rw [<- hd',List.length_map,hlen]
   refine ⟨_,fun b o=>pr b o ∨ (b = w.heap.size/\o < Lib.count s [c] + 1),rfl,?_,?_,?_⟩
   ·simp only [R]
    refine ⟨_,_,by rw [List.length_map,hll],by rw [List.length_map,hll]; exact Nat.le_refl _,Nat.le_trans (Nat.succ_le_succ g3) (by decide),.inr ⟨_,0,1,rfl,RR.of_get fun i r hi=>?_⟩⟩
    rw [<- hd',List.map_map,List.getElem?_map] at hi
    cases hq:(Lib.splitB ⟨#[c]⟩ 0 (Lib.count s [c]) ⟨s.toArray⟩)[i]? with
    | none=>rw [hq] at hi; cases hi
    | some p =>
     rw [hq] at hi
     cases hi
     have hm:p.data.toList ∈ Lib.splitK [c] 0 (Lib.count s [c]) s:=by rw [<- hd']; exact List.mem_map.2 ⟨p,List.mem_of_getElem? hq,rfl⟩
     have hlt:=(List.getElem?_eq_some_iff.1 hq).1
     refine ⟨.string p,?_,rfl,fun j z hz=>?_⟩
     ·show R _ (.str p.data.toList) _
      simp only [R]
      exact ⟨by cases p; simp,Nat.le_trans (g2 _ hm) (by decide)⟩
     ·have hj:j = 0/\z = .string p:=by
       simp only [Value.cells] at hz
       cases j with
       | zero=>exact ⟨rfl,by simpa using hz.symm⟩
       | succ j=>simp at hz
      obtain ⟨rfl,rfl⟩:=hj
      refine ⟨⟨?_,.inr ⟨rfl,by omega⟩⟩,rfl⟩
      simp only [World.cell?,hh]
      simp [hq]
   ·refine ⟨rfl,rfl,rfl,DLE.any _ _,by simp,fun k hk _=>?_,fun b o q=>.inl q,fun b o q=>?_⟩
    ·show (w.heap.push _)[k]? = _
     rw [Array.getElem?_push,if_neg (by omega)]
    ·rcases q with q | ⟨rfl,_⟩
     ·exact .inl q
     ·exact .inr ⟨Nat.le_refl _,by simp⟩
   ·intro g hg
    simp only [zp] at hg
    split at hg
    ·cases hg
     refine ⟨Nat.le_refl _,_,_,_,1,rfl,hh,by kernel_rfl,by simp [hlen],fun o ho q=>?_⟩
     rcases q with q | ⟨_,q⟩
     ·exact Nat.lt_irrefl _ (hl.lt _ _ q)
     ·omega
    ·cases hg
  ·cases h
 ·cases h
noncomputable def qe.ow:zcL Tryz.prog:=zcL.t 89 [.d .str,.d .str] .str 9 qe (by kernel_rfl) qe.fo
end Go.Proofs.YtjcbpfhlgebgdaaGreatDoor
