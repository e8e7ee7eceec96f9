import Derived.Test.YtgpccllhdcggdaaGreatDoorSa5
import Derived.Test.YtgpccllhdcggdaaGreatDoorXM
import Derived.Test.YtgpccllhdcggdaaGreatDoorR30
namespace Go.Proofs.YtgpccllhdcggdaaGreatDoor
open Go Go.Run Go.Run.Sh
set_option maxRecDepth 1000000 in
theorem zuN (ty0:TypeId) (ty1:TypeId) (ty2:TypeId) (n1 n2 k:Nat):runF Tryz.prog Tryz.runF 5 (fun v _=>veq v t) 21000 (zqs ty0 ty1 ty2 (Zc true n1 n2 k)) = true:=by kernel_rfl
set_option maxRecDepth 1000000 in
theorem zuO (ty0:TypeId) (ty1:TypeId) (ty2:TypeId) (n1 n2 k:Nat):runF Tryz.prog Tryz.runF 5 (fun v _=>veq v t) 21000 (zqs ty0 ty1 ty2 (Zc false n1 n2 k)) = true:=by kernel_rfl
open Go Go.Eng Go.RowKit
theorem zrT (ty0 ty1 ty2:TypeId) (n1 n2 k:Nat):Go.Run.Leads Tryz.prog 5 (fun v _=>Go.Run.veq v (.bool true)) (zql ty0 ty1 ty2 (Zc true n1 n2 k)) :=
 Go.Run.leads_cut Tryz.runF_ok Tryz.mixed (ztw ty0 ty1 ty2 n1 n2 k) (Go.Run.leads_cut Tryz.runF_ok Tryz.mixed (ztz ty0 ty1 ty2 n1 n2 k) (Go.Run.leads_cut Tryz.runF_ok Tryz.mixed (ztB ty0 ty1 ty2 n1 n2 k) (Go.Run.leads_cut Tryz.runF_ok Tryz.mixed (ztO ty0 ty1 ty2 n1 n2 k) (Go.Run.leads_cut Tryz.runF_ok Tryz.mixed (ztR ty0 ty1 ty2 n1 n2 k) (Go.Run.leads_cut Tryz.runF_ok Tryz.mixed (ztU ty0 ty1 ty2 n1 n2 k) (Go.Run.leads_run Tryz.runF_ok Tryz.mixed (zuN ty0 ty1 ty2 n1 n2 k)))))))
theorem zrU (ty0 ty1 ty2:TypeId) (n1 n2 k:Nat):Go.Run.Leads Tryz.prog 5 (fun v _=>Go.Run.veq v (.bool true)) (zql ty0 ty1 ty2 (Zc false n1 n2 k)) :=
 Go.Run.leads_cut Tryz.runF_ok Tryz.mixed (ztx ty0 ty1 ty2 n1 n2 k) (Go.Run.leads_cut Tryz.runF_ok Tryz.mixed (ztA ty0 ty1 ty2 n1 n2 k) (Go.Run.leads_cut Tryz.runF_ok Tryz.mixed (ztC ty0 ty1 ty2 n1 n2 k) (Go.Run.leads_cut Tryz.runF_ok Tryz.mixed (ztP ty0 ty1 ty2 n1 n2 k) (Go.Run.leads_cut Tryz.runF_ok Tryz.mixed (ztS ty0 ty1 ty2 n1 n2 k) (Go.Run.leads_cut Tryz.runF_ok Tryz.mixed (ztV ty0 ty1 ty2 n1 n2 k) (Go.Run.leads_run Tryz.runF_ok Tryz.mixed (zuO ty0 ty1 ty2 n1 n2 k)))))))
theorem zxV:G0 = zto:=by unfold G0 zto; rfl
theorem zxW:G1 = ztp:=by unfold G1 ztp; rfl
def z8:Unit->Option Bool:=fun _=>some true
theorem zxX:Go.Eng.Fn Tryz.prog 5 [] [] (.bool true) []:=by
 intro w pr lam cargs hl hargs _ _ _
 obtain ⟨⟨ty0,h0⟩,_⟩:=hl.glob 0 G0 (by kernel_rfl)
 rw [zxV] at h0
 have z0:=(Array.getElem?_eq_some_iff.1 h0).1
 obtain ⟨⟨ty1,h1⟩,_⟩:=hl.glob 3 G1 (by kernel_rfl)
 rw [zxW] at h1
 have z1:=(Array.getElem?_eq_some_iff.1 h1).1
 obtain ⟨bm,hT,_,_⟩:=hl.tab 1 rfl
 have e0:=hT.nocells h0
 have e1:=hT.nocells h1
 obtain ⟨⟨ty2,fr,ht⟩,es,k,h3,o,n1,n2,he⟩:=hT
 have et:bm ≠ 1:=by rintro rfl; rw [ht] at h3; cases h3
 have zt:=(Array.getElem?_eq_some_iff.1 ht).1
 have zb:=(Array.getElem?_eq_some_iff.1 h3).1
 simp only [RL] at hargs
 have:cargs = #[]:=by rw [<- Array.toList_inj]; simpa using hargs
 subst this
 have hgo:∀ m:Go.Run.T Go.Run.AObj,Go.Run.GlobT 5 bm w m->Go.Run.Leads Tryz.prog 5 (fun v _=>Go.Run.veq v (.bool true)) (Go.Run.start Tryz.f5 5 5 [] m)->Calls Tryz.prog 5 #[] w fun en w'=>∃ v pr',en = .returned v/\R ⟨w',pr',lam⟩ (.bool true) v/\zdo w' pr' lam []/\Go.Eng.Left w pr lam w' pr':=by
  intro m hm hL
  refine (Go.Run.calls_of_leadsT (F:=Tryz.runF) (fn:=Tryz.f5) Tryz.runF_ok hm (by omega) zb (by kernel_rfl) (by kernel_rfl) (by kernel_rfl) hL).mono fun en w' ⟨hen,hk⟩=>?_
  exact ⟨.bool true,pr,hen,by simp [R],fun i B h=>by simp at h,⟨hk.os,hk.tape,hk.output,trivial,hk.size,fun k hk' _=>hk.block k hk',fun _ _ h=>h,fun _ _ h=>.inl h⟩⟩
 have hfl:∀ x ∈ TEl o n1 n2,Go.Run.flat x.key = true/\Go.Run.flat x.val = true:=fun x hx=>by
  unfold TEl at hx
  cases o <;> simp only [cond_true,cond_false,List.mem_cons,List.not_mem_nil,or_false] at hx <;> rcases hx with rfl | rfl <;> exact ⟨by kernel_rfl,by kernel_rfl⟩
 have hmap:=Go.Run.tabMap_rel (L:=Go.Run.tabL 5 bm) h3 he hfl
 cases o with
 | true=>exact hgo _ (Go.Run.globT_map (Go.Run.globT_set (Go.Run.globT_set (Go.Run.globT_set (Go.Run.globT_nil) (by omega) (Ne.symm e0) (Go.Run.laidObj_rel h0 (by kernel_rfl) (by kernel_rfl))) (by omega) (Ne.symm e1) (Go.Run.laidObj_rel h1 (by kernel_rfl) (by kernel_rfl))) (by omega) (Ne.symm et) (Go.Run.tabCell_rel ht)) hmap) (zrT ty0 ty1 ty2 n1 n2 k)
 | false=>exact hgo _ (Go.Run.globT_map (Go.Run.globT_set (Go.Run.globT_set (Go.Run.globT_set (Go.Run.globT_nil) (by omega) (Ne.symm e0) (Go.Run.laidObj_rel h0 (by kernel_rfl) (by kernel_rfl))) (by omega) (Ne.symm e1) (Go.Run.laidObj_rel h1 (by kernel_rfl) (by kernel_rfl))) (by omega) (Ne.symm et) (Go.Run.tabCell_rel ht)) hmap) (zrU ty0 ty1 ty2 n2 n1 k)
theorem z8.fn:Go.X.FnT Tryz.prog 5 [] [.bool] z8:=by
 intro x r h
 cases h
 exact zxX
noncomputable def z8.spec:Go.X.XSpec Tryz.prog:=Go.X.XSpec.t 5 [] [.bool] z8 (by kernel_rfl) z8.fn
end Go.Proofs.YtgpccllhdcggdaaGreatDoor
