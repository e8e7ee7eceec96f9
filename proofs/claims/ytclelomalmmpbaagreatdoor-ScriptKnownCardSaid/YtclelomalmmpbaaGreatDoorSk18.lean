import Derived.Test.YtclelomalmmpbaaGreatDoorSkD
set_option linter.unusedSimpArgs false
set_option linter.unusedVariables false
namespace Go.Proofs.YtclelomalmmpbaaGreatDoor
open Go Go.Run Go.Run.Sh
set_option maxRecDepth 1000000 in
theorem Sk_run18a {C:World→Prop} (hK:AsK C Tryz.prog 44 86 88) {test:Value→AH→Bool} (ty0:TypeId) (ty1:TypeId) (ty2:TypeId) (n1 n2 k:Nat) (h:LeadsC C Tryz.prog 5 test (Sk_c19 ty0 ty1 ty2 (Sk_om true n1 n2 k))):LeadsC C Tryz.prog 5 test (Sk_c18 ty0 ty1 ty2 (Sk_om true n1 n2 k)):=by
 rw [show (Sk_c18 ty0 ty1 ty2 (Sk_om true n1 n2 k)) = ⟨{ fn:=44,nt:=Tryz.f44.ntmps,tm:=(Sk_c18 ty0 ty1 ty2 (Sk_om true n1 n2 k)).fr.tm,todo:=[.code (cAt Tryz.f44 [])],dr:=none,defers:=[],ret:=false,rnd:=none,lo:=(Sk_c18 ty0 ty1 ty2 (Sk_om true n1 n2 k)).fr.lo },(Sk_c18 ty0 ty1 ty2 (Sk_om true n1 n2 k)).cs.headD (Sk_c18 ty0 ty1 ty2 (Sk_om true n1 n2 k)).fr :: (Sk_c18 ty0 ty1 ty2 (Sk_om true n1 n2 k)).cs.tail,(Sk_c18 ty0 ty1 ty2 (Sk_om true n1 n2 k)).H⟩ by kernel_rfl]
 exact leads_as (n:=289) (tb:=2882) (ty:=86) (t:=(e (i 0))) (old:=(i 0)) hK Tryz.func44 (by kernel_rfl) (of_decide_eq_true (by kernel_rfl)) (by kernel_rfl) (by kernel_rfl) (by kernel_rfl) (by kernel_rfl) (by kernel_rfl) (by kernel_rfl) (by kernel_rfl) (by kernel_rfl) h
set_option maxRecDepth 1000000 in
theorem Sk_run18b {C:World→Prop} (hK:AsK C Tryz.prog 44 86 88) {test:Value→AH→Bool} (ty0:TypeId) (ty1:TypeId) (ty2:TypeId) (n1 n2 k:Nat) (h:LeadsC C Tryz.prog 5 test (Sk_c19 ty0 ty1 ty2 (Sk_om false n1 n2 k))):LeadsC C Tryz.prog 5 test (Sk_c18 ty0 ty1 ty2 (Sk_om false n1 n2 k)):=by
 rw [show (Sk_c18 ty0 ty1 ty2 (Sk_om false n1 n2 k)) = ⟨{ fn:=44,nt:=Tryz.f44.ntmps,tm:=(Sk_c18 ty0 ty1 ty2 (Sk_om false n1 n2 k)).fr.tm,todo:=[.code (cAt Tryz.f44 [])],dr:=none,defers:=[],ret:=false,rnd:=none,lo:=(Sk_c18 ty0 ty1 ty2 (Sk_om false n1 n2 k)).fr.lo },(Sk_c18 ty0 ty1 ty2 (Sk_om false n1 n2 k)).cs.headD (Sk_c18 ty0 ty1 ty2 (Sk_om false n1 n2 k)).fr :: (Sk_c18 ty0 ty1 ty2 (Sk_om false n1 n2 k)).cs.tail,(Sk_c18 ty0 ty1 ty2 (Sk_om false n1 n2 k)).H⟩ by kernel_rfl]
 exact leads_as (n:=289) (tb:=2882) (ty:=86) (t:=(e (i 0))) (old:=(i 0)) hK Tryz.func44 (by kernel_rfl) (of_decide_eq_true (by kernel_rfl)) (by kernel_rfl) (by kernel_rfl) (by kernel_rfl) (by kernel_rfl) (by kernel_rfl) (by kernel_rfl) (by kernel_rfl) (by kernel_rfl) h
end Go.Proofs.YtclelomalmmpbaaGreatDoor
