import Derived.Test.YtjcbpfhlgebgdaaDoorInsB
import Derived.Test.YtjcbpfhlgebgdaaDoorX9
import Derived.KernelRfl
set_option linter.unusedSimpArgs false
set_option linter.unusedVariables false
namespace Go.Proofs.YtjcbpfhlgebgdaaDoor
open Go Go.Eng Go.X
noncomputable def insertX (l : List Mrk) (i : Int) (r : List Mrk) : Option (List Mrk) :=
 match r with
 | [x] => if 0 ≤ i ∧ i ≤ l.length ∧ (l.length + 1) * 32 ≤ 140737488355328 then some (l.take i.toNat ++ [x] ++ l.drop i.toNat) else none
 | _ => none
theorem flatL_map_Mrk : ∀ l : List Mrk, V.flatL (l.map enc_Mrk) = true
 | [] => rfl
 | x :: l => by
  rw [List.map_cons]
  show (V.flat (enc_Mrk x) && V.flatL (l.map enc_Mrk)) = true
  rw [flatL_map_Mrk l]
  rfl
theorem rowsOK_map_Mrk (l : List Mrk) : rowsOK 4 (l.map enc_Mrk) := by
 intro v hv
 obtain ⟨x, _, rfl⟩ := List.mem_map.1 hv
 rfl
theorem insert_go : isGo Tryd.prog 91 = true := by kernel_rfl
noncomputable def insertM.mu : XMut Tryd.prog where
 f := 91
 p := 0
 c := .Mrk
 e := 130
 run := fun args ins K => match args, ins with
  | [.lst .Mrk l, .int .i64 i, .lst .Mrk r], [] => some ((insertX l i r).bind fun l' => K l' [])
  | _, _ => none
 sound := by
  intro β args ins K r h
  split at h
  ·rename_i l i r0
   simp only [Option.some.injEq] at h
   obtain ⟨l', h1, h2⟩ := bind_some h
   refine ⟨l', [], h2, insert_go, ?_, by simp, rfl⟩
   unfold insertX at h1
   split at h1
   ·rename_i x
    split at h1
    ·rename_i hc
     simp only [Option.some.injEq] at h1
     subst h1
     have hi : i = (i.toNat : Int) := by omega
     have hF := ins_fnM (l.map enc_Mrk) (enc_Mrk x) i.toNat (by rw [List.length_map]; omega) (rowsOK_map_Mrk l) (rowsOK_map_Mrk [x]) (flatL_map_Mrk l) rfl (by rw [List.length_map]; exact hc.2.2)
     rw [← hi] at hF
     simpa [toVL, toV, enc, List.map_take, List.map_drop] using hF
    ·cases h1
   ·cases h1
  ·cases h
end Go.Proofs.YtjcbpfhlgebgdaaDoor
