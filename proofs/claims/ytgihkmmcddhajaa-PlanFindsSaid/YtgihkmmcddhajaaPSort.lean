import Derived.Test.YtgihkmmcddhajaaPCmp
import Derived.Test.YtgihkmmcddhajaaPLay
namespace Go.Proofs.Ytgihkmmcddhajaa
open Go.X Go.Eng
open Go.Shelf Go.RowKit Go.Lib Go.Sort Go.Proofs
set_option linter.unusedSimpArgs false
set_option linter.unusedVariables false

def encLC (x : Contact) : List Value := [.int .i64 x.From, .int .i64 x.To, .int .i64 x.Start, .int .i64 x.End, .int .i64 x.Rate, .int .i64 x.Delay]

instance : Inhabited Contact := ⟨⟨0, 0, 0, 0, 0, 0⟩⟩

theorem encLC_R (E : Env) (x : Contact) (v : Value) : R E (enc .Contact x) v ↔ v = .agg (encLC x).toArray := by
  show R E (enc_Contact x) v ↔ _
  unfold enc_Contact encLC
  simp only [R, RL]
  constructor
  · rintro ⟨xs, rfl, h⟩
    obtain ⟨a, l, rfl, rfl, b, l, rfl, rfl, c, l, rfl, rfl, d, l, rfl, rfl, e, l, rfl, rfl, f, l, rfl, rfl, rfl⟩ := h.1
    rfl
  · rintro rfl
    refine ⟨_, rfl, ⟨_, _, rfl, rfl, _, _, rfl, rfl, _, _, rfl, rfl, _, _, rfl, rfl, _, _, rfl, rfl, _, _, rfl, rfl, rfl⟩, ?_⟩
    intro z hz
    simp at hz
    rcases hz with rfl | rfl | rfl | rfl | rfl | rfl <;> rfl

noncomputable def plan_compare.srt (d : List Contact) : List Contact := (pdq (ltOf cmpC) d.toArray 0 d.length (Lib.bitLen d.length) true true).toList

noncomputable def plan_compare.sort : XSort Try.prog where
  f := 35
  g := some 36
  c := .Contact
  srt := plan_compare.srt
  sound := Sorts.of_kit Try.sortL 6 Try.isAgg40 Try.sizeOf40 (enc .Contact) encLC (fun _ => rfl) (fun x v hv => by simp [encLC] at hv; rcases hv with rfl | rfl | rfl | rfl | rfl | rfl <;> rfl) encLC_R cmpC swo 36 (enters_of Try.func36 (by kernel_rfl) rfl)
    (fun x y => plan_compare.fn (x, y) (cmpC x y) (compare_w x y))
  go := by kernel_rfl
end Go.Proofs.Ytgihkmmcddhajaa
