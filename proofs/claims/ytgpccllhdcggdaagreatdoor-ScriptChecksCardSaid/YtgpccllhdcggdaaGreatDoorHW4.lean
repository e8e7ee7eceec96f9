import Derived.Test.YtgpccllhdcggdaaGreatDoorHW2
namespace Go.Proofs.YtgpccllhdcggdaaGreatDoor
open Go Go.RowKit
set_option maxRecDepth 100000 in
theorem zmd (os:Os) (args:Array Value):((ziy os).forCall (fun _ _=>0) ⟨#[],args,[]⟩).Shaped Tryz.prog:=World.shaped_of_ZipB (by kernel_rfl) (by kernel_rfl)
open Go Go.RowKit
set_option maxRecDepth 100000 in
theorem zu1 (os:Os):Input.okWideB Tryz.prog ((ziy os).forCall (fun _ _=>0) ⟨#[],#[.agg #[.slice none 0 0,.slice none 0 0,.slice none 0 0],.int .i64 0,.int .i64 0],[]⟩) 3 ⟨#[],#[.agg #[.slice none 0 0,.slice none 0 0,.slice none 0 0],.int .i64 0,.int .i64 0],[]⟩ = true:=by kernel_rfl
set_option maxRecDepth 100000 in
theorem zsl (os:Os) {H:Type} (enc:TypeId × Value->H):Rows.scriptChecksSpec.preB enc Tryz.prog Tryz.f3 Rows.scriptChecksRow.domain false ((ziy os).forCall (fun _ _=>0) ⟨#[],#[.agg #[.slice none 0 0,.slice none 0 0,.slice none 0 0],.int .i64 0,.int .i64 0],[]⟩).memory #[.agg #[.slice none 0 0,.slice none 0 0,.slice none 0 0],.int .i64 0,.int .i64 0] 8 = true:=by kernel_rfl
set_option maxRecDepth 100000 in
theorem zu2 (os:Os) {H:Type} (enc:TypeId × Value->H):Rows.scriptChecksSpec.sizedB enc Tryz.prog Tryz.f3 false ((ziy os).forCall (fun _ _=>0) ⟨#[],#[.agg #[.slice none 0 0,.slice none 0 0,.slice none 0 0],.int .i64 0,.int .i64 0],[]⟩).memory #[.agg #[.slice none 0 0,.slice none 0 0,.slice none 0 0],.int .i64 0,.int .i64 0] 8 = true:=by kernel_rfl
end Go.Proofs.YtgpccllhdcggdaaGreatDoor
