import Derived.Test.YtjcbpfhlgebgdaaDoorRows
import Derived.Test.YtjcbpfhlgebgdaaDoorCards
import Derived.Test.YtjcbpfhlgebgdaaDoorTie
import Derived.Test.YtjcbpfhlgebgdaaDoorPRt
import Derived.Test.YtjcbpfhlgebgdaaDoorHLr
import Derived.Test.YtjcbpfhlgebgdaaDoorXO
import Derived.ProofKit
import Derived.OpenShut
import Derived.LaidMore
import Derived.Lay
import Derived.SevenTiedAt
import Derived.Stop.Joined
import Derived.SizedLaws
import Derived.ChangeBears2
set_option linter.unusedSimpArgs false
set_option linter.unusedVariables false
namespace Go.Proofs.YtjcbpfhlgebgdaaDoor
open Go.ChangeShapes Go.WideShapes Go.ChangeAt Go.RowKit Go.Eng Go.X
theorem traceRound_call (W:World) (hL:laidMetH Tryd.prog Rows.traceRoundRow.laid W) (x0 x1:Value) (y0:List (Int)) (y1:List UInt8) (h0:Eng.R (E0 W) (enc_l_i64 y0) x0) (h1:Eng.R (E0 W) (enc_str y1) x1) (f0:fit (enc_l_i64 y0)) (f1:fit (enc_str y1)) :
  Calls Tryd.prog 6 #[x0,x1] W fun e w'=>e = .returned (.bool true)∧Below W.heap.size W w':=by
 have hF:Go.Eng.Fn Tryd.prog 6 [enc_l_i64 y0,enc_str y1] [] (.bool true) []:=packhorselaw39_TraceRound.fn (y0,y1) true ((traceRound_w y0 y1))
 refine (hF W _ (fun _=>none) #[x0,x1] (hl_of_laid W hL rfl) (by simp only [RL]; exact ⟨x0,_,rfl,h0,⟨x1,_,rfl,h1,rfl⟩⟩) (fun i B h=>by simp at h) (fun i j b h=>by cases h) (fun _ _=>rfl)).mono fun e w' ⟨v,pr',he,hr,_,hleft⟩=>?_
 simp only [Eng.R] at hr
 exact ⟨by rw [he,hr],{ os:=hleft.os,tape:=hleft.tape,output:=hleft.output,size:=hleft.size,block:=fun k hk=>hleft.block k hk (by simp) }⟩
theorem own:ownKnob Tryd.prog.godebug = none:=by kernel_rfl
theorem Tryd.laidOutL:laidOutB Tryd.prog = true:=by kernel_rfl
set_option maxHeartbeats 1600000 in
set_option maxRecDepth 100000 in
theorem traceRound_lifted (os:Os) (started:os.Started) (H:Type) (enc:TypeId × Value→H) :
  ReturnsInHanded {} Tryd.checked os 6 .any (fun w args=>(Rows.traceRoundSpec.pre enc Tryd.prog Tryd.f6 Rows.traceRoundRow.domain false w args∧laidMetH Tryd.prog Rows.traceRoundRow.laid w)∧sizedMet enc Tryd.prog Tryd.f6 (OpenSpec.ofChange Rows.traceRoundSpec) false w args)
   (Rows.traceRoundSpec.post enc Tryd.prog Tryd.f6 false true false false):=by
 refine returnsInHanded_of_change_and (C:=Tryd.checked) (X:=fun w _=>laidMetH Tryd.prog Rows.traceRoundRow.laid w) (fun _ _ _ hh h=>h.of_heap hh) own started (by kernel_rfl) Tryd.func6
  (ChangeSpec.witness_shaped (enc:=enc) (C:=Tryd.checked) (os:=os) (X:=fun w _=>laidMetH Tryd.prog Rows.traceRoundRow.laid w) false (World.laidAll Tryd.prog os Rows.traceRoundRow.laid) #[.slice none 0 0,.string ⟨#[]⟩] 8 (World.laidAll_os _ _ _)
   (World.shaped_of_ZipB (by kernel_rfl) (by kernel_rfl)) (by kernel_rfl) (by kernel_rfl) (by kernel_rfl)
   (by rw [MakeChecks.laidMetH_plain _ _ _ (by kernel_rfl)]; exact laidMet_laidAll _ (by kernel_rfl) (by kernel_rfl))) ?_
 intro W base args ds gs before hval0 hW hc _ hL _
 have hval:∀ (j:Nat) t v,Tryd.f6.params[j]? = some t→args[j]? = some v→Value.okWide Tryd.prog W .any base t v:=hval0
 have hW':=hW
 obtain ⟨p,q,hA0,hV,rfl,_,_⟩:=hW
 have hA:DataW.TrodAll enc Tryd.prog W 0 (fun _=>true) true Tryd.f6.params.toList args.toList ds p:=hA0
 rw [Tryd.params6] at hA hval
 obtain ⟨v0,v1,d0,d1,p0,p1,rfl,rfl,rfl,t0,t1⟩:=trodAll_two hA
 obtain ⟨rfl,rfl⟩:=trodVars_none hV
 clear hA0 hval0
 simp only [List.append_nil] at hW'
 have hlt:∀ x ∈ (p0++p1),x.block < W.heap.size:=fun x hx=>hW'.lt x (by simpa using hx)
 have hargs0:∀ (W':World),Below W.heap.size W W'→DataW.Trod enc Tryd.prog W' 0 (fun b=>decide (b < W.heap.size)) true 35 v0 d0 p0 :=
  fun W' hn=>Below.trod Tryd.laidOutL (by kernel_rfl) (of_decide_eq_true (by kernel_rfl)) t0 hn fun x hx=>hlt x (by simp [hx])
 have hargs1:∀ (W':World),Below W.heap.size W W'→DataW.Trod enc Tryd.prog W' 0 (fun b=>decide (b < W.heap.size)) true 9 v1 d1 p1 :=
  fun W' hn=>Below.trod Tryd.laidOutL (by kernel_rfl) (of_decide_eq_true (by kernel_rfl)) t1 hn fun x hx=>hlt x (by simp [hx])
 obtain ⟨r0,hR0,hF0,hI0⟩:=open_list Tryd.underlying35 (show flatT Tryd.prog 3 = some (false,[.int .i64]) by kernel_rfl) (hval 0 35 v0 rfl rfl) t0
 obtain ⟨y0,rfl⟩:=map_of (f:=enc_i64) (fun r ⟨vs,e,hl⟩=>by subst e; obtain ⟨_,_,rfl,⟨n0,rfl⟩,rfl⟩:=hl; exact ⟨n0,rfl⟩) r0 hI0
 obtain ⟨w1,hI1,hR1,hF1⟩:=open_flat (E0 W) (show flatT Tryd.prog 9 = some (false,[.str]) by kernel_rfl) (hval 1 9 v1 rfl rfl) t1
 obtain ⟨y1,e1⟩:∃ y,mk false w1 = enc_str y:=by obtain ⟨_,_,rfl,⟨n0,rfl⟩,rfl⟩:=hI1; exact ⟨n0,rfl⟩
 rw [e1] at hR1 hF1
 refine (traceRound_call W hL _ _ y0 y1 hR0 hR1 hF0 hF1).mono fun e W' ⟨he,hB⟩=>?_
 subst he
 exact ⟨_,rfl,_,_,_,[],p0++p1,[],hW',trodAll_mk1 (shut_bool Tryd.underlying4 true),trodAll_mk2 (hargs0 W' hB) (hargs1 W' hB),rfl,hB.frame _,fun h=>by cases h⟩
theorem traceRound_holds:Rows.TraceRoundSaid :=
 OpenClaim.holds_of_wide 6 Tryd.f6 rfl rfl rfl rfl rfl rfl rfl ⟨rfl,rfl,rfl,rfl,rfl⟩ rfl rfl rfl rfl rfl (by kernel_rfl) Tryd.func6 (by kernel_rfl)
  (of_decide_eq_true (by kernel_rfl)) (by unfold Func.isWrapper; first | (rw [if_pos (by decide +kernel)]; kernel_rfl) | (rw [if_neg (by decide +kernel)]; exact ⟨rfl,rfl⟩))
  (fun os started H enc _=>traceRound_lifted os started H enc)
theorem traceRound_card_holds:Rows.TraceRoundCardSaid :=
 Claim7.holds_tied_plain_at .later [] [.data, .data, .data, .data, .widerDeep, .pinned] true (true, "7426c96d17a2a5d9ed15d7d41618cc1fb566f1cf9fc2cc14d49d7fc9e7d92d33") true traceRound_holds (fun _ h => by cases h) (by kernel_rfl) (fun _ h => by cases h) traceRound_row_tie rfl ⟨rfl, rfl⟩ (by kernel_rfl) rfl
  (fun f fn hf hfn=>by
   obtain rfl : f = 6 := Option.some.inj ((show Tryd.prog.funcNamed "packhorse/packhorselaw39.TraceRound" = some 6 by kernel_rfl).symm.trans hf) |>.symm
   obtain rfl:fn = Tryd.f6:=(Option.some.inj (Tryd.func6.symm.trans hfn)).symm
   exact ⟨by kernel_rfl,fun j t ht=>by
    rw [Tryd.params6] at ht
    have hm:t ∈ [35,9]:=by simpa using Array.mem_of_getElem? ht
    have hall:([35,9].all fun u=>!Tryd.prog.wantsStandIn u) = true:=by kernel_rfl
    exact (show Tryd.prog.wantsStandIn t = false by simpa using List.all_eq_true.1 hall t hm)⟩)
  (by kernel_rfl)
#print axioms traceRound_card_holds
end Go.Proofs.YtjcbpfhlgebgdaaDoor
