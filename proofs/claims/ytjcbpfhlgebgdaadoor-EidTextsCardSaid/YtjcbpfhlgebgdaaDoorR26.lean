import Derived.Test.YtjcbpfhlgebgdaaDoorR25
noncomputable section
namespace Go.Run
open Go.RowKit
def onlyS (H:AH) (t:T AObj) (b:Nat):T AObj:=cond (small b) (match H.get b with | some o=>t.set b o | none=>t) t
def AH.only (H:AH) (live:List Nat):AH:=⟨H.nx,live.foldl (onlyS H) .nil⟩
theorem onlyS_sub {H:AH} {t:T AObj} (h:∀ b o,t.get b = some o→H.get b = some o) (x:Nat):∀ b o,(onlyS H t x).get b = some o→H.get b = some o:=by
 intro b o hb
 unfold onlyS at hb
 cases hs:small x with
 | false=>rw [hs] at hb; exact h b o hb
 | true =>
  rw [hs] at hb
  simp only [cond_true] at hb
  split at hb
  ·rename_i o' ho
   rw [T.get_set hs] at hb
   by_cases e:b = x
   ·subst e; rw [if_pos rfl] at hb; cases hb; exact ho
   ·rw [if_neg e] at hb; exact h b o hb
  ·exact h b o hb
theorem only_sub (H:AH):∀ (live:List Nat) (t:T AObj),(∀ b o,t.get b = some o→H.get b = some o)→∀ b o,(live.foldl (onlyS H) t).get b = some o→H.get b = some o
 | [],_,h=>h
 | x :: live,_,h=>only_sub H live _ (onlyS_sub h x)
theorem AH.get_only {H:AH} {live:List Nat} {b:Nat} {o:AObj} (h:(H.only live).get b = some o):H.get b = some o :=
 only_sub H live .nil (fun b o h=>by simp [T.get_nil] at h) b o h
section
variable {P:Program} {F:T Func} {w0:World} {G:Nat} {L:Lam} {H:AH} {w:World} {cs0:List Frame} {f0:FuncId}
theorem HRel.only (h:HRel w0 G L H w) (live:List Nat):HRel w0 G L (H.only live) w :=
 ⟨fun b o p h1 h2=>h.obj b o p (AH.get_only h1) h2,fun b b' o o' p p' h1 h2 a1 a2 h3 h4 he=>h.inj b b' o o' p p' (AH.get_only h1) (AH.get_only h2) a1 a2 h3 h4 he,h.dom,h.own,h.lt,h.keep,h.glob,h.gnx⟩
theorem Sim.only {c:Cfg} {m:Machine} (h:Sim P w0 G cs0 f0 c m) (hd:c.fr.dr = none) (live:List Nat):Sim P w0 G cs0 f0 ⟨c.fr,c.cs,c.H.only live⟩ m:=by
 obtain ⟨L,cf,cfs,w,rfl,hH,⟨b,a,hB,ht⟩,hC,hlo,hG,hb⟩:=h
 refine ⟨L,cf,cfs,w,rfl,hH.only live,⟨b,a,hB,?_⟩,hC,hlo,hG,hb⟩
 rcases ht with ⟨hret,todo,rfl,hbody⟩ | ht
 ·refine .inl ⟨hret,todo,rfl,?_⟩
  unfold BodyR at hbody ⊢
  rw [hd] at hbody ⊢
  exact hbody
 ·exact .inr ht
def Leads (P:Program) (G:Nat) (test:Value→AH→Bool) (c:Cfg):Prop :=
 ∀ (w0:World) (cs0:List Frame) (f0:FuncId) (m:Machine),Sim P w0 G cs0 f0 c m →
  ∃ L v H' x fr w',test v H' = true∧Steps P m (lone fr cs0 w')∧fr.fn = f0∧fr.leaving P w' (.returned x)∧HRel w0 G L H' w'∧VR L v x
theorem leads_run (hF:FunOK P F) (hm:P.follows .mixedOrders = true) {test:Value→AH→Bool} {n:Nat} {c:Cfg} (h:runF P F G test n c = true):Leads P G test c :=
 fun _ _ _ m hs=>run_spec hF hm n c m hs (by rw [← runF_run]; exact h)
theorem calls_of_leads (hF:FunOK P F) {fn:Func} {m:T AObj} (hg:GlobOK G w0 m) (hsz:G ≤ w0.heap.size) (hf:F.get f0 = some fn) (hsm:small fn.ntmps = true) {r:Value} (hr:flat r = true)
  (h:Leads P G (fun v _=>veq v r) (start fn f0 G [] m)):Calls P f0 #[] w0 fun e w'=>e = .returned r∧Kept w0 w':=by
 intro cs
 have hH:=start_rel hg hsz
 obtain ⟨h1,h2,h3⟩:=hF f0 fn hf
 cases hb:fn.body with
 | none=>rw [hb] at h2; cases h2
 | some body =>
  have hLR:LR (fun c=>if c < G then some ⟨c,0,0⟩ else none) [] []:=LR.refl_flat fun c hc=>by cases hc
  have htop:=enter_rel (G:=G) (H:=⟨G,m⟩) hF hf hb hLR (Nat.zero_le _) hsm
  have hsim:Sim P w0 G cs f0 (start fn f0 G [] m) (lone (Frame.enter P f0 #[] .normal) ([]++cs) w0):=by
   refine ⟨_,_,[],w0,rfl,hH,?_,.nil,Nat.le_refl _,Nat.le_refl _,rfl⟩
   simpa [start,hb] using htop
  obtain ⟨L,v,H',x,fr,w',q0,q1,q2,q3,q4,q5⟩:=h _ _ _ _ hsim
  have hv:=veq_eq q0
  subst hv
  have hx:=q5.eq_flat hr
  subst hx
  exact ⟨.returned x,w',fr,⟨rfl,q4.keep⟩,q1,q2,q3⟩
def vs (l:List Nat):Value:=.string ⟨(l.map UInt8.ofNat).toArray⟩
end
end Go.Run
