import Derived.Test.YtjcbpfhlgebgdaaDoorR26
noncomputable section
namespace Go.Run
open Go.RowKit
def argObj (vs:List Value) (ty:TypeId) (N:Nat):AObj:=.cells vs.length (T.setRow .nil 0 vs) ty (some 1) (0,N)
def startS (fn:Func) (f:FuncId) (vs:List Value) (k:Nat) (ty N cap:Nat):Cfg :=
 start fn f 1 [.slice (some ⟨0,0,none⟩) k (2 * cap)] (T.set .nil 0 (argObj vs ty N))
section
variable {P:Program} {F:T Func} {w0:World} {f0:FuncId}
def argL (b o e:Nat):Lam:=fun c=>if c = 0 then some ⟨b,o,e⟩ else none
theorem argL_inv {b o e c:Nat} {p:Pl} (h:argL b o e c = some p):c = 0∧p = ⟨b,o,e⟩:=by
 unfold argL at h
 split at h
 ·cases h; exact ⟨by assumption,rfl⟩
 ·cases h
theorem startS_rel {vs:List Value} {ty b o:Nat} {cur:Array Value} {fr:Nat × Nat} (hb:w0.heap[b]? = some (.cells cur ty fr)) (hv:∀ i v,vs[i]? = some v→cur[o + i]? = some v) (hle:o + vs.length ≤ cur.size)
  (hs:small vs.length = true) (hf:vs.all (fun v=>flat v && v.oneCell') = true) :
  HRel w0 1 (argL b o (cur.size - o - vs.length)) ⟨1,T.set .nil 0 (argObj vs ty (cur.size + 1))⟩ w0:=by
 have hget:∀ c ob,(AH.mk 1 (T.set .nil 0 (argObj vs ty (cur.size + 1)))).get c = some ob→c = 0∧ob = argObj vs ty (cur.size + 1):=fun c ob h=>by
  unfold AH.get at h
  simp only at h
  rw [T.get_set (by rfl)] at h
  by_cases e:c = 0
  ·rw [if_pos e] at h; cases h; exact ⟨e,rfl⟩
  ·rw [if_neg e,T.get_nil] at h; cases h
 refine ⟨fun c ob p h1 h2=>?_,fun c c' ob ob' p p' h1 h2 _ _ _ _ _=>?_,fun c p h=>?_,fun c p hG h=>?_,fun c p h=>?_,⟨rfl,rfl,rfl,Nat.le_refl _,fun _ _=>rfl⟩,fun g hg=>by omega,Nat.le_refl _⟩
 ·obtain ⟨rfl,rfl⟩:=hget c ob h1
  obtain ⟨_,rfl⟩:=argL_inv h2
  refine ⟨cur,fr,hb,.inr (.inr (.inr (Nat.lt_succ_self _))),?_,fun i hi=>?_⟩
  ·show cur.size = o + vs.length + (cur.size - o - vs.length) * 1
   omega
  ·have hx:=List.all_eq_true.1 hf vs[i] (List.getElem_mem hi)
   simp only [Bool.and_eq_true] at hx
   refine ⟨vs[i],vs[i],?_,hv i _ (List.getElem?_eq_getElem hi),VR.refl_flat hx.1,hx.2⟩
   rw [T.get_setRow vs .nil 0 (by simpa using hs),if_pos ⟨Nat.zero_le _,by omega⟩]
   simp [hi]
 ·rw [(hget c ob h1).1,(hget c' ob' h2).1]
 ·have:=(argL_inv h).1
  show c < 1
  omega
 ·have:=(argL_inv h).1; omega
 ·obtain ⟨_,rfl⟩:=argL_inv h
  exact (Array.getElem?_eq_some_iff.1 hb).1
theorem calls_of_leadsS (hF:FunOK P F) {fn:Func} (hf:F.get f0 = some fn) (hlen:Nat.ble 1 fn.ntmps = true) (hsm:small fn.ntmps = true) {r:Value} (hr:flat r = true) {vs:List Value} {k:Nat}
  (hs:small vs.length = true) (hfl:vs.all (fun v=>flat v && v.oneCell') = true) (h:∀ ty N cap,Leads P 1 (fun v _=>veq v r) (startS fn f0 vs k ty N cap))
  {ty b o cap:Nat} {cur:Array Value} {fr:Nat × Nat} (hb:w0.heap[b]? = some (.cells cur ty fr)) (hv:∀ i v,vs[i]? = some v→cur[o + i]? = some v) (hle:o + vs.length ≤ cur.size) :
  Calls P f0 #[.slice (some ⟨b,o,none⟩) k cap] w0 fun e w'=>e = .returned r∧Kept w0 w':=by
 intro cs
 have hH:=startS_rel hb hv hle hs hfl
 obtain ⟨h1,h2,h3⟩:=hF f0 fn hf
 cases hbd:fn.body with
 | none=>rw [hbd] at h2; cases h2
 | some body =>
  have hLR:LR (argL b o (cur.size - o - vs.length)) [.slice (some ⟨0,0,none⟩) k (2 * cap)] [.slice (some ⟨b,o,none⟩) k cap]:=by
   refine LR.cons ?_ (LR.nil _)
   have:=VR.slice (L:=argL b o (cur.size - o - vs.length)) (b:=0) (o:=0) (len:=k) (cap:=2 * cap) (p:=⟨b,o,cur.size - o - vs.length⟩) (by simp [argL])
   simpa [ccap_even] using this
  have htop:=enter_rel (G:=1) (H:=⟨1,T.set .nil 0 (argObj vs ty (cur.size + 1))⟩) hF hf hbd hLR (ble hlen) hsm
  have hsim:Sim P w0 1 cs f0 (startS fn f0 vs k ty (cur.size + 1) cap) (lone (Frame.enter P f0 #[.slice (some ⟨b,o,none⟩) k cap] .normal) ([]++cs) w0):=by
   refine ⟨_,_,[],w0,rfl,hH,?_,.nil,Nat.le_refl _,Nat.le_refl _,rfl⟩
   simpa [startS,start,hbd] using htop
  obtain ⟨L,v,H',x,fr',w',q0,q1,q2,q3,q4,q5⟩:=h ty (cur.size + 1) cap _ _ _ _ hsim
  have hvq:=veq_eq q0
  subst hvq
  have hx:=q5.eq_flat hr
  subst hx
  exact ⟨.returned x,w',fr',⟨rfl,q4.keep⟩,q1,q2,q3⟩
end
end Go.Run
