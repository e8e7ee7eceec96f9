import Derived.Test.YtjcbpfhlgebgdaaDoorR6
import Derived.Lib.SlBytesConst
noncomputable section
namespace Go.Run
open Go.RowKit
section
variable {P:Program} {w0:World} {G:Nat} {L:Lam} {H:AH} {w:World}
def isPtrT (P:Program) (t:TypeId):Option TypeId:=match P.underlying t with
 | some (.pointer e)=>some e
 | _=>none
def eqA (P:Program) (t:TypeId) (x y:Value):Option Bool :=
 match P.underlying t,x,y with
 | some (.pointer _),.pointer (some ⟨_,_,none⟩),.pointer none=>some false
 | some (.pointer _),.pointer none,.pointer (some ⟨_,_,none⟩)=>some false
 | some (.pointer e),.pointer (some ⟨b,o,none⟩),.pointer (some ⟨b',o',none⟩)=>match sizeT P e with
  | some (_ + 1)=>cond (Nat.beq b b') (some (Nat.beq o o')) none
  | _=>none
 | some (.slice _),.slice (some _) _ _,.slice none 0 0=>some false
 | some (.slice _),.slice none 0 0,.slice (some _) _ _=>some false
 | some (.map _ _),.map (some _),.map none=>some false
 | some (.map _ _),.map none,.map (some _)=>some false
 | some (.func _ _ _),.func _ _ _,.nilFunc=>some false
 | some (.func _ _ _),.nilFunc,.func _ _ _=>some false
 | some (.interface _),.iface _ _,.nilIface=>some false
 | some (.interface _),.nilIface,.iface _ _=>some false
 | _,_,_=>none
def plainPair:Value→Value→Bool
 | .nilIface,.nilIface=>false
 | .agg _,.agg _=>false
 | _,_=>true
theorem eqGuard_quiet {op:BinOp} {t:TypeId} {ox oy:Operand} {x y:Value} (h:plainPair x y = true):(eqGuard op t ox oy x y).run P w = .ok () w:=by
 have key:∀ (c:Bool) (s:Sem Unit),s.run P w = .ok () w→(if c = true then pure () else s).run P w = .ok () w:=by
  intro c s hs
  cases c
  ·exact hs
  ·simp
 unfold eqGuard
 refine key _ _ ?_
 unfold plainPair at h
 split at h
 ·cases h
 ·cases h
 ·rename_i h1 h2
  split
  ·exact (h1 rfl rfl).elim
  ·exact (h2 _ _ rfl rfl).elim
  ·simp
theorem run_eq_of {t:TypeId} {x y:Value} {b:Bool} {ox oy:Operand} (h:∀ d,(Op.equalIn (d + 1) t x y).run P w = .ok b w) (hb1:binOp .eql t x y = (do pure (.bool (← Op.equal t x y)):Sem Value)) (hb2:binOp .neq t x y = (do pure (.bool (!(← Op.equal t x y))):Sem Value))
  (hg:plainPair x y = true) :
  (do eqGuard .eql t ox oy x y; binOp .eql t x y:Sem Value).run P w = .ok (.bool b) w∧(do eqGuard .neq t ox oy x y; binOp .neq t x y:Sem Value).run P w = .ok (.bool !b) w:=by
 have h':(Op.equal t x y).run P w = .ok b w:=h 9999
 rw [hb1,hb2]
 simp only [Sem.run_bind,eqGuard_quiet hg,Result.andThen_ok,h',Sem.run_pure,and_self]
theorem eqA_spec {t:TypeId} {v u x y:Value} {b:Bool} (hr:eqA P t v u = some b) (hx:VR L v x) (hy:VR L u y) (w:World) (ox oy:Operand) :
  (do eqGuard .eql t ox oy x y; binOp .eql t x y:Sem Value).run P w = .ok (.bool b) w∧(do eqGuard .neq t ox oy x y; binOp .neq t x y:Sem Value).run P w = .ok (.bool !b) w:=by
 unfold eqA at hr
 split at hr
 ·rename_i e _ _ hu; cases hr; cases hx; cases hy
  exact run_eq_of (fun d=>by simp [Op.equalIn,run_underlying hu]) rfl rfl rfl
 ·rename_i e _ _ hu; cases hr; cases hx; cases hy
  exact run_eq_of (fun d=>by simp [Op.equalIn,run_underlying hu]) rfl rfl rfl
 ·rename_i e b1 o1 b2 o2 hu
  split at hr
  ·rename_i n hs
   by_cases q:b1 = b2
   ·subst q
    simp only [Nat.beq_refl,cond_true,Option.some.injEq] at hr
    cases hx with
    | ptr hp =>
     rename_i p
     cases hy with
     | ptr hp' =>
      rename_i p'
      rw [hp] at hp'; cases hp'
      have he:((⟨p.b,p.base + o1,none⟩:Addr) == ⟨p.b,p.base + o2,none⟩) = b:=by
       rw [← hr]
       by_cases q:o1 = o2
       ·subst q; simp
       ·rw [beqF q]
        simp
      exact run_eq_of (fun d=>by simp [Op.equalIn,run_underlying hu,run_sizeOf hs,sameAddr,he]) rfl rfl rfl
   ·rw [beqF q] at hr; cases hr
  ·cases hr
 all_goals first
  | (rename_i hu; cases hr; cases hx <;> cases hy <;> exact run_eq_of (fun d=>by simp [Op.equalIn,run_underlying hu]) rfl rfl rfl)
  | cases hr
def assertA (P:Program) (x:Value) (asserted:TypeId) (ok:Bool):Option Value :=
 match P.underlying asserted,x with
 | some (.interface want),.iface t _=>match P.info? t with
  | some ti=>match Instr.missingMethod want ti.methods with
   | none=>some (if ok then .tuple #[x,.bool true] else x)
   | some _=>if ok then (match zeroT P asserted with | some z=>some (.tuple #[z,.bool false]) | none=>none) else none
  | none=>none
 | some _,.nilIface=>if ok then (match zeroT P asserted with | some z=>some (.tuple #[z,.bool false]) | none=>none) else none
 | some _,.iface t v=>cond (Nat.beq t asserted) (some (if ok then .tuple #[v,.bool true] else v)) (if ok then (match zeroT P asserted with | some z=>some (.tuple #[z,.bool false]) | none=>none) else none)
 | _,_=>none
theorem VR.pair {v x v' x':Value} (h:VR L v x) (k:VR L v' x'):VR L (.tuple #[v,v']) (.tuple #[x,x']):=by
 have:=((LR.nil L).cons k).cons h
 exact .tuple this.toArray.1 this.toArray.2
theorem assertA_spec {x y:Value} {xT asserted:TypeId} {ok:Bool} {r:Value} (hr:assertA P x asserted ok = some r) (hx:VR L x y) (w:World):∃ z,(Instr.typeAssert y xT asserted ok).run P w = .ok z w∧VR L r z:=by
 unfold assertA at hr
 split at hr
 ·rename_i want t v hu
  cases hx with
  | iface hv =>
   rename_i u
   split at hr
   ·rename_i ti hti
    split at hr
    ·rename_i hm
     cases hr
     cases ok
     ·exact ⟨.iface t u,by simp [Instr.typeAssert,run_underlying hu,typeInfo,hti,hm],.iface hv⟩
     ·exact ⟨.tuple #[.iface t u,.bool true],by simp [Instr.typeAssert,run_underlying hu,typeInfo,hti,hm],(VR.iface hv).pair (.bool _)⟩
    ·rename_i m hm
     cases ok
     ·simp at hr
     ·simp only [if_true] at hr
      split at hr
      ·rename_i z hz
       cases hr
       obtain ⟨z1,z2⟩:=zeroT_spec hz
       exact ⟨.tuple #[z,.bool false],by simp [Instr.typeAssert,run_underlying hu,typeInfo,hti,hm,z1],(VR.refl_flat z2).pair (.bool _)⟩
      ·cases hr
   ·cases hr
 ·rename_i d hu
  cases hx
  cases ok
  ·simp at hr
  ·simp only [if_true] at hr
   split at hr
   ·rename_i z hz
    cases hr
    obtain ⟨z1,z2⟩:=zeroT_spec hz
    refine ⟨.tuple #[z,.bool false],?_,(VR.refl_flat z2).pair (.bool _)⟩
    cases d <;> simp [Instr.typeAssert,run_underlying hu,z1]
   ·cases hr
 ·rename_i d t v hn hu
  cases hx with
  | iface hv =>
   rename_i u
   by_cases q:t = asserted
   ·subst q
    simp only [Nat.beq_refl,cond_true] at hr
    cases hr
    cases ok
    ·refine ⟨u,?_,hv⟩
     cases d <;> first | (exact (hn _ rfl).elim) | simp [Instr.typeAssert,run_underlying hu]
    ·refine ⟨.tuple #[u,.bool true],?_,hv.pair (.bool _)⟩
     cases d <;> first | (exact (hn _ rfl).elim) | simp [Instr.typeAssert,run_underlying hu]
   ·rw [beqF q] at hr
    simp only [cond_false] at hr
    cases ok
    ·simp at hr
    ·simp only [if_true] at hr
     split at hr
     ·rename_i z hz
      cases hr
      obtain ⟨z1,z2⟩:=zeroT_spec hz
      refine ⟨.tuple #[z,.bool false],?_,(VR.refl_flat z2).pair (.bool _)⟩
      cases d <;> first | (exact (hn _ rfl).elim) | simp [Instr.typeAssert,run_underlying hu,z1,q]
     ·cases hr
 ·cases hr
def bytesOf:List Value→Option (List UInt8)
 | []=>some []
 | .int .u8 n :: l=>match n,bytesOf l with
  | .ofNat k,some s=>cond (Nat.blt k 256) (some (UInt8.ofNat k :: s)) none
  | _,_=>none
 | _=>none
theorem bytesOf_spec:∀ {l:List Value} {s:List UInt8},bytesOf l = some s→l = s.map fun b=>Value.int .u8 (b.toNat:Int)
 | [],s,h=>by simp only [bytesOf,Option.some.injEq] at h; subst h; rfl
 | .int .u8 n :: l,s,h=>by
  simp only [bytesOf] at h
  split at h
  ·rename_i k s' hs
   cases hk:Nat.blt k 256 with
   | false=>rw [hk] at h; cases h
   | true =>
    rw [hk] at h; cases h
    have hk:k < 256:=by simpa using hk
    rw [bytesOf_spec hs]
    simp [Nat.mod_eq_of_lt hk]
  ·cases h
 | .int .i8 _ :: _,_,h | .int .i16 _ :: _,_,h | .int .i32 _ :: _,_,h | .int .i64 _ :: _,_,h | .int .u16 _ :: _,_,h | .int .u32 _ :: _,_,h | .int .u64 _ :: _,_,h=>by simp [bytesOf] at h
 | .bool _ :: _,_,h | .float _ _ :: _,_,h | .complex _ _ _ :: _,_,h | .string _ :: _,_,h | .pointer _ :: _,_,h | .slice _ _ _ :: _,_,h | .map _ :: _,_,h | .chan _ :: _,_,h
 | .func _ _ _ :: _,_,h | .nilFunc :: _,_,h | .iface _ _ :: _,_,h | .nilIface :: _,_,h | .agg _ :: _,_,h | .tuple _ :: _,_,h=>by simp [bytesOf] at h
def isBytes (P:Program) (t:TypeId):Bool:=match P.underlying t with
 | some (.slice e)=>match P.underlying e with
  | some (.int .u8)=>true
  | _=>false
 | _=>false
def isStr (P:Program) (t:TypeId):Bool:=match P.underlying t with
 | some .string=>true
 | _=>false
theorem isBytes_spec {t:TypeId} (h:isBytes P t = true):∃ e,P.underlying t = some (.slice e)∧P.underlying e = some (.int .u8):=by
 unfold isBytes at h
 split at h
 ·rename_i e hu
  split at h
  ·rename_i he; exact ⟨e,hu,he⟩
  ·cases h
 ·cases h
theorem isStr_spec {t:TypeId} (h:isStr P t = true):P.underlying t = some .string:=by
 unfold isStr at h
 split at h
 ·assumption
 ·cases h
def strOfA (P:Program) (H:AH) (s d:TypeId) (x:Value):Option Value :=
 cond (isBytes P s && isStr P d) (match x with
  | .slice (some ⟨b,o,none⟩) len _=>match cellsA H b o len with
   | some vs=>match bytesOf vs with
    | some l=>some (.string ⟨l.toArray⟩)
    | none=>none
   | none=>none
  | _=>none) none
theorem strOfA_spec (h:HRel w0 G L H w) {s d:TypeId} {v x r:Value} (hr:strOfA P H s d v = some r) (hx:VR L v x):(convert s d x).run P w = .ok r w∧flat r = true:=by
 unfold strOfA at hr
 cases hc:(isBytes P s && isStr P d) with
 | false=>rw [hc] at hr; cases hr
 | true =>
  rw [hc] at hr
  simp only [cond_true] at hr
  simp only [Bool.and_eq_true] at hc
  obtain ⟨e,hu,he⟩:=isBytes_spec hc.1
  have hd:=isStr_spec hc.2
  split at hr
  ·rename_i b o len cap
   split at hr
   ·rename_i vs hcl
    split at hr
    ·rename_i l hl
     cases hr
     cases hx with
     | slice hp =>
      rename_i p
      obtain ⟨xs,q1,q2,q3⟩:=cellsA_spec h hcl hp
      have hvs:=bytesOf_spec hl
      have hfl:vs.all flat = true:=by rw [hvs]; simp [flat,flatF]
      have hxs:xs = vs:=q1.eq_flat hfl
      have hload:(loadCells ⟨p.b,p.base + o,none⟩ len).run P w = .ok ((l.map fun b=>(b.toNat:Int)).map (Value.int .u8)).toArray w:=by
       have:=run_loadCells_list (P:=P) w ⟨p.b,p.base + o,none⟩ xs (fun j v hv=>by rw [Addr.add_none]; exact (q3 j v hv).1)
       rw [q2] at this
       rw [this,hxs,hvs]
       simp [List.map_map,Function.comp_def]
      refine ⟨?_,rfl⟩
      rw [run_convert_bytes_string w s d e _ _ _ hu he hd,run_bytesToString w _ _ _ _ hload,foldl_push_byteCells]
      simp [ByteArray.empty,ByteArray.emptyWithCapacity]
      rfl
    ·cases hr
   ·cases hr
  ·cases hr
end
end Go.Run
