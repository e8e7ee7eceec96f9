import Derived.Test.YtjcbpfhlgebgdaaDoorR8
import Derived.Laws.MakeOwn
import Derived.Lib.ConvBytes
noncomputable section
namespace Go.Run
open Go.RowKit
def cellsO (cs:List Value) (ty:TypeId):AObj:=.cells cs.length (T.setRow .nil 0 cs) ty none (0,0)
def ones (cs:List Value):Bool:=cs.all (·.oneCell') && small cs.length
def repl (n:Nat) (z:List Value):List Value:=match n with
 | 0=>[]
 | n + 1=>z++repl n z
def evalA (P:Program) (H:AH) (ρ:Ev) (o:Oper):Option (AObj × (Nat→Value)) :=
 match o.op with
 | .alloc t=>match zeroT P t with
  | some z=>cond (ones z.cells.toList) (some (cellsO z.cells.toList t,fun b=>.pointer (some ⟨b,0,none⟩))) none
  | none=>none
 | .box t x=>cond (ones (ρ x).cells.toList) (some (cellsO (ρ x).cells.toList t,fun b=>.pointer (some ⟨b,0,none⟩))) none
 | .buildSlice t len ps=>match elemT P t with
  | some (none,e)=>match sizeT P e,zeroT P e with
   | some sz,some z=>cond (Nat.beq z.cells.size sz && Nat.ble (len * sz) 16777216 && Nat.blt 0 sz) (match fillA (fun i=>some (i * sz,sz)) (repl len z.cells.toList) (ps.toList.map fun x=>(x.1,ρ x.2)) with
    | some out=>cond (ones out) (some (cellsO out e,fun b=>.slice (some ⟨b,0,none⟩) len (2 * len))) none
    | none=>none) none
   | _,_=>none
  | _=>none
 | .makeMap _ none=>some (.map [] 0,fun b=>.map (some b))
 | .makeSlice t l c=>match elemT P t,ρ l,ρ c with
  | some (none,e),.int _ (.ofNat l),.int _ (.ofNat c)=>match P.info? e with
   | some i=>match i.zero with
    | some z=>cond (flat z && Nat.beq z.cells.size i.size && Nat.blt 0 i.size && Nat.ble l c && Nat.ble (i.bytes * c) 281474976710656 && Nat.ble c 4294967296) (cond (ones (repl c z.cells.toList)) (some (cellsO (repl c z.cells.toList) e,fun b=>.slice (some ⟨b,0,none⟩) l (2 * c))) none) none
    | none=>none
   | none=>none
  | _,_,_=>none
 | .range t x=>match P.underlying t,ρ x with
  | some .string,.string s=>some (.siter s 0,fun b=>.pointer (some ⟨b,0,none⟩))
  | some (.map _ _),.map none=>some (.miter none 0 #[] 0,fun b=>.pointer (some ⟨b,0,none⟩))
  | some (.map _ _),.map (some m)=>match H.get m with
   | some (.map _ clock)=>some (.miter (some m) clock #[] clock,fun b=>.pointer (some ⟨b,0,none⟩))
   | _=>none
  | _,_=>none
 | .convert s d x=>cond (isStr P s && isBytes P d) (match ρ x,P.underlying d with
  | .string l,some (.slice e)=>cond (small l.size) (some (.cells l.size (T.setRow .nil 0 (l.data.toList.map fun b=>Value.int .u8 (b.toNat:Int))) e (some 1) (1,0),fun b=>.slice (some ⟨b,0,none⟩) l.size (2 * l.size + 1))) none
  | _,_=>none) none
 | _=>none
section
variable {P:Program} {w0:World} {G:Nat} {L:Lam} {H:AH} {w:World}
theorem cellsO_rel {L:Lam} {w:World} {b:Nat} {cs:List Value} {xs:Array Value} {ty:TypeId} {e:Nat} (ho:ones cs = true) (hr:LR L cs xs.toList) (hb:w.heap[b]? = some (.cells xs ty (0,0))):ORel L w ⟨b,0,e⟩ (cellsO cs ty):=by
 simp only [ones,Bool.and_eq_true] at ho
 refine ⟨xs,(0,0),hb,.inl ⟨rfl,rfl⟩,⟨rfl,by have:=hr.1; simpa using this.symm⟩,fun i hi=>?_⟩
 obtain ⟨x,q1,q2⟩:=hr.get (List.getElem?_eq_getElem hi)
 refine ⟨cs[i],x,?_,by simpa using q1,q2,?_⟩
 ·rw [T.get_setRow _ _ _ (by simpa using ho.2),if_pos ⟨Nat.zero_le _,by omega⟩]
  simp
 ·rw [q2.oneCell]; exact List.all_eq_true.1 ho.1 _ (List.getElem_mem hi)
theorem repl_length (z:List Value):∀ n,(repl n z).length = n * z.length
 | 0=>by simp [repl]
 | n + 1=>by simp [repl,repl_length z n,Nat.add_mul,Nat.add_comm]
theorem repl_get (z:List Value) (hz:0 < z.length):∀ n i,i < n * z.length→(repl n z)[i]? = z[i % z.length]?
 | 0,i,h=>by simp at h
 | n + 1,i,h=>by
  simp only [repl]
  rcases Nat.lt_or_ge i z.length with q | q
  ·rw [List.getElem?_append_left q,Nat.mod_eq_of_lt q]
  ·rw [List.getElem?_append_right q,repl_get z hz n (i - z.length) (by rw [Nat.add_mul] at h; omega)]
   rw [Nat.mod_eq_sub_mod q]
theorem range_repl (z:Array Value) (hz:0 < z.size) (n:Nat):((Array.range (n * z.size)).map (z[· % z.size]!)).toList = repl n z.toList:=by
 apply List.ext_getElem?
 intro i
 rcases Nat.lt_or_ge i (n * z.size) with q | q
 ·rw [repl_get _ (by simpa using hz) n i (by simpa using q)]
  have hm:i % z.size < z.size:=Nat.mod_lt _ hz
  simp [q,hm]
 ·have h1:(repl n z.toList)[i]? = none:=List.getElem?_eq_none (by rw [repl_length]; simpa using q)
  rw [h1]
  simp [q]
theorem LR.refl_flat {L:Lam} {cs:List Value} (h:∀ c ∈ cs,flatF 16 c = true):LR L cs cs :=
 ⟨rfl,fun i v x h1 h2=>by rw [h1] at h2; cases h2; exact VR.refl_flat (h v (List.mem_of_getElem? h1))⟩
theorem flatF_mono:∀ (n m:Nat) (v:Value),n ≤ m→flatF n v = true→flatF m v = true
 | 0,_,_,_,h=>by simp [flatF] at h
 | n + 1,0,_,h,_=>by omega
 | n + 1,m + 1,v,hm,h=>by
  have ih:=fun v=>flatF_mono n m v (by omega)
  cases v with
  | iface t v=>exact ih v h
  | agg cs=>simp only [flatF,List.all_eq_true] at h ⊢; exact fun x hx=>ih x (h x hx)
  | tuple cs=>simp only [flatF,List.all_eq_true] at h ⊢; exact fun x hx=>ih x (h x hx)
  | func f a b =>
   simp only [flatF,Bool.and_eq_true,List.all_eq_true] at h ⊢
   exact ⟨⟨h.1.1,fun x hx=>ih x (h.1.2 x hx)⟩,fun x hx=>ih x (h.2 x hx)⟩
  | pointer a=>cases a <;> simp [flatF] at h ⊢
  | slice a l c=>cases a <;> cases l <;> cases c <;> simp [flatF] at h ⊢
  | map r=>cases r <;> simp [flatF] at h ⊢
  | chan r=>cases r <;> simp [flatF] at h ⊢
  | _=>rfl
theorem flat_cells {z:Value} (h:flat z = true):∀ c ∈ z.cells.toList,flatF 16 c = true:=by
 intro c hc
 unfold flat at h
 cases z with
 | agg cs =>
  simp only [flatF,List.all_eq_true] at h
  exact flatF_mono 15 16 c (by omega) (h c hc)
 | _=>simp only [Value.cells,List.mem_cons,List.not_mem_nil,or_false] at hc; subst hc; exact h
theorem mem_repl {z:List Value} {c:Value}:∀ {n:Nat},c ∈ repl n z→c ∈ z
 | 0,h=>by simp [repl] at h
 | n + 1,h=>by
  simp only [repl,List.mem_append] at h
  rcases h with h | h
  ·exact h
  ·exact mem_repl h
def Laid (L:Lam) (w w':World) (ob:AObj) (mk:Nat→Value) (x:Value):Prop :=
 Grew w w'∧∃ e,∀ (L':Lam) (b:Nat),L.le L'→L' b = some ⟨w.heap.size,0,e⟩→ORel L' w' ⟨w.heap.size,0,e⟩ ob∧VR L' (mk b) x
theorem Laid.cells {cs:List Value} {xs:Array Value} {ty:TypeId} {mk:Nat→Value} {x:Value} (ho:ones cs = true) (hr:LR L cs xs.toList) (hmk:∀ (L':Lam) (b:Nat),L' b = some ⟨w.heap.size,0,0⟩→VR L' (mk b) x) :
  Laid L w (w.alloc (.cells xs ty)) (cellsO cs ty) mk x :=
 ⟨Grew.alloc w _,0,fun L' b hl hb=>⟨cellsO_rel ho (hr.mono hl) (by simp [World.alloc,-World.alloc_eq]),hmk L' b hb⟩⟩
theorem ptr_at {L':Lam} {b c e:Nat} (h:L' b = some ⟨c,0,e⟩):VR L' (.pointer (some ⟨b,0,none⟩)) (.pointer (some ⟨c,0,none⟩)):=VR.ptr (o:=0) h
theorem slice_at {L':Lam} {b c e l k:Nat} (h:L' b = some ⟨c,0,e⟩):VR L' (.slice (some ⟨b,0,none⟩) l (2 * k)) (.slice (some ⟨c,0,none⟩) l k):=by
 have:=VR.slice (o:=0) (len:=l) (cap:=2 * k) h
 rwa [ccap_even,Nat.zero_add] at this
theorem evalA_spec (h:HRel w0 G L H w) {ρ ρ':Ev} {o:Oper} {ob:AObj} {mk:Nat→Value} (hv:evalA P H ρ o = some (ob,mk)) (hop:∀ x ∈ o.op.operands,VR L (ρ x) (ρ' x)) :
  ∃ x w',(execOp ρ' o).run P w = .ok (.value x) w'∧Laid L w w' ob mk x:=by
 have cc:∀ {c:Bool} {q r:Option (AObj × (Nat→Value))},(bif c then q else none) = r→r ≠ none→c = true∧q = r:=by
  intro c q r h1 h2
  cases c
  ·exact (h2 h1.symm).elim
  ·exact ⟨rfl,h1⟩
 unfold evalA at hv
 split at hv
 ·rename_i t ho
  split at hv
  ·rename_i z hz
   obtain ⟨c1,hv⟩:=cc hv (by simp)
   cases hv
   obtain ⟨z1,z2⟩:=zeroT_spec hz
   refine ⟨.pointer (some ⟨w.heap.size,0,none⟩),w.alloc (.cells z.cells t),?_,?_⟩
   ·simp [execOp,ho,Instr.alloc,z1,newVar,newRow]
   ·exact Laid.cells c1 (LR.refl_flat (flat_cells z2)) fun L' b hb=>ptr_at hb
  ·cases hv
 ·rename_i t x ho
  have h1:=hop x (by simp [ho,Op.operands])
  obtain ⟨c1,hv⟩:=cc hv (by simp)
  cases hv
  refine ⟨.pointer (some ⟨w.heap.size,0,none⟩),w.alloc (.cells (ρ' x).cells t),?_,?_⟩
  ·simp [execOp,ho,Instr.box,newVar,newRow]
  ·exact Laid.cells c1 h1.cells.toList fun L' b hb=>ptr_at hb
 ·rename_i t len ps ho
  split at hv
  ·rename_i e he
   have hu:=elemT_slice he
   split at hv
   ·rename_i sz z hs hz
    obtain ⟨c1,hv⟩:=cc hv (by simp)
    simp only [Bool.and_eq_true] at c1
    obtain ⟨⟨c1,c2⟩,c3⟩:=c1
    have hzs:z.cells.size = sz:=Nat.eq_of_beq_eq_true c1
    have hle:len * sz ≤ 16777216:=by simpa using c2
    have hpos:0 < sz:=by simpa using c3
    obtain ⟨z1,z2⟩:=zeroT_spec hz
    split at hv
    ·rename_i out hout
     obtain ⟨c4,hv⟩:=cc hv (by simp)
     cases hv
     have hrel:LR L ((ps.toList.map fun x=>(x.1,ρ x.2)).map (·.2)) ((ps.toList.map fun x=>(x.1,ρ' x.2)).map (·.2)):=by
      have:=LR_map (ρ:=ρ) (ρ':=ρ') (L:=L) (ps.toList.map (·.2)) fun x hx=>hop x (by simp [ho,Op.operands]; simpa using hx)
      simpa [List.map_map,Function.comp_def] using this
     have hzz:((Array.range (len * sz)).map (z.cells[· % z.cells.size]!)).toList = repl len z.cells.toList:=by
      rw [← hzs]
      exact range_repl z.cells (by omega) len
     obtain ⟨cur,q1,q2⟩:=fillA_spec (L:=L) _ (ps.toList.map fun x=>(x.1,ρ' x.2)) (repl len z.cells.toList) ((Array.range (len * sz)).map (z.cells[· % z.cells.size]!)) out (by simp [List.map_map,Function.comp_def]) hrel
      (by rw [hzz]; exact LR.refl_flat fun c hc=>flat_cells z2 c (mem_repl hc)) hout
     have hnot:¬ (16777216 < len * sz):=by omega
     refine ⟨.slice (some ⟨w.heap.size,0,none⟩) len len,w.alloc (.cells cur e),?_,Laid.cells c4 q2 fun L' b hb=>slice_at hb⟩
     have e1:(ps.map fun (i,x)=>(i,ρ' x)) = (ps.toList.map fun x=>(x.1,ρ' x.2)).toArray:=by
      apply Array.ext'; simp
     simp only [execOp,ho]
     rw [e1]
     by_cases h0:len * sz = 0
     ·have hl:len = 0:=by
       rcases Nat.mul_eq_zero.1 h0 with q | q
       ·exact q
       ·omega
      subst hl
      simp only [Nat.zero_mul] at q1
      simp [Instr.buildSlice,run_underlying hu,run_sizeOf hs,newRow]
      have q1':Instr.fill (fun i=>some (i * sz,sz)) #[] (ps.toList.map fun x=>(x.1,ρ' x.2)) = some cur:=by simpa [Array.range_zero'] using q1
      simp [Array.range_zero',q1']
     ·simp [Instr.buildSlice,run_underlying hu,run_sizeOf hs,hnot,h0,z1,q1,newRow]
    ·cases hv
   ·cases hv
  ·cases hv
 ·rename_i t ho
  cases hv
  refine ⟨.map (some w.heap.size),w.alloc (.map #[] 0),by simp [execOp,ho,Instr.makeMap],Grew.alloc w _,0,fun L' b hl hb=>⟨⟨#[],by simp [World.alloc,-World.alloc_eq],rfl,fun i e e' h1=>by simp at h1⟩,.map hb⟩⟩
 ·rename_i t l c ho
  have h1:=hop l (by simp [ho,Op.operands])
  have h2:=hop c (by simp [ho,Op.operands])
  split at hv
  ·rename_i e kl n kc m he hl hc
   have hu:=elemT_slice he
   rw [hl] at h1; rw [hc] at h2
   generalize hl':ρ' l = l' at h1
   generalize hc':ρ' c = c' at h2
   cases h1; cases h2
   split at hv
   ·rename_i i hi
    split at hv
    ·rename_i z hz
     obtain ⟨c1,hv⟩:=cc hv (by simp)
     obtain ⟨c4,hv⟩:=cc hv (by simp)
     cases hv
     simp only [Bool.and_eq_true] at c1
     obtain ⟨⟨⟨⟨⟨a1,a2⟩,a3⟩,a4⟩,a5⟩,a6⟩:=c1
     have a2:z.cells.size = i.size:=Nat.eq_of_beq_eq_true a2
     have a3:0 < i.size:=by simpa using a3
     have a4:n ≤ m:=by simpa using a4
     have a5:i.bytes * m ≤ 281474976710656:=by simpa using a5
     have a6:m ≤ 4294967296:=by simpa using a6
     have hb':(i.bytes:Int) * (m:Int) ≤ 281474976710656:=by
      have:((i.bytes * m:Nat):Int) ≤ 281474976710656:=by omega
      rwa [Int.natCast_mul] at this
     have hrun:=run_make (P:=P) w t e i z hu hi hz kl kc (n:Int) (m:Int) (by omega) (by omega) hb' (by omega)
     have hrun':(Instr.makeSlice t (.int kl (Int.ofNat n)) (.int kc (Int.ofNat m))).run P w = .ok (.slice (some ⟨w.heap.size,0,none⟩) n m) (w.alloc (.cells (madeCells z.cells (m * i.size)) e)):=hrun
     have hcells:(madeCells z.cells (m * i.size)).toList = repl m z.cells.toList:=by
      rw [← a2]
      exact range_repl z.cells (by omega) m
     refine ⟨_,_,by simp only [execOp,ho]; rw [hl',hc',Sem.run_bind,hrun']; rfl,?_⟩
     exact Laid.cells c4 (by rw [hcells]; exact LR.refl_flat fun c hc=>flat_cells a1 c (mem_repl hc)) fun L' b hb=>slice_at hb
    ·cases hv
   ·cases hv
  ·cases hv
 ·rename_i t x ho
  have h1:=hop x (by simp [ho,Op.operands])
  split at hv
  ·rename_i s hu hx
   cases hv
   rw [hx] at h1
   generalize hx':ρ' x = x' at h1
   cases h1
   refine ⟨.pointer (some ⟨w.heap.size,0,none⟩),w.alloc (.stringIter s 0),by simp [execOp,ho,hx',Instr.range,run_underlying hu],Grew.alloc w _,0,fun L' b hl hb=>⟨⟨rfl,by simp [World.alloc,-World.alloc_eq]⟩,ptr_at hb⟩⟩
  ·rename_i k e hu hx
   cases hv
   rw [hx] at h1
   generalize hx':ρ' x = x' at h1
   cases h1
   refine ⟨.pointer (some ⟨w.heap.size,0,none⟩),w.alloc (.mapIter none 0 #[] 0),by simp [execOp,ho,hx',Instr.range,run_underlying hu],Grew.alloc w _,0,fun L' b hl hb=>⟨⟨rfl,none,by simp [World.alloc,-World.alloc_eq],.nilm⟩,ptr_at hb⟩⟩
  ·rename_i k e m hu hx
   split at hv
   ·rename_i es clock hm
    cases hv
    rw [hx] at h1
    generalize hx':ρ' x = x' at h1
    cases h1 with
    | map hp =>
     rename_i p
     obtain ⟨es',q1,q2⟩:=h.obj m _ p hm hp
     refine ⟨.pointer (some ⟨w.heap.size,0,none⟩),w.alloc (.mapIter (some p.b) clock #[] clock),by simp [execOp,ho,hx',Instr.range,run_underlying hu,run_getObj q1 rfl],Grew.alloc w _,0,
      fun L' b hl hb=>⟨⟨rfl,some p.b,by simp [World.alloc,-World.alloc_eq],.map (hl _ _ hp)⟩,ptr_at hb⟩⟩
   ·cases hv
  ·cases hv
 ·rename_i s d x ho
  have h1:=hop x (by simp [ho,Op.operands])
  obtain ⟨c1,hv⟩:=cc hv (by simp)
  simp only [Bool.and_eq_true] at c1
  have hs:=isStr_spec c1.1
  obtain ⟨e,hd,he⟩:=isBytes_spec c1.2
  split at hv
  ·rename_i l e' hx hd'
   rw [hd] at hd'; cases hd'
   obtain ⟨c2,hv⟩:=cc hv (by simp)
   cases hv
   rw [hx] at h1
   generalize hx':ρ' x = x' at h1
   cases h1
   have hrun:=Lib.run_convert_string_bytes (P:=P) w s d e l hs hd he
   have hge:=grownCap_ge w l.size 0 e
   refine ⟨_,_,by simp only [execOp,ho]; rw [hx']; simp only [Sem.run_bind,hrun]; rfl,⟨Lib.bytesWorld_size w e l,Lib.bytesWorld_at_old w e l,rfl,rfl,rfl⟩,grownCap w l.size 0 e - l.size,fun L' b hl hb=>⟨?_,?_⟩⟩
   ·refine ⟨_,_,Lib.bytesWorld_at_new w e l,.inr (.inl ⟨rfl,.inr (Nat.le_refl _)⟩),?_,fun i hi=>?_⟩
    ·simp only [Lib.bytesCells,Array.size_append,Array.size_map,Array.size_replicate]
     show l.data.size + _ = _
     have:l.data.size = l.size:=rfl
     omega
    ·have hli:i < l.data.toList.length:=by simpa using hi
     refine ⟨.int .u8 ((l.data.toList[i]).toNat:Int),.int .u8 ((l.data.toList[i]).toNat:Int),?_,?_,.int _ _,rfl⟩
     ·rw [T.get_setRow _ _ _ rfl,if_pos ⟨Nat.zero_le _,by simpa using hli⟩]
      simp
      exact ⟨_,Array.getElem?_eq_getElem (by simpa using hli),rfl⟩
     ·simp only [Lib.bytesCells]
      rw [Array.getElem?_append,if_pos (by simpa using hli)]
      simp
      exact ⟨_,Array.getElem?_eq_getElem (by simpa using hli),rfl⟩
   ·have:=VR.slice (o:=0) (len:=l.size) (cap:=2 * l.size + 1) hb
    rwa [ccap_odd,show l.size + (grownCap w l.size 0 e - l.size) = grownCap w l.size 0 e by omega] at this
  ·cases hv
 ·cases hv
end
end Go.Run
