import Derived.Test.YtjcbpfhlgebgdaaDoorX9
import Derived.Shelf.Strconv.Itoa3
import Derived.Lib.ItoaLen
import Derived.Shelf.Strings.OnBuilder
set_option linter.unusedSimpArgs false
set_option linter.unusedVariables false
namespace Go.X
open Go.Eng
open Go.RowKit Go.Proofs Go.Shelf Go.Lib Go.Sort
variable {P:Program} {ρ:Ren}
theorem fn_below {f:FuncId} {args:List V} {res:V}
  (h:∀ (w:World) (pr:Nat→Nat→Prop) (lam:Nat→Option Nat) (cargs:Array Value),HL w pr→RL ⟨w,pr,lam⟩ args cargs.toList →
   Calls P f cargs w fun en w'=>∃ v,en = .returned v∧(∀ E,R E res v)∧Below w.heap.size w w'):Go.Eng.Fn P f args [] res []:=by
 intro w pr lam cargs hl hargs _ _ _
 refine (h w pr lam cargs hl hargs).mono ?_
 rintro en w' ⟨v,rfl,hr,hb⟩
 exact ⟨v,pr,rfl,hr _,fun i B hB=>by simp at hB,⟨hb.os,hb.tape,hb.output,DLE.any _ _,hb.size,fun k hk _=>hb.block k hk,fun _ _ h=>h,fun _ _ h=>.inl h⟩⟩
theorem below_grow (w:World) (q:Nat) (os:Array Obj):Below w.heap.size w (grow (w.drewN q) os):=by
 refine ⟨rfl,rfl,rfl,?_,fun k hk=>?_⟩
 ·rw [size_grow]; exact Nat.le_add_right _ _
 ·exact heap_grow_old _ _ hk
def itoaX (n:Int):Option (List UInt8):=if -9223372036854775808 ≤ n∧n ≤ 9223372036854775807 then some (Lib.itoa n) else none
theorem itoa_fnT (L : LaysM.n171 P ρ) (hT : ∀ w pr, HL w pr → Lib.TabIs P w "internal/strconv.uint64pow10" .u64 Lib.pow10Tab) : FnT P (ρ.f 171) [.d .i64] [.str] itoaX := by
 intro (x:Int) r h
 unfold itoaX at h
 split at h
 case isFalse=>cases h
 rename_i hr
 cases h
 have hr':-9223372036854775808 ≤ x∧x ≤ 9223372036854775807:=hr
 refine fn_below fun w pr lam cargs hl hargs=>?_
 have hc:cargs = #[.int .i64 x]:=by
  rw [← Array.toList_inj]
  simp only [buildA,reflC,dataOf,refl,refl_i64,toVL,toV,RL,R] at hargs
  obtain ⟨y,ys,e,rfl,rfl⟩:=hargs
  simpa using e
 subst hc
 refine (Any.strconv_Itoa L x hr'.1 hr'.2 w (hT w pr hl)).mono ?_
 rintro en w' ⟨rfl,k,os,rfl⟩
 refine ⟨_,rfl,fun E=>?_,below_grow w k os⟩
 have hlen:=Lib.itoa_length_le x hr'.1 hr'.2
 show R E (.str (Lib.itoa x)) _
 simp only [R]
 exact ⟨trivial,Nat.le_trans hlen (by decide)⟩
def joinX (a:List (List UInt8) × List UInt8):Option (List UInt8):=if a.1.length ≤ 140737488355328∧(Lib.join a.1 a.2).length ≤ 140737488355328 then some (Lib.join a.1 a.2) else none
theorem join_fnT (L:Lays.n156 P ρ) (X:Builder.Extra P ρ):FnT P (ρ.f 156) [.d .l_str,.d .str] [.str] joinX:=by
 intro x r h
 unfold joinX at h
 split at h
 case isFalse=>cases h
 rename_i hr
 cases h
 obtain ⟨xs,sep⟩:=x
 refine fn_below fun w pr lam cargs hl hargs=>?_
 simp only [buildA,reflC,dataOf,refl,refl_l_str,refl_str,toVL,toV,RL,R] at hargs
 obtain ⟨y,ys,hc,⟨base,cap,rfl,hle,hm,hrow⟩,y2,ys2,rfl,⟨rfl,hsl⟩,rfl⟩:=hargs
 have hc':cargs = #[.slice base (xs.map (enc .str)).length cap,.string ⟨sep.toArray⟩]:=by rw [← Array.toList_inj]; simpa using hc
 subst hc'
 simp only [List.length_map] at hle hr ⊢
 have hres:∀ E,R E (.str (Lib.join xs sep)) (.string ⟨(Lib.join xs sep).toArray⟩):=fun E=>by
  simp only [R]
  exact ⟨trivial,Nat.le_trans hr.2 (by decide)⟩
 by_cases hx:xs = []
 ·subst hx
  refine (Any.strings_Join_none L X base cap ⟨sep.toArray⟩ w).mono ?_
  rintro en w' ⟨rfl,rfl⟩
  exact ⟨_,rfl,hres,Below.refl _ _⟩
 ·rcases hrow with ⟨h,_⟩ | ⟨b,o,k,rfl,hrr⟩
  ·exact absurd (by simpa using h) hx
  have hpos:0 < xs.length:=List.length_pos_iff.2 hx
  have hk:k = 1:=by
   obtain ⟨y,p1,p2,_⟩:=hrr.get 0 (enc .str xs[0]) (by simp [hpos])
   simp only [enc,enc_str,R] at p1
   obtain ⟨rfl,_⟩:=p1
   simpa [Value.cells] using p2.symm
  subst hk
  have hcell:∀ (j:Nat) z,(xs.map fun s=>(⟨s.toArray⟩:ByteArray))[j]? = some z→w.cell? ⟨b,o + j,none⟩ = some (.string z)∧pr b (o + j):=by
   intro j z hz
   rw [List.getElem?_map] at hz
   cases hj:xs[j]? with
   | none=>rw [hj] at hz; cases hz
   | some s =>
    rw [hj] at hz
    cases hz
    obtain ⟨y,p1,p2,p3⟩:=hrr.get j (enc .str s) (by simp [hj])
    simp only [enc,enc_str,R] at p1
    obtain ⟨rfl,_⟩:=p1
    obtain ⟨p4,_⟩:=p3 0 (.string ⟨s.toArray⟩) (by simp [Value.cells])
    have e1:o + j * 1 + 0 = o + j:=by omega
    rw [e1] at p4
    exact p4
  have hbk:b < w.heap.size:=by
   obtain ⟨_,h2⟩:=hcell 0 ⟨xs[0].toArray⟩ (by simp [hpos])
   exact hl.lt _ _ h2
  have hmm:(xs.map fun s=>(⟨s.toArray⟩:ByteArray)).map (·.data.toList) = xs:=by
   rw [List.map_map]
   conv=>rhs; rw [← List.map_id xs]
   exact List.map_congr_left fun s _=>by simp
  have:=Any.strings_Join L X b o cap (xs.map fun s=>(⟨s.toArray⟩:ByteArray)) ⟨sep.toArray⟩ w (fun j z hz=>(hcell j z hz).1) hbk (by simpa using hr.1) (by simpa using hle) (by rw [hmm]; simpa using hr.2)
  rw [hmm,List.length_map] at this
  refine this.mono ?_
  rintro en w' ⟨rfl,hb⟩
  exact ⟨_,rfl,hres,hb⟩
end Go.X
