import Derived.Test.YtjcbpfhlgebgdaaGreatDoorX9
import Derived.Shelf.Strconv.Itoa3
import Derived.Lib.ItoaLen
import Derived.Shelf.Strings.OnBuilder
import Derived.Test.YtjcbpfhlgebgdaaGreatDoorPLayP
set_option linter.unusedSimpArgs false
set_option linter.unusedVariables false
namespace Go.X
open Go.Eng
open Go.RowKit Go.Proofs Go.Shelf Go.Lib Go.Sort
variable {P:Program} {ρ:Ren}
theorem zbY {f:FuncId} {args:List V} {res:V}
  (h:∀ (w:World) (pr:Nat->Nat->Prop) (lam:Nat->Option Nat) (cargs:Array Value),HL w pr->RL ⟨w,pr,lam⟩ args cargs.toList ->
   Calls P f cargs w fun en w'=>∃ v,en = .returned v/\(∀ E,R E res v)/\Below w.heap.size w w'):Go.Eng.Fn P f args [] res []:=by
 intro w pr lam cargs hl hargs _ _ _
 refine (h w pr lam cargs hl hargs).mono ?_
 rintro en w' ⟨v,rfl,hr,hb⟩
 exact ⟨v,pr,rfl,hr _,fun i B hB=>by simp at hB,⟨hb.os,hb.tape,hb.output,DLE.any _ _,hb.size,fun k hk _=>hb.block k hk,fun _ _ h=>h,fun _ _ h=>.inl h⟩⟩
theorem below_grow (w:World) (q:Nat) (os:Array Obj):Below w.heap.size w (grow (w.drewN q) os):=by
 refine ⟨rfl,rfl,rfl,?_,fun k hk=>?_⟩
 ·rw [size_grow]; exact Nat.le_add_right _ _
 ·exact heap_grow_old _ _ hk
def znK (n:Int):Option (List UInt8):=if -9223372036854775808 <= n/\n <= 9223372036854775807 then some (Lib.itoa n) else none
theorem zlf (L : LaysM.n171 P ρ) (hT : ∀ w pr, HL w pr -> Lib.TabIs P w "internal/strconv.uint64pow10" .u64 Lib.pow10Tab) : FnT P (ρ.f 171) [.d .i64] [.str] znK := by
 intro (x:Int) r h
 unfold znK at h
 split at h
 case isFalse=>cases h
 rename_i hr
 cases h
 have hr':-9223372036854775808 <= x/\x <= 9223372036854775807:=hr
 refine zbY fun w pr lam cargs hl hargs=>?_
 have hc:cargs = #[.int .i64 x]:=by
  rw [<- Array.toList_inj]
  simp only [yr,qT,qa,refl,zbH,zg,toV,RL,R] at hargs
  obtain ⟨y,ys,e,rfl,rfl⟩:=hargs
  simpa using e
 subst hc
 refine (Any.strconv_Itoa L x hr'.1 hr'.2 w (hT w pr hl)).mono ?_
 rintro en w' ⟨rfl,k,os,rfl⟩
 refine ⟨_,rfl,fun E=>?_,below_grow w k os⟩
 have hlen:=Lib.itoa_length_le x hr'.1 hr'.2
 show R E (.str (Lib.itoa x)) _
 simp only [R]
 exact ⟨trivial,Nat.le_trans hlen (by decide)⟩
end Go.X
namespace Go.Proofs.YtjcbpfhlgebgdaaGreatDoor
open Go Go.X Go.Eng Go.RowKit Go.Proofs Go.Shelf
theorem _root_.Go.Proofs.Tryz.mixed:Tryz.prog.follows .mixedOrders = true:=by kernel_rfl
def strings_IndexByte (a:List UInt8 × Int):Option Int:=some (Lib.indexByte a.1 a.2.toNat.toUInt8)
theorem strings_IndexByte.fn:FnT Tryz.prog 122 [.d .str,.d .u8] [.i64] strings_IndexByte:=by
 intro x r h
 cases h
 obtain ⟨s,c⟩:=x
 refine zbY fun w pr lam cargs hl hargs=>?_
 simp only [yr,qT,qa,refl,YP,ziX,zg,toV,RL,R] at hargs
 obtain ⟨y,ys,e,⟨rfl,hs⟩,y2,ys2,rfl,rfl,rfl⟩:=hargs
 have hc':cargs = #[.string ⟨s.toArray⟩,.int .u8 c]:=by rw [<- Array.toList_inj]; simpa using e
 subst hc'
 refine (Any.strings_IndexByte Tryz.ibI ⟨s.toArray⟩ c w).mono ?_
 rintro en w' ⟨rfl,rfl⟩
 refine ⟨_,rfl,fun E=>?_,Below.refl _ _⟩
 show R E (.int .i64 (Lib.indexByte s c.toNat.toUInt8)) _
 simp only [R]
noncomputable def strings_IndexByte.spec:ze Tryz.prog:=ze.t 122 [.d .str,.d .u8] [.i64] strings_IndexByte (by kernel_rfl) strings_IndexByte.fn
end Go.Proofs.YtjcbpfhlgebgdaaGreatDoor
