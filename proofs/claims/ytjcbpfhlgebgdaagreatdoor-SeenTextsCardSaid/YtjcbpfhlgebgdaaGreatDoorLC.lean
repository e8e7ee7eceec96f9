import Derived.OpenShut
import Derived.LaidMore
import Derived.RangeFuncRecord
open Option.some renaming injEq -> zuf
set_option linter.unusedSimpArgs false
set_option linter.unusedVariables false
namespace Go.LC
open Go.RowKit
mutual
def flatD:DataW Unit->Option (List Value)
 | .lit (.bool b)=>some [.bool b]
 | .lit (.int k n)=>some [.int k n]
 | .lit (.string l)=>some [.string ⟨l.toArray⟩]
 | .agg ds=>flatDs ds
 | _=>none
def flatDs:List (DataW Unit)->Option (List Value)
 | []=>some []
 | d :: ds=>match flatD d,flatDs ds with
  | some a,some b=>some (a++b)
  | _,_=>none
end
def ziF (P:Program) (g:TypeId->Bool):Nat->List Field->Nat->Bool
 | off,[],tot=>Nat.beq off tot
 | off,f :: fs,tot=>Nat.beq f.offset off && g f.type && ziF P g (off + P.cellsOf f.type) fs tot
def zhF (P:Program):Nat->TypeId->Bool
 | 0,_=>false
 | n + 1,t=>match P.underlying t with
  | some .bool=>true
  | some (.int _)=>true
  | some .string=>true
  | some (.struct fs)=>ziF P (zhF P n) 0 fs.toList (P.cellsOf t)
  | some (.array k e)=>Nat.beq (k * P.cellsOf e) (P.cellsOf t) && zhF P n e
  | _=>false
section
variable {enc:TypeId × Value->Unit} {P:Program} {w:World} {base:Nat} {spare:Nat->Bool} {held:Bool}
theorem zez {d:DataW Unit} {ds:List (DataW Unit)} {vs:List Value} (h:flatDs (d :: ds) = some vs):∃ a b,flatD d = some a/\flatDs ds = some b/\vs = a++b:=by
 simp only [flatDs] at h
 split at h
 ·rename_i a b h1 h2
  cases h
  exact ⟨a,b,h1,h2,rfl⟩
 ·cases h
theorem zmS {m:Nat} {g:TypeId->Bool} {cs:List Value} (ih:∀ t,g t = true->∀ cs x vs,DataW.trod enc P w base spare held m t cs = some x->flatD x.1 = some vs->cs = vs) :
  ∀ (fs:List Field) (xs:List (DataW Unit × List MemPlace)) (off:Nat) (vs:List Value),ziF P g off fs cs.length = true->xs.length = fs.length ->
   (∀ (i:Nat) (f:Field),fs[i]? = some f->DataW.trod enc P w base spare held m f.type ((cs.drop f.offset).take (P.cellsOf f.type)) = xs[i]?)->flatDs (xs.map (·.1)) = some vs->cs.drop off = vs
 | [],xs,off,vs,ht,hl,_,hf=>by
  have:xs = []:=List.eq_nil_of_length_eq_zero hl
  subst this
  simp only [List.map_nil,flatDs,zuf] at hf
  subst hf
  have:=Nat.eq_of_beq_eq_true ht
  simp [this]
 | f :: fs,[],_,_,_,hl,_,_=>by simp at hl
 | f :: fs,x :: xs,off,vs,ht,hl,hx,hf=>by
  simp only [ziF,Bool.and_eq_true] at ht
  obtain ⟨⟨h1,h2⟩,h3⟩:=ht
  have h1:=Nat.eq_of_beq_eq_true h1
  obtain ⟨a,b,q1,q2,rfl⟩:=zez hf
  have r1:=hx 0 f (by simp)
  rw [h1] at r1
  have e1:=ih f.type h2 _ x a (by simpa using r1) q1
  have e2:=zmS ih fs xs _ b h3 (by simpa using hl) (fun i f hf=>by have:=hx (i + 1) f (by simpa using hf); simpa using this) q2
  rw [<- List.take_append_drop (P.cellsOf f.type) (cs.drop off),e1,List.drop_drop,e2]
theorem zj9 {m c:Nat} {e:TypeId} {cs:List Value} (ih:∀ cs x vs,DataW.trod enc P w base spare held m e cs = some x->flatD x.1 = some vs->cs = vs) :
  ∀ (xs:List (DataW Unit × List MemPlace)) (j:Nat) (vs:List Value),(j + xs.length) * c = cs.length ->
   (∀ (i:Nat),i < xs.length->DataW.trod enc P w base spare held m e ((cs.drop ((j + i) * c)).take c) = xs[i]?)->flatDs (xs.map (·.1)) = some vs->cs.drop (j * c) = vs
 | [],j,vs,hl,_,hf=>by
  simp only [List.map_nil,flatDs,zuf] at hf
  subst hf
  simp only [List.length_nil,Nat.add_zero] at hl
  simp [hl]
 | x :: xs,j,vs,hl,hx,hf=>by
  obtain ⟨a,b,q1,q2,rfl⟩:=zez hf
  have r1:=hx 0 (by simp)
  have e1:=ih _ x a (by simpa using r1) q1
  have e2:=zj9 ih xs (j + 1) b (by simp only [List.length_cons] at hl; rw [<- hl]; congr 1; omega) (fun i hi=>by
   have:=hx (i + 1) (by simpa using hi)
   rw [show j + (i + 1) = j + 1 + i from by omega] at this
   simpa using this) q2
  rw [<- List.take_append_drop c (cs.drop (j * c)),e1,List.drop_drop]
  rw [Nat.add_mul,Nat.one_mul] at e2
  rw [e2]
theorem zdV:∀ (n:Nat) (t:TypeId) (m:Nat) (cs:List Value) (x:DataW Unit × List MemPlace) (vs:List Value),zhF P n t = true->DataW.trod enc P w base spare held m t cs = some x->flatD x.1 = some vs->cs = vs
 | 0,_,_,_,_,_,h,_,_=>by simp [zhF] at h
 | n + 1,t,m,cs,x,vs,ht,hx,hf=>by
  unfold zhF at ht
  split at ht
  ·rename_i hu
   obtain ⟨b,rfl,rfl⟩:=DataW.trod_bool hu hx
   simp only [flatD,zuf] at hf
   exact hf
  ·rename_i hu
   obtain ⟨b,rfl,rfl,_⟩:=DataW.trod_int hu hx
   simp only [flatD,zuf] at hf
   exact hf
  ·rename_i hu
   obtain ⟨b,rfl,rfl,_⟩:=DataW.trod_string hu hx
   simp only [flatD,zuf] at hf
   exact hf
  ·rename_i fs hu
   obtain ⟨xs,k,rfl,rfl,hl,hxs,hi⟩:=DataW.trod_struct hu hx
   rw [<- hl] at ht
   have hf':flatDs (xs.map (·.1)) = some vs:=by simpa [flatD] using hf
   have:=zmS (fun t h cs x vs h1 h2=>zdV n t k cs x vs h h1 h2) fs.toList xs 0 vs ht (by simpa using hxs) (fun i f h=>hi i f (by simpa using h)) hf'
   simpa using this
  ·rename_i k e hu
   obtain ⟨xs,j,rfl,rfl,hl,hxs,hi⟩:=DataW.trod_array hu hx
   simp only [Bool.and_eq_true] at ht
   have hk:=Nat.eq_of_beq_eq_true ht.1
   have hf':flatDs (xs.map (·.1)) = some vs:=by simpa [flatD] using hf
   have:=zj9 (c:=P.cellsOf e) (fun cs x vs h1 h2=>zdV n e j cs x vs ht.2 h1 h2) xs 0 vs (by rw [Nat.zero_add,hxs,hk,hl]) (fun i h=>by rw [Nat.zero_add]; exact hi i (by omega)) hf'
   simpa using this
  ·cases ht
end
theorem zdj {P:Program} {w:World} {n:String} {d:DataW Unit}:∀ {laid:List (String × DataW Unit)} {ps:List MemPlace},DataW.LaidVars P w laid ps->(n,d) ∈ laid ->
  ∃ g t cs fuel p,P.globalNamed n = some g/\(P.globals[g]?).map (·.type) = some t/\w.var? P n = some cs/\DataW.trod (fun _=>()) P w 0 (fun _=>true) false fuel t cs.toList = some (d,p)/\∀ x ∈ MemPlace.row ⟨g,0,none⟩ cs.size,x ∈ ps
 | [],_,_,h=>by cases h
 | (n',d') :: r,ps,hl,h=>by
  obtain ⟨g,t,cs,fuel,p,q,h1,h2,h3,h4,h5,rfl⟩:=hl
  rcases List.mem_cons.1 h with h | h
  ·cases h
   exact ⟨g,t,cs,fuel,p,h1,h2,h3,h4,fun x hx=>by simp [hx]⟩
  ·obtain ⟨g',t',cs',fuel',p',q1,q2,q3,q4,q5⟩:=zdj h5 h
   exact ⟨g',t',cs',fuel',p',q1,q2,q3,q4,fun x hx=>by simp [q5 x hx]⟩
theorem laid_cells {P:Program} {laid:List (String × DataW Unit)} {w:World} (h:laidMet P laid w) {n:String} {d:DataW Unit} (hn:(n,d) ∈ laid) {g:Nat} {t:TypeId} {vs:List Value} (hg:P.globalNamed n = some g)
  (ht:(P.globals[g]?).map (·.type) = some t) (hti:zhF P 8 t = true) (hf:flatD d = some vs) (hne:0 < vs.length):∃ ty,w.heap[g]? = some (.cells vs.toArray ty (0,0)):=by
 obtain ⟨ps,hl,_,hp⟩:=h
 obtain ⟨g',t',cs,fuel,p,h1,h2,h3,h4,h5⟩:=zdj hl hn
 rw [hg] at h1; cases h1
 rw [ht] at h2; cases h2
 have hcs:=zdV 8 t fuel cs.toList _ vs hti h4 hf
 have hsz:cs.size = vs.length:=by rw [<- hcs]; simp
 obtain ⟨⟨c,ty,hc⟩,_⟩:=hp g 0 (h5 _ (by simp [MemPlace.row]; omega))
 refine ⟨ty,?_⟩
 have:w.var? P n = some c:=by simp [World.var?,hg,hc]
 rw [this] at h3; cases h3
 rw [hc,<- hcs]
end Go.LC
