import Derived.Shelf.Strconv.AppendIntPublic10
import Derived.Shelf.Strings.BuilderK
import Derived.Lib.Overlaps
import Derived.Test.YtgpccllhdcggdaaGreatDoorXFs
set_option linter.unusedSimpArgs false
set_option linter.unusedVariables false
namespace Go.Proofs
open Go.Shelf
def Tryz.appI_ren:Go.Shelf.Ren:=⟨fun | 176=>73 | 249=>104 | 288=>127 | 283=>122 | 284=>123 | 285=>124 | 286=>125 | 129=>139 | 317=>138 | 318=>140 | 319=>141 | 320=>142 | 337=>152 | 338=>153 | n=>n,fun | 37=>63 | 2=>2 | 3=>3 | 53=>42 | 4=>4 | 9=>9 | 171=>220 | 0=>0 | 173=>223 | 212=>238 | 51=>239 | 5=>5 | 20=>20 | 213=>240 | 46=>241 | 232=>255 | 233=>256 | n=>n,fun | 17=>3 | 18=>7 | 19=>8 | n=>n⟩
theorem Tryz.appI:Go.Proofs.LaysM.n176 Tryz.prog Tryz.appI_ren:={
 mixed:=by kernel_rfl
 f129:=Tryz.func139.trans (congrArg some (by kernel_rfl))
 f176:=Tryz.func73.trans (congrArg some (by kernel_rfl))
 f249:=Tryz.func104.trans (congrArg some (by kernel_rfl))
 f283:=Tryz.func122.trans (congrArg some (by kernel_rfl))
 f284:=Tryz.func123.trans (congrArg some (by kernel_rfl))
 f285:=Tryz.func124.trans (congrArg some (by kernel_rfl))
 f286:=Tryz.func125.trans (congrArg some (by kernel_rfl))
 f288:=Tryz.func127.trans (congrArg some (by kernel_rfl))
 f317:=Tryz.func138.trans (congrArg some (by kernel_rfl))
 f318:=Tryz.func140.trans (congrArg some (by kernel_rfl))
 f319:=Tryz.func141.trans (congrArg some (by kernel_rfl))
 f320:=Tryz.func142.trans (congrArg some (by kernel_rfl))
 f337:=Tryz.func152.trans (congrArg some (by kernel_rfl))
 f338:=Tryz.func153.trans (congrArg some (by kernel_rfl))
 t0:=Tryz.underlying0
 a0:=Tryz.isAgg0
 z0:=Tryz.sizeOf0
 v0:=Tryz.zeroValue0
 t2:=Tryz.underlying2
 a2:=Tryz.isAgg2
 z2:=Tryz.sizeOf2
 v2:=Tryz.zeroValue2
 t3:=Tryz.underlying3
 a3:=Tryz.isAgg3
 z3:=Tryz.sizeOf3
 v3:=Tryz.zeroValue3
 t4:=Tryz.underlying4
 a4:=Tryz.isAgg4
 z4:=Tryz.sizeOf4
 v4:=Tryz.zeroValue4
 t5:=Tryz.underlying5
 a5:=Tryz.isAgg5
 z5:=Tryz.sizeOf5
 v5:=Tryz.zeroValue5
 t9:=Tryz.underlying9
 a9:=Tryz.isAgg9
 z9:=Tryz.sizeOf9
 v9:=Tryz.zeroValue9
 t20:=Tryz.underlying20
 a20:=Tryz.isAgg20
 z20:=Tryz.sizeOf20
 v20:=Tryz.zeroValue20
 t37:=Tryz.underlying63
 a37:=Tryz.isAgg63
 z37:=Tryz.sizeOf63
 v37:=Tryz.zeroValue63
 t46:=Tryz.underlying241
 a46:=Tryz.isAgg241
 z46:=Tryz.sizeOf241
 v46:=Tryz.zeroValue241
 t51:=Tryz.underlying239
 a51:=Tryz.isAgg239
 z51:=Tryz.sizeOf239
 v51:=Tryz.zeroValue239
 t53:=Tryz.underlying42
 a53:=Tryz.isAgg42
 z53:=Tryz.sizeOf42
 v53:=Tryz.zeroValue42
 t171:=Tryz.underlying220
 a171:=Tryz.isAgg220
 z171:=Tryz.sizeOf220
 v171:=Tryz.zeroValue220
 t173:=Tryz.underlying223
 a173:=Tryz.isAgg223
 z173:=Tryz.sizeOf223
 v173:=Tryz.zeroValue223
 t212:=Tryz.underlying238
 a212:=Tryz.isAgg238
 z212:=Tryz.sizeOf238
 v212:=Tryz.zeroValue238
 t213:=Tryz.underlying240
 a213:=Tryz.isAgg240
 z213:=Tryz.sizeOf240
 t232:=Tryz.underlying255
 a232:=Tryz.isAgg255
 z232:=Tryz.sizeOf255
 v232:=Tryz.zeroValue255
 t233:=Tryz.underlying256
 a233:=Tryz.isAgg256
 z233:=Tryz.sizeOf256
 v233:=Tryz.zeroValue256
 g17:=by kernel_rfl
 g18:=by kernel_rfl
 g19:=by kernel_rfl
 i0:=by kernel_rfl
 i2:=by kernel_rfl
 i3:=by kernel_rfl
 i4:=by kernel_rfl
 i5:=by kernel_rfl
 i9:=by kernel_rfl
 i20:=by kernel_rfl
 i37:=by kernel_rfl
 i46:=by kernel_rfl
 i51:=by kernel_rfl
 i53:=by kernel_rfl
 i171:=by kernel_rfl
 i173:=by kernel_rfl
 i212:=by kernel_rfl
 i232:=by kernel_rfl
 i233:=by kernel_rfl
 m17:=by kernel_rfl
 m18:=by kernel_rfl
 m19:=by kernel_rfl }
end Go.Proofs
namespace Go.Proofs
open Go.Shelf
def Tryz.lnI_ren:Go.Shelf.Ren:=⟨fun | 170=>33 | n=>n,fun | 70=>62 | 3=>3 | 0=>0 | 72=>65 | 37=>63 | 5=>5 | n=>n,fun | n=>n⟩
theorem Tryz.lnI:Go.Proofs.Lays.n170 Tryz.prog Tryz.lnI_ren:={
 mixed:=by kernel_rfl
 f170:=Tryz.func33.trans (congrArg some (by kernel_rfl))
 t0:=Tryz.underlying0
 a0:=Tryz.isAgg0
 z0:=Tryz.sizeOf0
 v0:=Tryz.zeroValue0
 t3:=Tryz.underlying3
 a3:=Tryz.isAgg3
 z3:=Tryz.sizeOf3
 v3:=Tryz.zeroValue3
 t37:=Tryz.underlying63
 a37:=Tryz.isAgg63
 z37:=Tryz.sizeOf63
 v37:=Tryz.zeroValue63
 t70:=Tryz.underlying62
 a70:=Tryz.isAgg62
 z70:=Tryz.sizeOf62
 v70:=Tryz.zeroValue62
 t72:=Tryz.underlying65
 a72:=Tryz.isAgg65
 z72:=Tryz.sizeOf65
 v72:=Tryz.zeroValue65 }
end Go.Proofs
namespace Go.Eng
open Go.RowKit Go.Builtin
theorem zqO {w:World} {g:Nat} {cur:Array Value} {t:TypeId} {fz:Nat × Nat} (hg:w.heap[g]? = some (.cells cur t fz)) (o:Nat):w.cell? ⟨g,o,none⟩ = cur[o]?:=by
 simp [World.cell?,hg]
theorem zrR {w:World} {pr:Nat->Nat->Prop} {lam:Nat->Option Nat} {g k:Nat} {ys:List Value} {cur:Array Value} {t:TypeId} {fz:Nat × Nat} (hg:w.heap[g]? = some (.cells cur t fz)) (hys:∀ y ∈ ys,y.cells.size = k)
  (h:∀ (j:Nat) z,(zm ys)[j]? = some z->Env.at ⟨w,pr,lam⟩ g (0 + j) z/\z.oneCell' = true):zm ys = cur.toList.take (ys.length * k):=by
 have hl:=yB hys
 have hget:∀ (j:Nat) z,(zm ys)[j]? = some z->cur.toList[j]? = some z:=fun j z hz=>by
  have h1:=(h j z hz).1.1
  rw [Nat.zero_add] at h1
  change w.cell? ⟨g,j,none⟩ = some z at h1
  rw [zqO hg] at h1
  rw [Array.getElem?_toList]; exact h1
 have hle:(zm ys).length <= cur.toList.length:=by
  rcases Nat.lt_or_ge cur.toList.length (zm ys).length with q | q
  ·have:=hget cur.toList.length _ (List.getElem?_eq_getElem q)
   rw [List.getElem?_eq_none (Nat.le_refl _)] at this; cases this
  ·exact q
 refine List.ext_getElem? fun j=>?_
 rw [List.getElem?_take]
 by_cases hj:j < ys.length * k
 ·rw [if_pos hj]
  have hj':j < (zm ys).length:=by omega
  rw [List.getElem?_eq_getElem hj',hget j _ (List.getElem?_eq_getElem hj')]
 ·rw [if_neg hj,List.getElem?_eq_none (by omega)]
end Go.Eng
namespace Go.App
open Go.Shelf Go.RowKit Go.Sort Go.Lib Go.Proofs
def AtB (w:World) (v v':Value):Prop:=∀ g,v'.ownBlock = some g->w.heap.size <= g ∨ v.ownBlock = some g
theorem AtB.refl (w:World) (v:Value):AtB w v v:=fun _ h=>.inr h
theorem AtB.trans {w w1:World} {v v1 v2:Value} (h:AtB w v v1) (k:AtB w1 v1 v2) (hs:w.heap.size <= w1.heap.size):AtB w v v2:=fun g hg=>by
 rcases k g hg with q | q
 ·exact .inl (Nat.le_trans hs q)
 ·exact h g q
theorem zi2 {w w1 w2:World} {v v1:Value} (h:w.grownBy w1 v.ownBlock) (k:w1.grownBy w2 v1.ownBlock) (ha:AtB w v v1):w.grownBy w2 v.ownBlock :=
 ⟨k.os.trans h.os,k.tape.trans h.tape,k.output.trans h.output,Nat.le_trans h.size k.size,fun i hi hne=>by
  refine (k.block i (Nat.lt_of_lt_of_le hi h.size) fun he=>?_).trans (h.block i hi hne)
  rcases ha i he.symm with q | q
  ·omega
  ·exact hne q.symm⟩
section
variable {P:Program} (w:World)
theorem zrS (base:Nat) (t ty e:TypeId) (i:TypeInfo) (z:Value) (size bytes:Nat) (ht:P.underlying t = some (.slice e)) (hi:P.info? e = some i) (hz:i.zero = some z)
  (hsize:i.size = size) (hby:i.bytes = bytes) (hzs:z.cells.size = size) (hsz:0 < size)
  (v:Value) (n:Nat) (xs:List Value) (hown:w.ownsRow base e size v n xs)
  (a:Addr) (m c:Nat) (news:List Value) (hl:news.length = m * size) (hnews:∀ j u,news[j]? = some u->w.cell? (a.add j) = some u) (h1:∀ u ∈ news,u.oneCell' = true)
  (h63:n + m <= maxLen) (hbytes:(n + m) * bytes <= 140737488355328) {v':Value} {w':World} (hr:(Builtin.append_ #[t,t] ty #[v,.slice (some a) m c]).run P w = .ok v' w'):AtB w v v':=by
 subst hsize
 subst hby
 have hsmall:n + m <= 9223372036854775807:=by simp only [maxLen] at h63; omega
 rcases hown.2 with ⟨rfl,rfl⟩ | ⟨g,cap,cur,rfl,hbg,hg,hnc,hcm,hcs,htake⟩
 ·by_cases hm:m = 0
  ·subst hm
   have:(Builtin.append_ #[t,t] ty #[.slice none 0 0,.slice (some a) 0 c]).run P w = .ok (.slice none 0 0) w:=by
    simp [Builtin.append_,run_underlying ht,sizeOf,typeInfo,hi,Builtin.lenOf,Builtin.firstCells,loadCells,loadCellsFrom]
   rw [this] at hr; cases hr
   exact AtB.refl _ _
  ·have hr2:=run_append_nil (P:=P) w t ty e i z ht hi hz a m c news hl hnews (by omega) (by omega) (by have hb:=hbytes; simp only [Nat.zero_add] at hb; omega)
   rw [hr2] at hr; cases hr
   intro g hg
   simp [Value.ownBlock] at hg
   exact .inl (by omega)
 ·by_cases hroom:n + m <= cap
  ·have hfit:n * i.size + news.length <= cur.size:=by rw [hl,hcs,<- Nat.add_mul]; exact Nat.mul_le_mul_right _ hroom
   have hr2:=run_append_room (P:=P) w t ty e i ht hi g n cap cur hg a m c news hl hnews h1 hroom hfit
   rw [hr2] at hr; cases hr
   intro g' hg'
   exact .inr hg'
  ·have holds:∀ j u,xs[j]? = some u->w.cell? ((⟨g,0,none⟩:Addr).add j) = some u:=hown.cells (g:=g) rfl
   have hr2:=run_append_grow (P:=P) w t ty e i z ht hi hz ⟨g,0,none⟩ n cap xs hown.1 holds a m c news hl hnews (by omega) (by omega) (growslice_fits (by omega) hbytes)
   rw [hr2] at hr; cases hr
   intro g' hg'
   simp [Value.ownBlock] at hg'
   exact .inl (by omega)
theorem ze9 (base:Nat) (t u ty e:TypeId) (i:TypeInfo) (ht:P.underlying t = some (.slice e)) (hu:P.underlying u = some .string) (hi:P.info? e = some i) (hz:i.zero = some (.int .u8 0))
  (hsize:i.size = 1) (hby:i.bytes = 1)
  (v:Value) (n:Nat) (xs:List Value) (hown:w.ownsRow base e 1 v n xs) (s:ByteArray)
  (h63:n + s.size <= maxLen) (hbytes:n + s.size <= 140737488355328) {v':Value} {w':World} (hr:(Builtin.append_ #[t,u] ty #[v,.string s]).run P w = .ok v' w'):AtB w v v':=by
 have hsmall:n + s.size <= 9223372036854775807:=by simp only [maxLen] at h63; omega
 have hxl:xs.length = n:=by simpa using hown.1
 rcases hown.2 with ⟨rfl,rfl⟩ | ⟨g,cap,cur,rfl,hbg,hg,hnc,hcm,hcs,htake⟩
 ·by_cases hm:s.size = 0
  ·have hf:=run_firstCells_string (P:=P) w 1 s
   have hn:strCells s = []:=List.eq_nil_of_length_eq_zero (by rw [strCells_length]; exact hm)
   rw [hm] at hf
   have:(Builtin.append_ #[t,u] ty #[.slice none 0 0,.string s]).run P w = .ok (.slice none 0 0) w:=by
    simp [Builtin.append_,run_underlying ht,run_underlying hu,sizeOf,typeInfo,hi,hsize,Builtin.lenOf,hm,hf]
   rw [this] at hr; cases hr
   exact AtB.refl _ _
  ·have hr2:=run_append_nil_string (P:=P) w t u ty e i (.int .u8 0) ht hu hi hz s (by omega) (by omega) (by rw [hby]; omega)
   rw [hr2] at hr; cases hr
   intro g hg
   simp [Value.ownBlock] at hg
   exact .inl (by omega)
 ·by_cases hroom:n + s.size <= cap
  ·have hcs':cur.size = cap:=by simpa using hcs
   have hr2:=run_append_room_string (P:=P) w t u ty e i ht hu hi hsize g n cap cur hg s hroom (by omega)
   rw [hr2] at hr; cases hr
   intro g' hg'
   exact .inr hg'
  ·have holds:∀ j u,xs[j]? = some u->w.cell? ((⟨g,0,none⟩:Addr).add j) = some u:=hown.cells (g:=g) rfl
   have hr2:=run_append_grow_string (P:=P) w t u ty e i (.int .u8 0) ht hu hi hz ⟨g,0,none⟩ n cap xs (by rw [hsize]; simpa using hxl) holds s (by omega) (by omega) (by rw [hby]; exact growslice_fits (by omega) (by omega))
   rw [hr2] at hr; cases hr
   intro g' hg'
   simp [Value.ownBlock] at hg'
   exact .inl (by omega)
theorem zpW {ops:Array Oper} {rest:List Oper} {o:Oper} {a:Act} {Q:Exit->Act->World->Prop} (hgd:o.guard = none) (s x:Operand) (t:TypeId)
  (ho:o.op = .call { callee:=.builtin .append,args:=#[s,x],argTypes:=#[t,t] })
  (base:Nat) (e:TypeId) (i:TypeInfo) (z:Value) (size bytes:Nat) (ht:P.underlying t = some (.slice e)) (hi:P.info? e = some i) (hz:i.zero = some z)
  (hsize:i.size = size) (hby:i.bytes = bytes) (hzs:z.cells.size = size) (hsz:0 < size)
  (v:Value) (n:Nat) (xs:List Value) (hs:a.eval s = v) (hown:w.ownsRow base e size v n xs)
  (ad:Addr) (m c:Nat) (news:List Value) (hx:a.eval x = .slice (some ad) m c) (hl:news.length = m * size) (hnews:∀ j u,news[j]? = some u->w.cell? (ad.add j) = some u) (h1:∀ u ∈ news,u.oneCell' = true)
  (h63:n + m <= maxLen) (hbytes:(n + m) * bytes <= 140737488355328) (hbase:base <= w.heap.size)
  (h:∀ v' w',w'.ownsRow base e size v' (n + m) (xs++news)->w.grownBy w' v.ownBlock->AtB w v v'->wpList P ops Q rest (a.put o.dst v') w'):wpList P ops Q (o :: rest) a w:=by
 refine wpList_plain hgd fun K hK=>?_
 obtain ⟨v',w',hr,h2,h3,h4⟩:=run_append_own (P:=P) w base t o.type e i z size bytes ht hi hz hsize hby hzs hsz v n xs hown ad m c news hl hnews h1 h63 hbytes hbase
 have h5:=zrS (P:=P) w base t o.type e i z size bytes ht hi hz hsize hby hzs hsz v n xs hown ad m c news hl hnews h1 h63 hbytes hr
 unfold Oper.wp execOp
 simp only [ho,resolve,invoke,builtin,Sem.run_bind,Sem.run_pure,Result.andThen_ok,List.map_toArray,List.map_cons,List.map_nil,hs,hx,hr]
 exact hK _ _ (h v' w' h2 h3 h5)
theorem zed {ops:Array Oper} {rest:List Oper} {o:Oper} {a:Act} {Q:Exit->Act->World->Prop} (hgd:o.guard = none) (sl x:Operand) (t u:TypeId)
  (ho:o.op = .call { callee:=.builtin .append,args:=#[sl,x],argTypes:=#[t,u] })
  (base:Nat) (e:TypeId) (i:TypeInfo) (ht:P.underlying t = some (.slice e)) (hu:P.underlying u = some .string) (hi:P.info? e = some i) (hz:i.zero = some (.int .u8 0))
  (hsize:i.size = 1) (hby:i.bytes = 1)
  (v:Value) (n:Nat) (xs:List Value) (hs:a.eval sl = v) (hown:w.ownsRow base e 1 v n xs) (s:ByteArray) (hx:a.eval x = .string s)
  (h63:n + s.size <= maxLen) (hbytes:n + s.size <= 140737488355328) (hbase:base <= w.heap.size)
  (h:∀ v' w',w'.ownsRow base e 1 v' (n + s.size) (xs++strCells s)->w.grownBy w' v.ownBlock->AtB w v v'->wpList P ops Q rest (a.put o.dst v') w'):wpList P ops Q (o :: rest) a w:=by
 refine wpList_plain hgd fun K hK=>?_
 obtain ⟨v',w',hr,h2,h3,h4⟩:=run_append_own_string (P:=P) w base t u o.type e i ht hu hi hz hsize hby v n xs hown s h63 hbytes hbase
 have h5:=ze9 (P:=P) w base t u o.type e i ht hu hi hz hsize hby v n xs hown s h63 hbytes hr
 unfold Oper.wp execOp
 simp only [ho,resolve,invoke,builtin,Sem.run_bind,Sem.run_pure,Result.andThen_ok,List.map_toArray,List.map_cons,List.map_nil,hs,hx,hr]
 exact hK _ _ (h v' w' h2 h3 h5)
end
end Go.App
namespace Go.App
open Go.Shelf Go.RowKit Go.Sort Go.Lib Go.Proofs
variable {P:Program} {ρ:Ren}
set_option maxHeartbeats 6400000 in
set_option maxRecDepth 100000 in
theorem zpX (L:LaysM.n288 P ρ) (B n u:Nat) (hu:u < 100) (sv:Value) (xs:List Value) (w:World) (hown:w.ownsRow B (ρ.t 5) 1 sv n xs) (hBw:B <= w.heap.size) (hlim:n + 20 <= 140737488355328) :
  Calls P (ρ.f 288) #[sv,.int .u64 u,.int .i64 10] w fun e w'=>∃ v',e = .returned v'/\w'.ownsRow B (ρ.t 5) 1 v' (n + (Lib.decDigits u).length) (xs++Lib.byteCells (Lib.decDigits u))/\w.grownBy w' sv.ownBlock/\AtB w sv v':=by
 have mixed:=L.mixed
 have t5:=L.t5; have a5:=L.a5; have z5:=L.z5; have v5:=L.v5
 have t37:=L.t37; have u37:=run_underlying L.t37; have a37:=L.a37; have z37:=L.z37; have v37:=L.v37
 have t53:=L.t53; have a53:=L.a53; have z53:=L.z53; have v53:=L.v53
 have t3:=L.t3; have a3:=L.a3; have z3:=L.z3; have v3:=L.v3
 have t4:=L.t4; have a4:=L.a4; have z4:=L.z4; have v4:=L.v4
 have t9:=L.t9; have a9:=L.a9; have z9:=L.z9; have v9:=L.v9
 have t171:=L.t171; have a171:=L.a171; have z171:=L.z171; have v171:=L.v171
 have t0:=L.t0; have a0:=L.a0; have z0:=L.z0; have v0:=L.v0
 have t173:=L.t173; have a173:=L.a173; have z173:=L.z173; have v173:=L.v173
 have e283:∀ args w,(callFunc (ρ.f 283) args).run P w = .ok (.enter (ρ.f 283) args) w:=enters_of L.f283 (by kernel_rfl) rfl
 obtain ⟨i0,hi,hz0,hz1,hz2⟩:=info_parts L.i5
 have hlen:(Lib.decDigits u).length <= 20:=by
  rw [Lib.decDigits_length]
  by_cases h10:u < 10
  ·rw [Lib.nDigits_small h10]; omega
  ·rw [Lib.nDigits_big h10,Lib.nDigits_small (show u / 10 < 10 by omega)]; omega
 have hsz:(⟨(Lib.decDigits u).toArray⟩:ByteArray).size = (Lib.decDigits u).length:=by simp [ByteArray.size]
 go_enter L.f288,Body.n288_ntmps ρ
 go_wp2_with (first
  | (go_at_fn (ρ.f 283); refine (Any.internal_strconv_small { L with } u hu _).mono ?_; rintro e w' ⟨rfl,rfl⟩)
  | (at_builtin; refine zed _ rfl _ _ (ρ.t 37) (ρ.t 9) rfl B (ρ.t 5) i0 L.t37 L.t9 hi hz0 hz1 hz2 _ _ _ rfl hown ⟨(Lib.decDigits u).toArray⟩ rfl (by rw [hsz]; unfold maxLen; omega) (by rw [hsz]; omega) hBw ?_))
 intro v' w1 hown' hgrow hat
 go_wp2
 go_ret
 refine ⟨v',rfl,?_,hgrow,hat⟩
 first | exact hown' | (rw [hsz] at hown'; exact hown')
set_option maxHeartbeats 12800000 in
set_option maxRecDepth 100000 in
theorem zuE (L:LaysM.n288 P ρ) (B n u:Nat) (hu:100 <= u) (hu64:u < 18446744073709551616) (sv:Value) (xs:List Value) (w:World) (hown:w.ownsRow B (ρ.t 5) 1 sv n xs) (hBw:B <= w.heap.size) (hlim:n + 20 <= 140737488355328)
  (htab : Lib.TabIs P w "internal/strconv.uint64pow10" .u64 Lib.pow10Tab) :
  Calls P (ρ.f 288) #[sv,.int .u64 u,.int .i64 10] w fun e w'=>∃ v',e = .returned v'/\w'.ownsRow B (ρ.t 5) 1 v' (n + (Lib.decDigits u).length) (xs++Lib.byteCells (Lib.decDigits u))/\w.grownBy w' sv.ownBlock/\AtB w sv v':=by
 have mixed:=L.mixed
 have t5:=L.t5; have a5:=L.a5; have z5:=L.z5; have v5:=L.v5
 have t37:=L.t37; have u37:=run_underlying L.t37; have a37:=L.a37; have z37:=L.z37; have v37:=L.v37
 have t53:=L.t53; have a53:=L.a53; have z53:=L.z53; have v53:=L.v53
 have t3:=L.t3; have a3:=L.a3; have z3:=L.z3; have v3:=L.v3
 have t4:=L.t4; have a4:=L.a4; have z4:=L.z4; have v4:=L.v4
 have t9:=L.t9; have a9:=L.a9; have z9:=L.z9; have v9:=L.v9
 have t171:=L.t171; have a171:=L.a171; have z171:=L.z171; have v171:=L.v171
 have t0:=L.t0; have a0:=L.a0; have z0:=L.z0; have v0:=L.v0
 have t173:=L.t173; have a173:=L.a173; have z173:=L.z173; have v173:=L.v173
 have e284:∀ args w,(callFunc (ρ.f 284) args).run P w = .ok (.enter (ρ.f 284) args) w:=enters_of L.f284 (by kernel_rfl) rfl
 have e285:∀ args w,(callFunc (ρ.f 285) args).run P w = .ok (.enter (ρ.f 285) args) w:=enters_of L.f285 (by kernel_rfl) rfl
 obtain ⟨i0,hi,hz0,hz1,hz2⟩:=info_parts L.i5
 have hu1:1 <= u:=by omega
 have hnd20:Lib.nDigits u <= 20:=by have:=Lib.numDigits_eq u hu1 hu64; split at this <;> omega
 have hal:P.arrayLen (ρ.t 171) = 24:=by simp [Program.arrayLen,L.t171]
 have hsl:∀ W,(Instr.sliceAt (ρ.t 171) (.pointer (some ⟨w.heap.size,0,none⟩)) none (some (.int .i64 (Lib.nDigits u:Int))) none).run P W = .ok (.slice (some ⟨w.heap.size,0,none⟩) (Lib.nDigits u) 24) W:=fun W=>by
  rw [run_sliceAt_array_h W (ρ.t 171) ⟨w.heap.size,0,none⟩ (by simp [Program.arrayLen,Program.elem,L.t171]) .i64 (Lib.nDigits u:Int) (by omega) (by rw [hal]; omega)]
  go_simp
 have hH0:=Lib.holds_zero0 w (ρ.t 171) (Lib.nDigits u) (by omega)
 have hfmt:=Any.internal_strconv_formatBase10 { L with } w.heap.size 0 24 u (Array.replicate (Lib.nDigits u) 0) (w.alloc (.cells Lib.zeros24 (ρ.t 171))) hH0 (by rw [Array.size_replicate]; exact Lib.lt_pow_nDigits u) hu64 (by rw [Array.size_replicate]; omega)
 rw [Array.size_replicate] at hfmt
 have HH0:=Lib.hid hH0
 have iu:(100:Int) <= (u:Int):=by omega
 clear hH0 hal
 go_enter L.f288,Body.n288_ntmps ρ
 go_wp2_with (first
  | (go_at_fn (ρ.f 284); refine (Any.internal_strconv_numDigits { L with } u hu1 hu64 _ (Lib.tabIs_alloc htab _)).mono ?_; rintro e w' ⟨rfl,rfl⟩))
 go_at_fn (ρ.f 285)
 refine hfmt.mono ?_
 rintro e w' ⟨rfl,k,v',dk,rfl,hF⟩
 have hcells:∀ j u',(Lib.byteCells (Lib.decDigits u))[j]? = some u'->((putRow (fun (b:UInt8)=>Value.int .u8 (b.toNat:Int)) (w.alloc (.cells Lib.zeros24 (ρ.t 171))) w.heap.size 0 dk).drewN k).cell? ((⟨w.heap.size,0,none⟩:Addr).add j) = some u':=by
  intro j u' hj
  have hjl:j < (Lib.decDigits u).length:=by
   have h5:=(List.getElem?_eq_some_iff.1 hj).1
   rwa [Lib.byteCells_length] at h5
  have e5:(Lib.byteCells (Lib.decDigits u))[j]? = some (Value.int .u8 ((Lib.decDigits u)[j].toNat:Int)):=by simp [Lib.byteCells,hjl]
  rw [e5] at hj
  cases hj
  rw [Lib.row_is_numeral hF j hjl,Lib.add_plain,World.cell?_drewN]
  exact cell?_putRow (fun (b:UInt8)=>Value.int .u8 (b.toNat:Int)) _ w.heap.size 0 _ dk HH0.out (by rw [hF.size,Array.size_replicate]) j (by rw [hF.size]; rw [Lib.decDigits_length] at hjl; exact hjl)
 obtain ⟨os,eo⟩:=Lib.fin_at w (.cells Lib.zeros24 (ρ.t 171)) dk k 0
 have hown2:((putRow (fun (b:UInt8)=>Value.int .u8 (b.toNat:Int)) (w.alloc (.cells Lib.zeros24 (ρ.t 171))) w.heap.size 0 dk).drewN k).ownsRow B (ρ.t 5) 1 sv n xs:=by rw [eo]; exact Lib.ownsRow_grow hown k os
 have hnx2:Below w.heap.size w ((putRow (fun (b:UInt8)=>Value.int .u8 (b.toNat:Int)) (w.alloc (.cells Lib.zeros24 (ρ.t 171))) w.heap.size 0 dk).drewN k):=by rw [eo]; exact Lib.below_grow w.heap.size w (Nat.le_refl _) k os
 have hsz2:w.heap.size <= ((putRow (fun (b:UInt8)=>Value.int .u8 (b.toNat:Int)) (w.alloc (.cells Lib.zeros24 (ρ.t 171))) w.heap.size 0 dk).drewN k).heap.size:=by rw [eo]; exact Lib.size_grow w k os
 generalize (putRow (fun (b:UInt8)=>Value.int .u8 (b.toNat:Int)) (w.alloc (.cells Lib.zeros24 (ρ.t 171))) w.heap.size 0 dk).drewN k = W2 at hcells hown2 hnx2 hsz2 ⊢
 clear eo HH0 hfmt
 go_wp2_with (at_builtin; refine zpW _ rfl _ _ (ρ.t 37) rfl B (ρ.t 5) i0 (.int .u8 0) 1 1 L.t37 hi hz0 hz1 hz2 rfl (by decide) _ _ _ rfl hown2 ⟨w.heap.size,0,none⟩ (Lib.nDigits u) 24 (Lib.byteCells (Lib.decDigits u)) rfl ?c0 hcells ?c2 ?c3 ?c4 ?c5 ?_)
 case c0=>rw [Lib.byteCells_length,Lib.decDigits_length,Nat.mul_one]
 case c2=>intro u' hu'; simp only [Lib.byteCells,List.mem_map] at hu'; obtain ⟨b,_,rfl⟩:=hu'; rfl
 case c3=>unfold maxLen; omega
 case c4=>omega
 case c5=>omega
 intro v2 w3 hown' hgrow hat
 go_wp2
 go_ret
 refine ⟨v2,rfl,?_,zi2 ⟨hnx2.os,hnx2.tape,hnx2.output,hnx2.size,fun i hi _=>hnx2.block i hi⟩ hgrow (AtB.refl _ _),(AtB.refl w sv).trans hat hsz2⟩
 rw [Lib.decDigits_length]
 exact hown'
theorem zuF (L:LaysM.n288 P ρ) (B n u:Nat) (hu64:u < 18446744073709551616) (sv:Value) (xs:List Value) (w:World) (hown:w.ownsRow B (ρ.t 5) 1 sv n xs) (hBw:B <= w.heap.size) (hlim:n + 20 <= 140737488355328)
  (htab : Lib.TabIs P w "internal/strconv.uint64pow10" .u64 Lib.pow10Tab) :
  Calls P (ρ.f 288) #[sv,.int .u64 u,.int .i64 10] w fun e w'=>∃ v',e = .returned v'/\w'.ownsRow B (ρ.t 5) 1 v' (n + (Lib.decDigits u).length) (xs++Lib.byteCells (Lib.decDigits u))/\w.grownBy w' sv.ownBlock/\AtB w sv v':=by
 by_cases h:u < 100
 ·exact zpX { L with } B n u h sv xs w hown hBw hlim
 ·exact zuE { L with } B n u (by omega) hu64 sv xs w hown hBw hlim htab
set_option maxHeartbeats 6400000 in
set_option maxRecDepth 100000 in
theorem zvJ (L:LaysM.n249 P ρ) (B n u:Nat) (h1:u < 9223372036854775808) (sv:Value) (xs:List Value) (w:World) (hown:w.ownsRow B (ρ.t 5) 1 sv n xs) (hBw:B <= w.heap.size) (hlim:n + 21 <= 140737488355328)
  (htab : Lib.TabIs P w "internal/strconv.uint64pow10" .u64 Lib.pow10Tab) :
  Calls P (ρ.f 249) #[sv,.int .i64 (u:Int),.int .i64 10] w fun e w'=>∃ v',e = .returned v'/\w'.ownsRow B (ρ.t 5) 1 v' (n + (Lib.decDigits u).length) (xs++Lib.byteCells (Lib.decDigits u))/\w.grownBy w' sv.ownBlock/\AtB w sv v':=by
 have mixed:=L.mixed
 have t5:=L.t5; have a5:=L.a5; have z5:=L.z5; have v5:=L.v5
 have t37:=L.t37; have u37:=run_underlying L.t37; have a37:=L.a37; have z37:=L.z37; have v37:=L.v37
 have t2:=L.t2; have a2:=L.a2; have z2:=L.z2; have v2:=L.v2
 have t3:=L.t3; have a3:=L.a3; have z3:=L.z3; have v3:=L.v3
 have t53:=L.t53; have a53:=L.a53; have z53:=L.z53; have v53:=L.v53
 have t4:=L.t4; have a4:=L.a4; have z4:=L.z4; have v4:=L.v4
 have e288:∀ args w,(callFunc (ρ.f 288) args).run P w = .ok (.enter (ρ.f 288) args) w:=enters_of L.f288 (by kernel_rfl) rfl
 have hu64:u < 18446744073709551616:=by omega
 have h0:(0:Int) <= (u:Int):=by omega
 have h9:(u:Int) <= 9223372036854775807:=by omega
 go_enter L.f249,Body.n249_ntmps ρ
 go_wp2_with (go_at_fn (ρ.f 288); refine (zuF { L with } B n u hu64 sv xs w hown hBw (by omega) htab).mono ?_; rintro e w2 ⟨v2,rfl,hown2,hnx2,hok2⟩)
 go_wp2
 first | go_ret | go_ret2
 exact ⟨v2,rfl,hown2,hnx2,hok2⟩
set_option maxHeartbeats 6400000 in
set_option maxRecDepth 100000 in
theorem appendInt (L:LaysM.n176 P ρ) (B n u:Nat) (h1:u < 9223372036854775808) (sv:Value) (xs:List Value) (w:World) (hown:w.ownsRow B (ρ.t 5) 1 sv n xs) (hBw:B <= w.heap.size) (hlim:n + 21 <= 140737488355328)
  (htab : Lib.TabIs P w "internal/strconv.uint64pow10" .u64 Lib.pow10Tab) :
  Calls P (ρ.f 176) #[sv,.int .i64 (u:Int),.int .i64 10] w fun e w'=>∃ v',e = .returned v'/\w'.ownsRow B (ρ.t 5) 1 v' (n + (Lib.decDigits u).length) (xs++Lib.byteCells (Lib.decDigits u))/\w.grownBy w' sv.ownBlock/\AtB w sv v':=by
 have mixed:=L.mixed
 have t5:=L.t5; have a5:=L.a5; have z5:=L.z5; have v5:=L.v5
 have t37:=L.t37; have u37:=run_underlying L.t37; have a37:=L.a37; have z37:=L.z37; have v37:=L.v37
 have t2:=L.t2; have a2:=L.a2; have z2:=L.z2; have v2:=L.v2
 have t3:=L.t3; have a3:=L.a3; have z3:=L.z3; have v3:=L.v3
 have e249:∀ args w,(callFunc (ρ.f 249) args).run P w = .ok (.enter (ρ.f 249) args) w:=enters_of L.f249 (by kernel_rfl) rfl
 go_enter L.f176,Body.n176_ntmps ρ
 go_wp2_with (go_at_fn (ρ.f 249); refine (zvJ { L with } B n u h1 sv xs w hown hBw hlim htab).mono ?_; rintro e w2 ⟨v2,rfl,hown2,hnx2,hok2⟩)
 go_wp2
 go_ret
 exact ⟨v2,rfl,hown2,hnx2,hok2⟩
end Go.App
namespace Go.X
open Go.Eng Go.RowKit Go.Proofs Go.Shelf Go.Lib Go.Sort
variable {P:Program} {ρ:Ren}
def bytesV (l:List Int):List V:=l.map fun x=>V.int .u8 x
def Zg (l:List Int):List Value:=l.map fun x=>Value.int .u8 x
theorem RL_bytes (E:Env):∀ l:List Int,RL E (bytesV l) (Zg l)
 | []=>by simp [bytesV,Zg,RL]
 | x :: l=>by
  simp only [bytesV,Zg,List.map_cons,RL]
  exact ⟨_,_,rfl,by simp [R],RL_bytes E l⟩
theorem zfO {E:Env}:∀ {l:List Int} {ys:List Value},RL E (bytesV l) ys->ys = Zg l
 | [],ys,h=>by simpa [bytesV,Zg,RL] using h
 | x :: l,ys,h=>by
  simp only [bytesV,List.map_cons,RL] at h
  obtain ⟨y,ys',rfl,h1,h2⟩:=h
  simp only [R] at h1
  rw [zfO (l:=l) h2,h1]
  rfl
theorem flatC_bytes (l:List Int):zm (Zg l) = Zg l:=by
 unfold zm Zg
 induction l with
 | nil=>rfl
 | cons x l ih =>
  simp only [List.map_cons,List.flatMap_cons,ih]
  simp [Value.cells]
theorem zdb {l:List Int} {y:Value} (h:y ∈ Zg l):y.cells.size = 1/\y.oneCell' = true:=by
 obtain ⟨x,_,rfl⟩:=List.mem_map.1 h
 exact ⟨rfl,rfl⟩
theorem zvK {w:World} {pr:Nat->Nat->Prop} {lam:Nat->Option Nat} {M:Nat->Prop} {e:TypeId} (hsz:sizeT P e = some 1) {l:List Int} (hpos:0 < l.length) {x:Value} (hR:R ⟨w,pr,lam⟩ (.list (bytesV l)) x)
  (hown:Own P M ⟨w,pr,lam⟩ 0 e x):∃ g cap,x = .slice (some ⟨g,0,none⟩) l.length cap/\zJ 0 x = some g/\w.ownsRow g e 1 x l.length (Zg l)/\g < w.heap.size:=by
 simp only [R] at hR
 obtain ⟨base,c,rfl,hle,hm,hrow⟩:=hR
 have hlen:(bytesV l).length = l.length:=by simp [bytesV]
 rw [hlen] at hle hown ⊢
 rcases hrow with ⟨_,h⟩ | ⟨g,o,k,rfl,hb⟩
 ·omega
 have hgb:zJ 0 (.slice (some ⟨g,o,none⟩) l.length c) = some g:=by
  unfold zJ
  simp
  omega
 obtain ⟨_,n',cap',cur,sz',q1,q2,q3,q4,q5⟩:=hown g hgb
 simp only [Value.slice.injEq,Option.some.injEq,Addr.mk.injEq] at q1
 obtain ⟨⟨_,rfl,_⟩,rfl,rfl⟩:=q1
 have hss:sz' = 1:=by
  have:sizeT P e = some sz':=q3
  rw [hsz] at this; cases this; rfl
 subst hss
 change w.heap[g]? = some (.cells cur e (0,0)) at q2
 obtain ⟨ys,y1,y2,y3⟩:=hb.vals
 have hy:=zfO y1
 subst hy
 have y2':∀ y ∈ Zg l,y.cells.size = 1:=fun y hy=>(zdb hy).1
 have hcur:=zrR q2 y2' y3
 rw [flatC_bytes,show (Zg l).length = l.length from by simp [Zg]] at hcur
 refine ⟨g,_,rfl,hgb,⟨by simp [Zg],.inr ⟨g,_,cur,rfl,Nat.le_refl _,q2,hle,hm,q4,hcur.symm⟩⟩,(Array.getElem?_eq_some_iff.1 q2).1⟩
theorem zvL {w w':World} {pr:Nat->Nat->Prop} {lam:Nat->Option Nat} {hb:Option Nat} {B:Nat} {e:TypeId} (hsz:sizeT P e = some 1) {l:List Int} (hpos:0 < l.length) {v:Value} {n:Nat} (hn:n = l.length)
  (hlt:∀ b o,pr b o->b < w.heap.size) (hown:w'.ownsRow B e 1 v n (Zg l)) (hat:∀ g,v.ownBlock = some g->w.heap.size <= g ∨ hb = some g) (hg:w.grownBy w' hb) (hd:DLE w w') :
  ∃ v' pr',Ending.returned v = .returned v'/\R ⟨w',pr',lam⟩ (.list (bytesV l)) v'/\zdo w' pr' lam []/\zp4 w pr lam hb w' pr'/\Own P (fun g=>w.heap.size <= g ∨ hb = some g) ⟨w',pr',lam⟩ 0 e v':=by
 subst hn
 obtain ⟨hl,⟨_,h0⟩ | ⟨g',cap',cur',rfl,_,h',hle,hm,hcs,hcells⟩⟩:=hown
 ·omega
 have hg':=hat g' rfl
 have hlen':(bytesV l).length = l.length:=by simp [bytesV]
 refine ⟨_,fun b o=>(pr b o/\hb ≠ some b) ∨ (b = g'/\o < l.length),rfl,?_,fun i B h=>by simp at h,⟨hg.os,hg.tape,hg.output,hd,hg.size,fun k hk _ hh=>hg.block k hk (fun e=>hh e.symm),fun b o h hh=>.inl ⟨h,hh⟩,fun b o h=>?_⟩,fun g hg=>?_⟩
 ·simp only [R]
  refine ⟨some ⟨g',0,none⟩,cap',by rw [hlen'],by rw [hlen']; exact hle,hm,.inr ⟨g',0,1,rfl,RR.of_vals (ys:=Zg l) (RL_bytes _ l) (fun y hy=>(zdb hy).1) fun j z hz=>?_⟩⟩
  rw [flatC_bytes] at hz
  have hz':=hz
  rw [<- hcells,List.getElem?_take] at hz'
  split at hz'
  ·rename_i hj
   refine ⟨⟨?_,.inr ⟨rfl,by omega⟩⟩,(zdb (List.mem_of_getElem? hz)).2⟩
   change w'.cell? ⟨g',0 + j,none⟩ = some z
   rw [zqO h',Nat.zero_add,<- Array.getElem?_toList]
   exact hz'
  ·cases hz'
 ·rcases h with ⟨h1,h2⟩ | ⟨rfl,_⟩
  ·exact .inl ⟨h1,h2⟩
  ·rcases hg' with q | q
   ·exact .inr (.inl ⟨q,(Array.getElem?_eq_some_iff.1 h').1⟩)
   ·exact .inr (.inr q)
 ·have hgg:g = g':=by
   simp only [zJ] at hg
   rw [if_pos (.inl ⟨trivial,by omega⟩)] at hg
   cases hg; rfl
  subst hgg
  refine ⟨hg',_,_,cur',1,rfl,h',hsz,hcs,fun o ho hp=>?_⟩
  rcases hp with ⟨h1,h2⟩ | ⟨_,h2⟩
  ·rcases hg' with q | q
   ·have:=hlt _ _ h1; omega
   ·exact h2 q
  ·omega
def zee (u:Nat):List Int:=(Lib.decDigits u).map fun d=>(d.toNat:Int)
def znK (l:List Int) (i b:Int):Option (List Int):=if b = 10/\0 <= i/\i < 9223372036854775808/\1 <= l.length/\l.length + 21 <= 140737488355328 then some (l++zee i.toNat) else none
theorem zi3 (l:List Int) (u:Nat):Zg l++Lib.byteCells (Lib.decDigits u) = Zg (l++zee u):=by
 simp [Zg,zee,Lib.byteCells]
theorem zuG (L : LaysM.n176 P ρ) (hsz : sizeT P (ρ.t 5) = some 1) (hT : ∀ w pr, HL w pr -> Lib.TabIs P w "internal/strconv.uint64pow10" .u64 Lib.pow10Tab) (hD : ∀ w w' : World, DLE w w') (l : List Int) (u : Nat) (h1 : u < 9223372036854775808) (hpos : 0 < l.length) (hlim : l.length + 21 <= 140737488355328) :
  FnM P (ρ.f 176) [.list (bytesV l),.int .i64 u,.int .i64 10] [] 0 (ρ.t 5) (.list (bytesV (l++zee u))) []:=by
 intro w pr lam cargs hl hown hargs hoth hins hinj hlam
 simp only [RL] at hargs
 obtain ⟨x0,ys0,hc,hR0,x1,ys1,rfl,hR1,x2,ys2,rfl,hR2,rfl⟩:=hargs
 have hca:cargs = #[x0,x1,x2]:=by rw [<- Array.toList_inj]; simpa using hc
 subst hca
 have hx0:(#[x0,x1,x2]:Array Value).getD 0 undef = x0:=rfl
 rw [hx0] at hown ⊢
 simp only [R] at hR1 hR2
 subst hR1
 subst hR2
 obtain ⟨g,cap,rfl,hgb,hor,hgw⟩:=zvK (P:=P) hsz hpos hR0 hown
 refine (App.appendInt L g l.length u h1 _ (Zg l) w hor (Nat.le_of_lt hgw) hlim (hT w pr hl)).mono ?_
 rintro en w' ⟨v',rfl,ho,hg,ha⟩
 rw [hgb]
 rw [zi3] at ho
 exact zvL hsz (by simp; omega) (by simp [zee]) hl.lt ho (fun g' hg'=>ha g' hg') hg (hD _ _)
noncomputable def zvM (L : LaysM.n176 P ρ) (hgo : zbH P (ρ.f 176) = true) (hsz : sizeT P (ρ.t 5) = some 1) (hT : ∀ w pr, HL w pr -> Lib.TabIs P w "internal/strconv.uint64pow10" .u64 Lib.pow10Tab) (hD : ∀ w w' : World, DLE w w') : ziR P where
 f:=ρ.f 176
 p:=0
 c:=.u8
 e:=ρ.t 5
 run:=fun args ins K=>match args,ins with
  | [.lst .u8 l,.int .i64 i,.int .i64 b],[]=>some ((znK l i b).bind fun l'=>K l' [])
  | _,_=>none
 sound:=by
  intro β args ins K r h
  split at h
  ·rename_i l i b
   simp only [Option.some.injEq] at h
   obtain ⟨l',h1,h2⟩:=bind_some h
   refine ⟨l',[],h2,hgo,?_,by simp,rfl⟩
   unfold znK at h1
   split at h1
   ·rename_i hc
    simp only [Option.some.injEq] at h1
    subst h1
    obtain ⟨rfl,h0,h9,hp,hlm⟩:=hc
    have hi:i = (i.toNat:Int):=by omega
    have hF:=zuG L hsz hT hD l i.toNat (by omega) (by omega) hlm
    rw [<- hi] at hF
    exact hF
   ·cases h1
  ·cases h
end Go.X
namespace Go.Proofs.YtgpccllhdcggdaaGreatDoor
open Go.X Go.Eng
noncomputable def appendI.mu:ziR Tryz.prog:=zvM (P:=Tryz.prog) (ρ:=Tryz.appI_ren) Tryz.appI (by kernel_rfl) (by kernel_rfl) zil (fun _ _=>trivial)
end Go.Proofs.YtgpccllhdcggdaaGreatDoor
