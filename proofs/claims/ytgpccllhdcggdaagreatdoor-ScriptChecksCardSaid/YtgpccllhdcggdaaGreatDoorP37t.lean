import Derived.Test.YtgpccllhdcggdaaGreatDoorXGSo
open List renaming mem_of_getElem? -> zyu
open List renaming mem_singleton -> zyv
open List renaming mem_cons_self -> zyw
open List renaming mem_cons_of_mem -> zyx
open List renaming length_cons -> zyy
open List renaming not_mem_nil -> zyz
open List renaming mem_cons -> zyB
open List renaming length_nil -> zyC
open Classical renaming byContradiction -> zyH
open Bool renaming and_eq_true -> zyL
open Option renaming bind_some -> zyP
open List renaming length_append -> zyQ
set_option linter.unusedSimpArgs false
set_option linter.unusedVariables false
noncomputable section
namespace Go.Proofs.YtgpccllhdcggdaaGreatDoor
open Go Go.Eng Go.X
def zbI:List Use:=[⟨[],false,false,0,0,0,0,false⟩,
 ⟨[115,117,98,109,105,116],true,false,0,(-1),(-1),(-1),true⟩,
 ⟨[111,112,101,110],true,true,0,(-1),(-1),(-1),false⟩,
 ⟨[99,108,111,115,101],true,true,0,(-1),(-1),(-1),false⟩,
 ⟨[116,105,99,107],false,false,1,1000,(-1),(-1),false⟩,
 ⟨[100,101,108,105,118,101,114],true,true,0,63,(-1),(-1),false⟩,
 ⟨[108,111,115,101],true,true,0,63,(-1),(-1),false⟩,
 ⟨[100,111,117,98,108,101],true,true,0,63,(-1),(-1),false⟩,
 ⟨[115,119,97,112],true,true,0,63,63,(-1),false⟩,
 ⟨[115,112,111,105,108],true,true,0,63,1199,255,false⟩,
 ⟨[99,117,116],true,true,0,63,1199,(-1),false⟩,
 ⟨[99,114,97,115,104],true,false,0,(-1),(-1),(-1),false⟩,
 ⟨[116,114,105,112],true,false,0,1000,262144,(-1),false⟩,
 ⟨[114,101,115,116,97,114,116],true,false,0,(-1),(-1),(-1),false⟩,
 ⟨[100,114,97,105,110],false,false,1,1000,(-1),(-1),false⟩]
theorem zu3:((List.range 15).all fun k=>decide (znu .Use 0 (0 + k * 8) 8 = some (zbI.getD k default))) = true:=by kernel_rfl
theorem zsm (k:Nat) (hk:k < 15):znu .Use 0 (0 + k * 8) 8 = some (zbI.getD k default):=of_decide_eq_true (List.all_eq_true.1 zu3 k (List.mem_range.2 hk))
open Go.X Go.Eng
def Z1 (d:ID):Prop:=1 <= d.Node/\d.Node <= 16/\d.Seq <= 1099511627776/\0 <= d.Off/\d.Off <= 19999
theorem zme (l:List W3) (hl:l.length <= 100):W (yP l) fun r=>(r = true/\∀ x ∈ l,x.b <= x.a/\x.a <= x.c) ∨ (r = false/\¬ ∀ x ∈ l,x.b <= x.a/\x.a <= x.c):=by
 unfold yP
 refine qx (fun i:Int=>0 <= i/\i <= (l.length:Int)/\∀ x ∈ l.take i.toNat,x.b <= x.a/\x.a <= x.c) (fun i=>l.length - i.toNat) ?_ ⟨by omega,by omega,by simp⟩
 intro i hi
 refine zj (fun h=>?_) fun h=>?_
 ·refine yS (by omega) (by omega) fun x hx=>?_
  have hm:=zyu hx
  refine zj (fun h=>zr (zc (.inr ⟨rfl,fun q=>?_⟩))) fun h=>?_
  ·have:=q x hm; omega
  refine zj (fun h=>zr (zc (.inr ⟨rfl,fun q=>?_⟩))) fun h2=>?_
  ·have:=q x hm; omega
  refine qA fun j hj=>yb ⟨⟨by omega,by omega,fun y hy=>?_⟩,by omega⟩
  rw [show j.toNat = i.toNat + 1 from by omega,List.take_add_one,hx] at hy
  rcases List.mem_append.1 hy with hy | hy
  ·exact hi.2.2 y hy
  ·simp at hy; subst hy; omega
 ·refine zr (zc (.inl ⟨rfl,?_⟩))
  have:=hi.2.2
  rwa [List.take_of_length_le (by omega)] at this
theorem zjc (d:ID):W (yi d) fun r=>(r = 0/\Z1 d) ∨ (r = 2/\¬ Z1 d):=by
 unfold yi
 refine zl (zme _ (by simp)) fun r hr=>?_
 rcases hr with ⟨rfl,hr⟩ | ⟨rfl,hr⟩
 ·have h1:=hr ⟨d.Node,1,16⟩ (by simp)
  have h2:=hr ⟨d.Off,0,19999⟩ (by simp)
  dsimp only at h1 h2
  refine Qj (znM ?_)
  refine zj (fun h=>zc (.inr ⟨rfl,fun k=>?_⟩)) fun h=>zc (.inl ⟨rfl,?_⟩)
  ·unfold Z1 at k; omega
  ·unfold Z1; omega
 ·refine Qj (znN (zc (.inr ⟨rfl,fun k=>hr fun x hx=>?_⟩)))
  unfold Z1 at k
  simp at hx
  rcases hx with rfl | rfl
  ·dsimp only; omega
  ·dsimp only; omega
theorem zgR (d:ID):W (zG d) fun r=>(r = 0/\Z1 d) ∨ (r = 2/\¬ Z1 d):=by
 unfold zG
 have no:¬ Z1 d->W (some (2:Int)) fun r=>(r = 0/\Z1 d) ∨ (r = 2/\¬ Z1 d):=fun h=>zc (.inr ⟨rfl,h⟩)
 refine zj (fun h=>no fun k=>by unfold Z1 at k; omega) fun q1=>?_
 refine zj (fun h=>no fun k=>by unfold Z1 at k; omega) fun q2=>?_
 refine zj (fun h=>no fun k=>by unfold Z1 at k; omega) fun q3=>?_
 refine zj (fun h=>no fun k=>by unfold Z1 at k; omega) fun q4=>?_
 refine zj (fun h=>no fun k=>by unfold Z1 at k; omega) fun q5=>?_
 exact zc (.inl ⟨rfl,by unfold Z1; omega⟩)
open Go Go.X Go.Eng Go.RowKit
def okF (b:Bundle):Prop:=(1 <= b.Dest/\b.Dest <= 16)/\(0 <= b.Prio/\b.Prio <= 2)/\(0 <= b.Born/\b.Born <= 1099511627776)/\(1 <= b.Life/\b.Life <= 1048576)/\(1 <= b.Total/\b.Total <= 20000)
open Classical in
def chkF (b:Bundle):Int:=if ¬ Z1 b.ID then 2 else if ¬ okF b then 2 else if b.Data.length = 0 then 11 else if 1000 < b.Data.length then 4 else if b.Total < b.ID.Off + b.Data.length then 12 else 0
theorem zsn (b:Bundle):W (qp b) fun r=>r = chkF b:=by
 unfold qp
 refine zl (zjc b.ID) fun r hr=>?_
 rcases hr with ⟨rfl,hid⟩ | ⟨rfl,hid⟩
 ·rw [if_neg (by decide)]
  refine zl (zme _ (by simp [zqQ])) fun ok ho=>?_
  have hof:(∀ x ∈ zqQ b.Dest b.Prio b.Born b.Life b.Total,x.b <= x.a/\x.a <= x.c) ↔ okF b:=by
   simp [zqQ,okF]
  rcases ho with ⟨rfl,ho⟩ | ⟨rfl,ho⟩
  ·have hf:=hof.1 ho
   rw [if_neg (by decide)]
   have e0:chkF b = if b.Data.length = 0 then 11 else if 1000 < b.Data.length then 4 else if b.Total < b.ID.Off + b.Data.length then 12 else 0:=by
    unfold chkF
    rw [if_neg (fun k=>k hid),if_neg (fun k=>k hf)]
   unfold Z1 at hid
   unfold okF at hf
   rw [e0]
   by_cases hz:b.Data.length = 0
   ·rw [if_pos hz,if_pos hz]; exact zc rfl
   ·rw [if_neg hz,if_neg hz]
    by_cases hg:1000 < b.Data.length
    ·rw [if_pos hg,if_pos hg]; exact zc rfl
    ·rw [if_neg hg,if_neg hg]
     have hw:wrap64 (b.Total - b.Data.length) = b.Total - b.Data.length:=IntWalk.wrap64_in _ (by omega)
     rw [hw]
     by_cases hq:b.Total - b.Data.length < b.ID.Off
     ·rw [if_pos hq,if_pos (by omega)]; exact zc rfl
     ·rw [if_neg hq,if_neg (by omega)]; exact zc rfl
  ·rw [if_pos rfl]
   refine zc ?_
   unfold chkF
   rw [if_neg (fun h=>h hid),if_pos (fun h=>ho (hof.2 h))]
 ·rw [if_pos (by decide)]
  refine zc ?_
  unfold chkF
  rw [if_pos hid]
theorem zso (b:Bundle):W (yn b) fun r=>r = chkF b:=by
 unfold yn
 refine zl (zgR b.ID) fun r hr=>?_
 rcases hr with ⟨rfl,hid⟩ | ⟨rfl,hid⟩
 ·refine yX (fun h=>by simp at h) fun _=>?_
  have no:¬ okF b->W (some (2:Int)) fun r=>r = chkF b:=fun h=>zc (by unfold chkF; rw [if_neg (fun k=>k hid),if_pos h])
  refine zj (fun h=>no fun k=>by unfold okF at k; omega) fun q1=>?_
  refine zj (fun h=>no fun k=>by unfold okF at k; omega) fun q2=>?_
  refine zj (fun h=>no fun k=>by unfold okF at k; omega) fun q3=>?_
  refine zj (fun h=>no fun k=>by unfold okF at k; omega) fun q4=>?_
  refine zj (fun h=>no fun k=>by unfold okF at k; omega) fun q5=>?_
  refine zj (fun h=>no fun k=>by unfold okF at k; omega) fun q6=>?_
  refine zj (fun h=>no fun k=>by unfold okF at k; omega) fun q7=>?_
  refine zj (fun h=>no fun k=>by unfold okF at k; omega) fun q8=>?_
  refine zj (fun h=>no fun k=>by unfold okF at k; omega) fun q9=>?_
  refine zj (fun h=>no fun k=>by unfold okF at k; omega) fun q10=>?_
  have hf:okF b:=by unfold okF; omega
  unfold Z1 at hid
  have e0:chkF b = if b.Data.length = 0 then 11 else if 1000 < b.Data.length then 4 else if b.Total < b.ID.Off + b.Data.length then 12 else 0:=by
   unfold chkF
   rw [if_neg (fun k=>k hid),if_neg (fun k=>k hf)]
  rw [e0]
  refine zj (fun h=>zc (by rw [if_pos (by omega)])) fun h1=>?_
  rw [if_neg (by omega)]
  refine zj (fun h=>zc (by rw [if_pos (by omega)])) fun h2=>?_
  rw [if_neg (by omega)]
  refine qA fun j hj=>?_
  refine zj (fun h=>zc (by rw [if_pos (by omega)])) fun h3=>zc (by rw [if_neg (by omega)])
 ·refine yX (fun _=>zc ?_) fun h=>by simp at h
  unfold chkF
  rw [if_pos hid]
open Go Go.X Go.Eng Go.RowKit
theorem zqY (n:Int):yY n = some (decide (1 <= n/\n <= 16)):=by
 unfold yY
 by_cases h:1 <= n <;> by_cases k:n <= 16 <;> simp [br,h,k]
theorem zod (x lo hi:Int):yQ (x,lo,hi) = some (decide (hi < 0 ∨ (lo <= x/\x <= hi))):=by
 show br (decide (hi < 0)) (some true) (br (decide (lo <= x)) (some (decide (x <= hi))) (some false)) = _
 by_cases h:hi < 0 <;> by_cases k:lo <= x <;> by_cases q:x <= hi <;> simp [br,h,k,q]
theorem zu4 (s:Script):W (yl s) fun r=>r = false->s.Configs.length <= 18/\s.Plan.length <= 205/\s.Commands.length <= 405:=by
 unfold yl
 have fin:¬ (18:Int) < (s.Configs.length:Int)->¬ (205:Int) < (s.Plan.length:Int)->W (some (decide ((405:Int) < (s.Commands.length:Int)))) fun r=>r = false->s.Configs.length <= 18/\s.Plan.length <= 205/\s.Commands.length <= 405:=fun h h'=>zc fun k=>by
  have:=of_decide_eq_false k
  omega
 have tr:W (some true) fun r=>r = false->s.Configs.length <= 18/\s.Plan.length <= 205/\s.Commands.length <= 405:=zc fun k=>by cases k
 refine qx (fun i:Int=>0 <= i/\i <= (s.Commands.length:Int)) (fun i=>s.Commands.length - i.toNat) ?_ ⟨by omega,by omega⟩
 intro i hi
 have rest:W (br (decide ((18:Int) < (s.Configs.length:Int))) (some true)
   (br (decide ((20:Int) < (s.Plan.length:Int)))
    (br (decide ((s.Plan.length:Int) < 199)) (some true)
     (br (decide ((205:Int) < (s.Plan.length:Int))) (some true)
      (br (decide ((40:Int) < (s.Commands.length:Int)))
       (br (decide ((s.Commands.length:Int) < 399)) (some true) (some (decide ((405:Int) < (s.Commands.length:Int)))))
       (some (decide ((405:Int) < (s.Commands.length:Int)))))))
    (br (decide ((205:Int) < (s.Plan.length:Int))) (some true)
     (br (decide ((40:Int) < (s.Commands.length:Int)))
      (br (decide ((s.Commands.length:Int) < 399)) (some true) (some (decide ((405:Int) < (s.Commands.length:Int)))))
      (some (decide ((405:Int) < (s.Commands.length:Int)))))))) fun r=>r = false->s.Configs.length <= 18/\s.Plan.length <= 205/\s.Commands.length <= 405:=by
  refine zj (fun _=>tr) fun h1=>?_
  refine zj (fun _=>?_) fun _=>?_
  ·refine zj (fun _=>tr) fun _=>?_
   refine zj (fun _=>tr) fun h3=>?_
   refine zj (fun _=>?_) fun _=>fin h1 h3
   exact zj (fun _=>tr) fun _=>fin h1 h3
  ·refine zj (fun _=>tr) fun h3=>?_
   refine zj (fun _=>?_) fun _=>fin h1 h3
   exact zj (fun _=>tr) fun _=>fin h1 h3
 refine zj (fun h=>?_) fun h=>?_
 ·refine zj (fun h2=>?_) fun h2=>zr rest
  refine yS (by omega) (by omega) fun x hx=>?_
  refine zj (fun _=>zr tr) fun _=>?_
  exact qA fun j hj=>yb ⟨⟨by omega,by omega⟩,by omega⟩
 ·exact zr rest
open Go Go.X Go.Eng Go.RowKit
def Yw (l:List Config) (n:Int):Prop:=∃ x ∈ l,x.Node = n
theorem zu5 (l:List Config) (hl:l.length <= 1000) (n:Int):W (zI l n) fun r=>r.2 = n/\((0 <= r.1/\Yw l n) ∨ (r.1 = -1/\¬ Yw l n)):=by
 unfold zI
 refine qx (fun s:Int × Int=>s.2 = n/\0 <= s.1/\s.1 <= (l.length:Int)/\∀ x ∈ l.take s.1.toNat,x.Node ≠ n) (fun s=>l.length - s.1.toNat) ?_ ⟨rfl,by omega,by omega,by simp⟩
 rintro ⟨i,m⟩ ⟨hm,hi⟩
 have hm:m = n:=hm
 subst hm
 refine zj (fun h=>?_) fun h=>?_
 ·refine yS (by omega) (by omega) fun x hx=>?_
  have hmem:=zyu hx
  unfold yZ
  refine zxk ?_
  refine yX (fun h=>zr (zc ⟨rfl,.inl ⟨hi.1,x,hmem,by simpa using h⟩⟩)) fun h=>?_
  have hne:x.Node ≠ m:=by simpa using h
  refine qA fun j hj=>yb ⟨⟨rfl,by omega,by omega,fun y hy=>?_⟩,by dsimp only; omega⟩
  rw [show (j,m).1.toNat = i.toNat + 1 from by dsimp only; omega,List.take_add_one,hx] at hy
  rcases List.mem_append.1 hy with hy | hy
  ·exact hi.2.2 y hy
  ·simp at hy; subst hy; exact hne
 ·refine zr (zc ⟨rfl,.inr ⟨rfl,?_⟩⟩)
  rintro ⟨x,hx,hn⟩
  have h3:=hi.2.2
  dsimp only at h3 hi
  rw [List.take_of_length_le (by omega)] at h3
  exact h3 x hx hn
theorem zoe (l:List Config) (hl:l.length <= 1000) (n:Int):W (zx l n) fun r=>r.2 = n/\((r.1 = true/\Yw l n) ∨ (r.1 = false/\¬ Yw l n)):=by
 unfold zx
 refine zl (zu5 l hl n) fun r hr=>?_
 obtain ⟨a,b⟩:=r
 obtain ⟨h1,h2 | h2⟩:=hr
 ·exact zc ⟨h1,.inl ⟨decide_eq_true h2.1,h2.2⟩⟩
 ·refine zc ⟨h1,.inr ⟨decide_eq_false ?_,h2.2⟩⟩
  have:=h2.1
  dsimp only at this
  omega
open Go Go.X Go.Eng Go.RowKit
theorem zu6 (s:Script) (hl:s.Configs.length <= 1000) (n:Int):W (zA (s,n)) fun r=>(r = true/\Yw s.Configs n) ∨ (r = false/\¬ Yw s.Configs n):=by
 unfold zA
 refine qx (fun i:Int=>0 <= i/\i <= (s.Configs.length:Int)/\∀ x ∈ s.Configs.take i.toNat,x.Node ≠ n) (fun i=>s.Configs.length - i.toNat) ?_ ⟨by omega,by omega,by simp⟩
 intro i hi
 refine zj (fun h=>?_) fun h=>?_
 ·refine yS (by omega) (by omega) fun x hx=>?_
  have hmem:=zyu hx
  refine yX (fun h=>zr (zc (.inl ⟨rfl,x,hmem,by simpa using h⟩))) fun h=>?_
  have hne:x.Node ≠ n:=by simpa using h
  refine qA fun j hj=>yb ⟨⟨by omega,by omega,fun y hy=>?_⟩,by omega⟩
  rw [show j.toNat = i.toNat + 1 from by omega,List.take_add_one,hx] at hy
  rcases List.mem_append.1 hy with hy | hy
  ·exact hi.2.2 y hy
  ·simp at hy; subst hy; exact hne
 ·refine zr (zc (.inr ⟨rfl,?_⟩))
  rintro ⟨x,hx,hn⟩
  have h3:=hi.2.2
  rw [List.take_of_length_le (by omega)] at h3
  exact h3 x hx hn
open Go Go.Eng Go.RowKit Go.X
def plainI (c:Int):Bool:=decide (32 < c) && decide (c < 127) && !decide (c = 34) && !decide (c = 61) && !decide (c = 92)
theorem zxr {x:UInt8} {n:Nat} (hn:n < 256) (h:¬ x = UInt8.ofNat n):¬ ((x.toNat:Int) = (n:Int)):=by
 intro k
 apply h
 have:x.toNat = n:=by omega
 rw [<- this]; simp
theorem zmf (c:Int):qH c = some (plainI c):=by
 unfold qH plainI
 by_cases h1:c = 34
 ·subst h1; rfl
 by_cases h2:c = 61
 ·subst h2; rfl
 by_cases h3:c = 92
 ·subst h3; rfl
 have e1:(c == (34:Int)) = false:=beq_eq_false_iff_ne.2 h1
 have e2:(c == (61:Int)) = false:=beq_eq_false_iff_ne.2 h2
 have e3:(c == (92:Int)) = false:=beq_eq_false_iff_ne.2 h3
 rw [e1,e2,e3,decide_eq_false h1,decide_eq_false h2,decide_eq_false h3]
 by_cases h4:32 < c
 ·rw [decide_eq_true h4]; simp [br]
 ·rw [decide_eq_false h4]; simp [br]
def zbp (l:List UInt8):Bool:=(l.all fun c=>plainI (c.toNat:Int)) && !decide (l = []) && !decide (l.head? = some 35)
theorem zjd {s:List UInt8} (hs:s.length <= 1000000) (F:Int->Option (zcy Int (Bool ⊕ Unit)))
  (hF:∀ i:Nat,F (i:Int) = br (decide ((i:Int) < (s.length:Int))) ((idx (zY s) (i:Int)).bind fun x_3=>(qH x_3).bind fun x_4=>br (!x_4) (some (.done (.inl false))) ((yj .i64 (i:Int) (1:Int)).bind fun x_5=>some (.next x_5))) (some (.done (.inr ())))) :
  ∀ (k i:Nat),i + k = s.length->qQ F (i:Int) = some (if (s.drop i).all (fun c=>plainI (c.toNat:Int)) then .inr () else .inl false)
 | 0,i,hi=>by
  rw [zgt,hF,decide_eq_false (by omega)]
  rw [List.drop_eq_nil_of_le (by omega)]
  rfl
 | k + 1,i,hi=>by
  have hlt:i < s.length:=by omega
  have hidx:idx (zY s) (i:Int) = some ((s[i].toNat:Int)):=by
   unfold idx zY
   simp [hlt]
  have hadd:yj .i64 (i:Int) (1:Int) = some (((i + 1:Nat)):Int):=by
   unfold yj
   have hin:InR .i64 ((i:Int) + 1):=IntWalk.i64_in _ (by omega)
   rw [if_pos hin]
   simp
  rw [zgt,hF,decide_eq_true (by omega),hidx]
  simp only [zyP,zmf,br]
  rw [List.drop_eq_getElem_cons hlt,List.all_cons]
  cases hp:plainI (s[i].toNat:Int) with
  | false=>simp
  | true =>
   simp only [Bool.not_true,hadd,zyP,Bool.true_and]
   have:=zjd hs F hF k (i + 1) (by omega)
   simpa using this
theorem zp6 {l:List UInt8} (hl:l.length <= 1000000):qM l = some (zbp l):=by
 unfold qM
 have hlen:(zY l).length = l.length:=by simp [zY]
 rw [hlen]
 have h0:=zjd (s:=l) hl (fun x_2=>br (decide (x_2 < (l.length:Int))) ((idx (zY l) x_2).bind fun x_3=>(qH x_3).bind fun x_4=>br (!x_4) (some (.done (.inl false))) ((yj .i64 x_2 (1:Int)).bind fun x_5=>some (.next x_5))) (some (.done (.inr ())))) (fun i=>rfl) l.length 0 (by omega)
 rw [List.drop_zero] at h0
 simp only [Int.natCast_zero] at h0
 rw [h0]
 simp only [zyP]
 unfold zbp
 cases ha:(l.all fun c=>plainI (c.toNat:Int)) with
 | false=>rfl
 | true =>
  rw [if_pos rfl]
  cases l with
  | nil=>rfl
  | cons x t =>
   show br (!(x :: t == [])) ((za7 (x :: t) 0).bind fun x_7=>some (x_7 != (35:Int))) (some false) = _
   have e1:(x :: t == ([]:List UInt8)) = false:=rfl
   have e2:za7 (x :: t) 0 = some ((x.toNat:Int)):=rfl
   rw [e1,e2]
   simp only [br,Bool.not_false,zyP,List.head?_cons,Bool.true_and,Option.some.injEq,cond_true]
   rw [decide_eq_false (by simp)]
   simp only [Bool.not_false,Bool.true_and]
   by_cases hx:x = 35
   ·subst hx; rfl
   ·have h3:¬ ((x.toNat:Int) = 35):=zxr (n:=35) (by omega) hx
    rw [decide_eq_false hx]
    simpa using h3
theorem zu7 (c:Int):yy c = some (plainI c):=by
 unfold yy plainI
 by_cases h4:32 < c
 ·rw [decide_eq_true h4,decide_eq_true (show (33:Int) <= c by omega)]
  by_cases h5:c < 127
  ·rw [decide_eq_true h5,decide_eq_true (show c <= (126:Int) by omega)]
   by_cases h1:c = 34
   ·subst h1; rfl
   ·by_cases h2:c = 61
    ·subst h2; rfl
    ·have e1:(c != (34:Int)) = true:=bne_iff_ne.2 h1
     have e2:(c != (61:Int)) = true:=bne_iff_ne.2 h2
     rw [e1,e2,decide_eq_false h1,decide_eq_false h2]
     by_cases h3:c = 92
     ·subst h3; rfl
     ·have e3:(c != (92:Int)) = true:=bne_iff_ne.2 h3
      rw [e3,decide_eq_false h3]; rfl
  ·rw [decide_eq_false h5,decide_eq_false (show ¬ c <= (126:Int) by omega)]; rfl
 ·rw [decide_eq_false h4,decide_eq_false (show ¬ (33:Int) <= c by omega)]; rfl
theorem zof (s:List UInt8) (i:Int):idx (zY s) i = za7 s i:=by
 unfold za7 idx zY
 split
 ·simp [List.getElem?_map]
 ·rfl
theorem zmg {l:List UInt8} (hl:l.length <= 1000000):zZ l = qM l:=by
 unfold zZ qM
 have hlen:(zY l).length = l.length:=by simp [zY]
 rw [hlen]
 simp only [zof,zu7,zmf]
theorem zsp {l:List UInt8} (hl:l.length <= 1000000):zZ l = some (zbp l):=by rw [zmg hl,zp6 hl]
theorem YK (s t:List UInt8):zY (s++t) = zY s++zY t:=by simp [zY]
theorem zgS (a:List UInt8):Zz (zY a) = some a:=by
 unfold Zz zY
 rw [if_pos (by
  rw [List.all_eq_true]
  intro x hx
  obtain ⟨b,_,rfl⟩:=List.mem_map.1 hx
  have:=b.toNat_lt
  simp; omega)]
 rw [List.map_map]
 congr 1
 have:((fun n:Int=>UInt8.ofNat n.toNat) ∘ fun b:UInt8=>(b.toNat:Int)) = id:=funext fun b=>by simp
 rw [this,List.map_id]
theorem zu8 {S:List UInt8} {i:Int} {c:UInt8} (h0:0 <= i) (h:S[i.toNat]? = some c):za7 S i = some (c.toNat:Int):=by
 unfold za7 idx; rw [if_pos h0,h]; rfl
theorem zje (c:UInt8):(Yi c).length <= 4:=by
 unfold Yi; split <;> (try split) <;> (try split) <;> simp
theorem zkj:∀ s:List UInt8,(s.flatMap Yi).length <= 4 * s.length
 | []=>by simp
 | c :: s=>by
  have:=zkj s
  have:=zje c
  simp only [List.flatMap_cons,zyQ,zyy]
  omega
def zcL (t:List UInt8) (i:Nat):List Int:=zY (34 :: (t.take i).flatMap Yi)
theorem zqZ {t:List UInt8} {i:Nat} {c:UInt8} (h:t[i]? = some c):zcL t (i + 1) = zcL t i++zY (Yi c):=by
 unfold zcL
 rw [<- YK,List.take_add_one,h]
 simp
theorem zmh (t:List UInt8) (i:Nat):(zcL t i).length <= 1 + 4 * t.length:=by
 unfold zcL
 have h:=zkj (t.take i)
 have h2:(t.take i).length <= t.length:=by simp; omega
 simp only [zY,List.length_map,zyy]
 omega
theorem zp7:∀ k:Nat,k < 16->za7 ([48,49,50,51,52,53,54,55,56,57,97,98,99,100,101,102]:List UInt8) (k:Int) = some (((ziL.getD k 0).toNat:Int)):=by decide
set_option maxHeartbeats 1000000 in
theorem zsq {t:List UInt8} (ht:t.length <= 1000000):W (yo t) fun q=>q = if zbp t = true then t else QM t:=by
 unfold yo
 refine zu (zsp ht) ?_
 refine yX (fun h=>zc (by rw [if_pos h])) fun h=>?_
 refine zl (R:=fun out=>out = zcL t t.length) ?_ ?_
 ·refine zbh (fun s:List Int × Int=>0 <= s.2/\s.2 <= (t.length:Int)/\s.1 = zcL t s.2.toNat) (fun s=>t.length - s.2.toNat) ?_ ⟨Int.le_refl _,by simp,rfl⟩
  rintro ⟨out,i⟩ ⟨h0,h1,ho⟩
  dsimp only at h0 h1 ho ⊢
  subst ho
  have hl:=zmh t i.toNat
  refine zj (fun hi=>?_) fun hi=>zr (by rw [show i.toNat = t.length from by omega])
  have hlt:i.toNat < t.length:=by omega
  have hc:=List.getElem?_eq_getElem hlt
  have hs:=zqZ hc
  generalize t[i.toNat] = c at hc hs
  refine zu (zu8 h0 hc) ?_
  have hc8:=c.toNat_lt
  have fin:∀ m:List Int,m = zY (Yi c)->W ((app 1 (zcL t i.toNat) m).bind fun x=>(yj .i64 i 1).bind fun j=>some (zcy.next (ρ:=List Int) (x,j))) fun r=>match r with | .next s'=>(0 <= s'.2/\s'.2 <= (t.length:Int)/\s'.1 = zcL t s'.2.toNat)/\t.length - s'.2.toNat < t.length - i.toNat | .done r=>r = zcL t t.length:=by
   rintro m rfl
   have h4:=zje c
   refine zin (by simp [zY]; omega) ?_
   refine qA fun j hj=>yb ⟨⟨by dsimp only; omega,by dsimp only; omega,?_⟩,by dsimp only; omega⟩
   dsimp only
   rw [show j.toNat = i.toNat + 1 from by omega,hs]
  have esc1:(c.toNat:Int) = 34 ∨ (c.toNat:Int) = 92->([92,(c.toNat:Int)]:List Int) = zY (Yi c):=by
   intro h
   unfold Yi
   rw [if_neg (by omega),if_pos (by omega)]; rfl
  refine zj (fun h=>(fin [92,_] (esc1 (.inl h))).mono fun r hr=>by cases r <;> exact hr) fun q1=>?_
  refine zj (fun h=>(fin [92,_] (esc1 (.inr h))).mono fun r hr=>by cases r <;> exact hr) fun q2=>?_
  refine zj (fun h=>(fin [92,110] (by unfold Yi; rw [if_pos (by omega)]; rfl)).mono fun r hr=>by cases r <;> exact hr) fun q3=>?_
  have hex:¬ (32 <= c.toNat/\c.toNat < 127)->W ((zbz .u8 (c.toNat:Int) (16:Int)).bind fun x_12=>(za7 ([48,49,50,51,52,53,54,55,56,57,97,98,99,100,101,102]:List UInt8) x_12).bind fun x_13=>(zf6 (c.toNat:Int) (16:Int)).bind fun x_14=>(za7 ([48,49,50,51,52,53,54,55,56,57,97,98,99,100,101,102]:List UInt8) x_14).bind fun x_15=>(app 1 (zcL t i.toNat) ([(92:Int),(120:Int),x_13,x_15]:List Int)).bind fun x_16=>(yj .i64 i (1:Int)).bind fun x_17=>some (zcy.next (ρ:=List Int) (x_16,x_17))) fun r=>match r with | .next s'=>(0 <= s'.2/\s'.2 <= (t.length:Int)/\s'.1 = zcL t s'.2.toNat)/\t.length - s'.2.toNat < t.length - i.toNat | .done r=>r = zcL t t.length:=by
   intro hn
   have e:zbz .u8 (c.toNat:Int) 16 = some ((c.toNat / 16:Nat):Int):=by
    unfold zbz
    rw [Int.tdiv_eq_ediv_of_nonneg (by omega),if_pos]
    ·rfl
    ·refine ⟨by omega,?_⟩
     unfold InR
     rw [IntKind.wrap_u8]; omega
   refine zu e (zu (zp7 _ (by omega)) ?_)
   refine zuQ (by omega) (by omega) ?_
   rintro _ rfl
   refine zu (zp7 (c.toNat % 16) (by omega)) ?_
   exact fin _ (by unfold Yi; rw [if_neg (by omega),if_neg (by omega),if_neg hn]; rfl)
  refine zj (fun h=>(hex (by omega)).mono fun r hr=>by cases r <;> exact hr) fun q4=>?_
  refine zj (fun h=>(hex (by omega)).mono fun r hr=>by cases r <;> exact hr) fun q5=>?_
  exact (fin [_] (by unfold Yi; rw [if_neg (by omega),if_neg (by omega),if_pos (by omega)]; rfl)).mono fun r hr=>by cases r <;> exact hr
 ·rintro out rfl
  have hl:=zmh t t.length
  refine zin (by simp; omega) ?_
  have e:zcL t t.length++[34] = zY (QM t):=by
   unfold zcL QM
   rw [List.take_length,<- List.cons_append,YK]; rfl
  rw [e]
  refine zu (zgS _) (zc ?_)
  rw [if_neg (by simp [h])]
theorem zsr {t:List UInt8} (ht:t.length <= 1000000):qu t = some (if zbp t = true then t else QM t):=by
 unfold qu
 rw [if_pos ht,zp6 ht]
 rfl
def zaM (t:List UInt8):List UInt8:=if zbp t = true then t else QM t
theorem zgT (t:List UInt8):(zaM t).length <= 2 + 4 * t.length:=by
 unfold zaM
 split
 ·omega
 ·have:=zkj t
  unfold QM
  simp only [zyy,zyQ,zyC]
  omega
open Go Go.X Go.Eng Go.RowKit
def isN (n:Int):Prop:=1 <= n/\n <= 16
def wi (x lo hi:Int):Prop:=hi < 0 ∨ (lo <= x/\x <= hi)
def zBB (b:Bundle):Bool:=((b.ID.Node == (0:Int)) && ((b.ID.Seq == (0:Int)) && ((b.ID.Off == (0:Int)) && ((b.Dest == (0:Int)) && ((b.Prio == (0:Int)) && ((b.Born == (0:Int)) && ((b.Life == (0:Int)) && ((b.Total == (0:Int)) && (b.Data == ([]:List UInt8))))))))))
def rg1 (u:Use) (c:Command):Prop:=(u.node = true->isN c.Node)/\(u.other = true->isN c.Other/\c.Other ≠ c.Node)
def rg2 (u:Use) (c:Command):Prop:=wi c.N u.low u.n/\wi c.At 0 u.at_/\wi c.By 1 u.by_
def ms (u:Use) (c:Command) (has:Int->Prop):Prop:=(u.node = true->has c.Node)/\(u.other = true->has c.Other)
def fm (u:Use) (c:Command):Prop:=(u.node = false->c.Node = 0)/\(u.other = false->c.Other = 0)/\(u.n < 0->c.N = 0)/\(u.at_ < 0->c.At = 0)/\(u.by_ < 0->c.By = 0)/\(u.bndl = false->zBB c.Bundle = true)
open Classical in
def zdu (u:Use) (c:Command) (has:Int->Prop):Int :=
 if ¬ (rg1 u c/\rg2 u c) then 2 else if ¬ ms u c has then 8 else if ¬ fm u c then 3 else if u.bndl = true then chkF c.Bundle else 0
def Y3 (c:Command):Use:=zbI.getD c.Kind.toNat default
open Classical in
def YP (c:Command) (has:Int->Prop):Int:=if 1 <= c.Kind/\c.Kind <= 14 then zdu (Y3 c) c has else 7
theorem zwk (c:Command):W (br (decide (c.Kind < (1:Int))) (some true) (some (decide ((14:Int) < c.Kind)))) fun b=>b = true ↔ ¬ (1 <= c.Kind/\c.Kind <= 14):=by
 refine zj (fun h=>zc ⟨fun _=>by omega,fun _=>rfl⟩) fun h=>zc ?_
 rw [decide_eq_true_iff]; omega
theorem zxs (u:Use) (c:Command):W ((br u.node ((yY c.Node).bind fun x_4=>some (!x_4)) (some false):Option Bool).bind fun x_5 =>
  br x_5 (some true) (br u.other ((yY c.Other).bind fun x_6=>br (!x_6) (some true) (some (c.Other == c.Node))) (some false))) fun b=>b = true ↔ ¬ rg1 u c:=by
 simp only [zqY,zyP]
 unfold rg1 isN
 cases u.node <;> cases u.other <;> by_cases h1:1 <= c.Node/\c.Node <= 16 <;> by_cases h2:1 <= c.Other/\c.Other <= 16 <;> by_cases h3:c.Other = c.Node <;> simp [br,h1,h2,h3,W]
theorem zxt (u:Use) (c:Command):W ((yQ (c.N,u.low,u.n)).bind fun x_8=>br (!x_8) (some true) ((yQ (c.At,(0:Int),u.at_)).bind fun x_9=>br (!x_9) (some true) ((yQ (c.By,(1:Int),u.by_)).bind fun x_10=>some (!x_10)))) fun b=>b = true ↔ ¬ rg2 u c:=by
 simp only [zod,zyP]
 unfold rg2 wi
 by_cases h1:u.n < 0 ∨ (u.low <= c.N/\c.N <= u.n) <;> by_cases h2:u.at_ < 0 ∨ (0 <= c.At/\c.At <= u.at_) <;> by_cases h3:u.by_ < 0 ∨ (1 <= c.By/\c.By <= u.by_) <;> simp [br,h1,h2,h3,W]
theorem zx2 (u:Use) (c:Command):W ((br (!u.node) (some (c.Node != (0:Int))) (some false):Option Bool).bind fun x_16=>br x_16 (some true) ((br (!u.other) (some (c.Other != (0:Int))) (some false):Option Bool).bind fun x_17=>br x_17 (some true)
  ((br (decide (u.n < (0:Int))) (some (c.N != (0:Int))) (some false):Option Bool).bind fun x_18=>br x_18 (some true) ((br (decide (u.at_ < (0:Int))) (some (c.At != (0:Int))) (some false):Option Bool).bind fun x_19=>br x_19 (some true)
  ((br (decide (u.by_ < (0:Int))) (some (c.By != (0:Int))) (some false):Option Bool).bind fun x_20=>br x_20 (some true) (br (!u.bndl) (some (!(zBB c.Bundle))) (some false))))))) fun b=>b = true ↔ ¬ fm u c:=by
 unfold fm
 have T:∀ {p:Prop},¬ p->(true = true ↔ ¬ p):=fun h=>⟨fun _=>h,fun _=>rfl⟩
 have one:∀ (g:Bool) (x:Int) (o:Bool),(br g (some (x != 0)) (some false)) = some o->(o = true ↔ g = true/\x ≠ 0):=by
  intro g x o h
  cases g
  ·cases h; simp
  ·cases h; simp
 have ex:∀ (g:Bool) (x:Int),W (br g (some (x != 0)) (some false)) fun o=>o = true ↔ g = true/\x ≠ 0:=by
  intro g x
  cases g
  ·exact ⟨_,rfl,one false x _ rfl⟩
  ·exact ⟨_,rfl,one true x _ rfl⟩
 refine zl (ex _ _) fun b1 h1=>yX (fun e=>zc (T fun k=>?_)) fun e1=>?_
 ·have:=h1.1 e; exact this.2 (k.1 (by simpa using this.1))
 refine zl (ex _ _) fun b2 h2=>yX (fun e=>zc (T fun k=>?_)) fun e2=>?_
 ·have:=h2.1 e; exact this.2 (k.2.1 (by simpa using this.1))
 refine zl (ex _ _) fun b3 h3=>yX (fun e=>zc (T fun k=>?_)) fun e3=>?_
 ·have:=h3.1 e; exact this.2 (k.2.2.1 (of_decide_eq_true this.1))
 refine zl (ex _ _) fun b4 h4=>yX (fun e=>zc (T fun k=>?_)) fun e4=>?_
 ·have:=h4.1 e; exact this.2 (k.2.2.2.1 (of_decide_eq_true this.1))
 refine zl (ex _ _) fun b5 h5=>yX (fun e=>zc (T fun k=>?_)) fun e5=>?_
 ·have:=h5.1 e; exact this.2 (k.2.2.2.2.1 (of_decide_eq_true this.1))
 have hz:∀ {b g:Bool} {x:Int},(b = true ↔ g = true/\x ≠ 0)->b = false->g = true->x = 0:=fun {b g x} h e k=>zyH fun q=>by rw [h.2 ⟨k,q⟩] at e; cases e
 have g1:u.node = false->c.Node = 0:=fun h=>hz h1 e1 (by simp [h])
 have g2:u.other = false->c.Other = 0:=fun h=>hz h2 e2 (by simp [h])
 have g3:u.n < 0->c.N = 0:=fun h=>hz h3 e3 (decide_eq_true h)
 have g4:u.at_ < 0->c.At = 0:=fun h=>hz h4 e4 (decide_eq_true h)
 have g5:u.by_ < 0->c.By = 0:=fun h=>hz h5 e5 (decide_eq_true h)
 clear h1 h2 h3 h4 h5
 refine yX (fun e=>zc ?_) fun e=>zc ?_
 ·have e:u.bndl = false:=by simpa using e
  constructor
  ·intro h k
   rw [k.2.2.2.2.2 e] at h
   cases h
  ·intro h
   cases hz:zBB c.Bundle
   ·rfl
   ·exact absurd ⟨g1,g2,g3,g4,g5,fun _=>hz⟩ h
 ·have e:u.bndl = true:=by simpa using e
  refine ⟨fun h=>(by cases h),fun h=>absurd ⟨g1,g2,g3,g4,g5,fun q=>by rw [e] at q; cases q⟩ h⟩
theorem zss:∀ k,k < 15->1 <= k->(zbI.getD k default).by_ < 0 ∨ (zbI.getD k default).by_ = 255:=by
 intro k hk h1
 match k,hk,h1 with
 | 1,_,_ | 2,_,_ | 3,_,_ | 4,_,_ | 5,_,_ | 6,_,_ | 7,_,_ | 8,_,_ | 9,_,_ | 10,_,_ | 11,_,_ | 12,_,_ | 13,_,_ | 14,_,_=>decide
 | k + 15,h,_=>exact absurd h (by omega)
theorem zvT (s:Script) (hl:s.Configs.length <= 1000) (n:Int):W (qa n s) fun r=>r.2 = s/\(r.1 = true ↔ Yw s.Configs n):=by
 unfold qa
 refine zl (zoe s.Configs hl n) fun r hr=>?_
 obtain ⟨a,b⟩:=r
 obtain ⟨_,⟨h1,h2⟩ | ⟨h1,h2⟩⟩:=hr
 ·exact zc ⟨rfl,fun _=>h2,fun _=>h1⟩
 ·exact zc ⟨rfl,fun h=>absurd (h1.symm.trans h) (by simp),fun h=>absurd h h2⟩
theorem zu9 (c:Command) (s:Script) (hl:s.Configs.length <= 1000):W (yG c s) fun r=>r = (YP c (Yw s.Configs),s):=by
 unfold yG
 refine zl (R:=fun x:Unit ⊕ Int=>(x = .inl ()/\(1 <= c.Kind/\c.Kind <= 14)) ∨ (x = .inr 7/\¬ (1 <= c.Kind/\c.Kind <= 14))) ?_ ?_
 ·refine zl (zwk c) fun b hb=>?_
  exact yX (fun e=>zc (.inr ⟨rfl,hb.1 e⟩)) fun e=>zc (.inl ⟨rfl,zyH fun h=>by rw [hb.2 h] at e; cases e⟩)
 rintro x (⟨rfl,hk⟩ | ⟨rfl,hk⟩)
 rotate_left
 ·exact zc (by unfold YP; rw [if_neg hk])
 have eF:∀ has,YP c has = zdu (Y3 c) c has:=fun has=>by unfold YP; rw [if_pos hk]
 rw [eF]
 refine zim (by omega) (by omega) ?_
 refine zu (zsm _ (by omega)) ?_
 change W _ (fun r=>r = (zdu (zbI.getD c.Kind.toNat default) c (Yw s.Configs),s))
 generalize zbI.getD c.Kind.toNat default = u
 refine zl (R:=fun x:Script ⊕ (Int × Script)=>(x = .inl s/\rg1 u c/\rg2 u c/\ms u c (Yw s.Configs)/\fm u c) ∨ (∃ e,x = .inr (e,s)/\e = zdu u c (Yw s.Configs))) ?_ ?_
 ·refine zl (zxs u c) fun b hb=>?_
  refine yX (fun e=>zc (.inr ⟨_,rfl,by unfold zdu; rw [if_pos (fun h=>hb.1 e h.1)]⟩)) fun e1=>?_
  have q1:rg1 u c:=zyH fun h=>by rw [hb.2 h] at e1; cases e1
  refine zl (zxt u c) fun b hb=>?_
  refine yX (fun e=>zc (.inr ⟨_,rfl,by unfold zdu; rw [if_pos (fun h=>hb.1 e h.2)]⟩)) fun e2=>?_
  have q2:rg2 u c:=zyH fun h=>by rw [hb.2 h] at e2; cases e2
  refine zl (R:=fun b:Bool × Script=>b.2 = s/\(b.1 = true ↔ ¬ ms u c (Yw s.Configs))) ?_ ?_
  ·refine zl (R:=fun b:Bool × Script=>b.2 = s/\(b.1 = true ↔ ¬ (u.node = true->Yw s.Configs c.Node))) ?_ ?_
   ·refine yX (fun e=>zl (zvT s hl _) fun r hr=>?_) fun e=>zc ⟨rfl,by simp [e]⟩
    obtain ⟨a,b⟩:=r
    obtain ⟨rfl,h⟩:=hr
    refine zc ⟨rfl,?_⟩
    dsimp only at h ⊢
    cases a <;> simp_all
   ·rintro ⟨a,b⟩ ⟨rfl,h⟩
    dsimp only at h ⊢
    unfold ms
    refine yX (fun e=>zc ⟨rfl,fun _ k=>h.1 e k.1,fun _=>rfl⟩) fun e=>?_
    have h1:u.node = true->Yw b.Configs c.Node:=zyH fun k=>by rw [h.2 k] at e; cases e
    refine yX (fun e=>zl (zvT b hl _) fun r hr=>?_) fun e=>zc ⟨rfl,⟨fun h=>(by cases h),fun h=>absurd ⟨h1,fun q=>by rw [e] at q; cases q⟩ h⟩⟩
    obtain ⟨a',b'⟩:=r
    obtain ⟨rfl,h'⟩:=hr
    refine zc ⟨rfl,?_⟩
    dsimp only at h' ⊢
    cases a' <;> simp_all
  ·rintro ⟨b,s'⟩ ⟨hs,hb⟩
   dsimp only at hs hb ⊢
   subst hs
   refine yX (fun e=>zc (.inr ⟨_,rfl,by unfold zdu; rw [if_neg (fun h=>h ⟨q1,q2⟩),if_pos (hb.1 e)]⟩)) fun e3=>?_
   have q3:ms u c (Yw s'.Configs):=zyH fun h=>by rw [hb.2 h] at e3; cases e3
   refine zl (zx2 u c) fun b hb=>?_
   refine yX (fun e=>zc (.inr ⟨_,rfl,by unfold zdu; rw [if_neg (fun h=>h ⟨q1,q2⟩),if_neg (fun h=>h q3),if_pos (hb.1 e)]⟩)) fun e4=>?_
   have q4:fm u c:=zyH fun h=>by rw [hb.2 h] at e4; cases e4
   exact zc (.inl ⟨rfl,q1,q2,q3,q4⟩)
 ·rintro x (⟨rfl,q1,q2,q3,q4⟩ | ⟨e,rfl,he⟩)
  ·unfold zdu
   rw [if_neg (fun h=>h ⟨q1,q2⟩),if_neg (fun h=>h q3),if_neg (fun h=>h q4)]
   refine zl (R:=fun x:Unit ⊕ Int=>(x = .inl ()/\u.bndl = false) ∨ (x = .inr (chkF c.Bundle)/\u.bndl = true)) ?_ ?_
   ·refine yX (fun e=>zl (zsn c.Bundle) fun r hr=>?_) fun e=>zc (.inl ⟨rfl,e⟩)
    subst hr
    exact zc (.inr ⟨rfl,e⟩)
   ·rintro x (⟨rfl,e⟩ | ⟨rfl,e⟩)
    ·exact zc (by rw [if_neg (by simp [e])])
    ·exact zc (by rw [if_pos e])
  ·exact zc (by rw [he])
open Go Go.X Go.Eng Go.RowKit
def RU (u:Use):RUse:=⟨u.word,u.node,u.other,decide (0 <= u.n),decide (0 <= u.at_),decide (0 <= u.by_),u.bndl,u.low,max u.n 0,max u.at_ 0⟩
theorem zxu:∀ k:Nat,1 <= k->k <= 14->zF (k:Int) = some (RU (zbI.getD k default),true):=by
 intro k h1 h2
 match k,h1,h2 with
 | 1,_,_ | 2,_,_ | 3,_,_ | 4,_,_ | 5,_,_ | 6,_,_ | 7,_,_ | 8,_,_ | 9,_,_ | 10,_,_ | 11,_,_ | 12,_,_ | 13,_,_ | 14,_,_=>rfl
 | k + 15,_,h=>exact absurd h (by omega)
theorem zmi {c:Command} (h:1 <= c.Kind/\c.Kind <= 14):zF c.Kind = some (RU (Y3 c),true):=by
 have:=zxu c.Kind.toNat (by omega) (by omega)
 rw [show ((c.Kind.toNat:Nat):Int) = c.Kind from by omega] at this
 exact this
theorem zq0 {k:Int} (h:¬ (1 <= k/\k <= 14)):W (zF k) fun r=>r.2 = false:=by
 unfold zF
 iterate 14 refine zj (fun e=>by omega) fun _=>?_
 exact zc rfl
theorem zxv {α:Type} (u v:Bool) (x y:Option α):br u x (br v x y) = br (u || v) x y:=by cases u <;> rfl
theorem zva (u z:Bool):br u (some true) (some z) = some (u || z):=by cases u <;> rfl
theorem zq1 (u:Use) (c:Command):W (zS (RU u,c)) fun b=>b = true ↔ fm u c:=by
 have e:zS (RU u,c) = br (u.node || c.Node == 0) (br (u.other || c.Other == 0) (br (decide (0 <= u.n) || c.N == 0) (br (decide (0 <= u.at_) || c.At == 0) (br (decide (0 <= u.by_) || c.By == 0) (some (u.bndl || zBB c.Bundle)) (some false)) (some false)) (some false)) (some false)) (some false):=by
  unfold zS
  simp only [unu,RU,show ∀ b:Bundle,((b.ID.Node == (0:Int)) && ((b.ID.Seq == (0:Int)) && ((b.ID.Off == (0:Int)) && ((b.Dest == (0:Int)) && ((b.Prio == (0:Int)) && ((b.Born == (0:Int)) && ((b.Life == (0:Int)) && ((b.Total == (0:Int)) && (b.Data == ([]:List UInt8)))))))))) = zBB b from fun _=>rfl,zva,zxv]
 rw [e]
 unfold fm
 have F:∀ {p:Prop},¬ p->(false = true ↔ p):=fun h=>⟨fun k=>by (cases k),fun k=>absurd k h⟩
 have bo:∀ {g:Bool} {x:Int},(g || x == 0) = true->g = false->x = 0:=by
  intro g x h k; subst k; simpa using h
 have bn:∀ {g:Bool} {x:Int},(g || x == 0) = false->g = false/\x ≠ 0:=by
  intro g x h; simpa using h
 have dl:∀ {n:Int},n < 0->decide (0 <= n) = false:=fun h=>decide_eq_false (by omega)
 have ld:∀ {n:Int},decide (0 <= n) = false->n < 0:=fun h=>by have:=of_decide_eq_false h; omega
 refine yX (fun e1=>?_) fun e1=>zc (F fun k=>(bn e1).2 (k.1 (bn e1).1))
 refine yX (fun e2=>?_) fun e2=>zc (F fun k=>(bn e2).2 (k.2.1 (bn e2).1))
 refine yX (fun e3=>?_) fun e3=>zc (F fun k=>(bn e3).2 (k.2.2.1 (ld (bn e3).1)))
 refine yX (fun e4=>?_) fun e4=>zc (F fun k=>(bn e4).2 (k.2.2.2.1 (ld (bn e4).1)))
 refine yX (fun e5=>?_) fun e5=>zc (F fun k=>(bn e5).2 (k.2.2.2.2.1 (ld (bn e5).1)))
 refine zc ⟨fun h=>⟨bo e1,bo e2,fun k=>bo e3 (dl k),fun k=>bo e4 (dl k),fun k=>bo e5 (dl k),fun k=>by rw [k] at h; simpa using h⟩,fun h=>?_⟩
 cases hb:u.bndl
 ·rw [h.2.2.2.2.2 hb]; rfl
 ·rfl
theorem zq2 (u:Use) (c:Command) (hb:u.by_ < 0 ∨ u.by_ = 255):W (yd (RU u,c)) fun b=>b = true ↔ rg1 u c/\rg2 u c:=by
 have e:yd (RU u,c) = (((br u.node (br (decide (c.Node < (1:Int))) (some true) (some (decide ((16:Int) < c.Node)))) (some false):Option Bool).bind fun x_3=>br x_3 (some (.inr false))
   ((br u.other (br (decide (c.Other < (1:Int))) (some true) (br (decide ((16:Int) < c.Other)) (some true) (some (c.Other == c.Node)))) (some false):Option Bool).bind fun x_4=>br x_4 (some (.inr false))
   ((br (decide (0 <= u.n)) (br (decide (c.N < u.low)) (some true) (some (decide (max u.n 0 < c.N)))) (some false):Option Bool).bind fun x_5=>br x_5 (some (.inr false))
   ((br (decide (0 <= u.at_)) (br (decide (c.At < (0:Int))) (some true) (some (decide (max u.at_ 0 < c.At)))) (some false):Option Bool).bind fun x_6=>br x_6 (some (.inr false))
   ((br (decide (0 <= u.by_)) (br (decide (c.By < (1:Int))) (some true) (some (decide ((255:Int) < c.By)))) (some false):Option Bool).bind fun x_7=>br x_7 (some (.inr false)) (some (.inl ())))))):Option (Unit ⊕ Bool)).bind fun x_9=>Sum.elim (fun _=>some true) (fun x_8=>some x_8) x_9):=rfl
 rw [e]
 clear e
 refine zl (R:=fun x:Unit ⊕ Bool=>(x = .inl ()/\rg1 u c/\rg2 u c) ∨ (x = .inr false/\¬ (rg1 u c/\rg2 u c))) ?_ ?_
 ·unfold rg1 rg2 isN wi
  refine zl (R:=fun b:Bool=>b = true ↔ ¬ (u.node = true->1 <= c.Node/\c.Node <= 16)) ?_ fun b1 h1=>?_
  ·refine yX (fun e=>?_) fun e=>zc (by simp [e])
   refine zj (fun h=>zc ⟨fun _ k=>by have:=k e; omega,fun _=>rfl⟩) fun h=>zc ⟨fun q k=>by have:=k e; have:=of_decide_eq_true q; omega,fun k=>decide_eq_true (zyH fun q=>k fun _=>by omega)⟩
  refine yX (fun e=>zc (.inr ⟨rfl,fun k=>h1.1 e k.1.1⟩)) fun e1=>?_
  have q1:u.node = true->1 <= c.Node/\c.Node <= 16:=zyH fun k=>by rw [h1.2 k] at e1; cases e1
  refine zl (R:=fun b:Bool=>b = true ↔ ¬ (u.other = true->(1 <= c.Other/\c.Other <= 16)/\c.Other ≠ c.Node)) ?_ fun b2 h2=>?_
  ·refine yX (fun e=>?_) fun e=>zc (by simp [e])
   refine zj (fun h=>zc ⟨fun _ k=>by have:=k e; omega,fun _=>rfl⟩) fun h=>?_
   refine zj (fun h=>zc ⟨fun _ k=>by have:=k e; omega,fun _=>rfl⟩) fun h2=>?_
   refine zc ⟨fun q k=>(k e).2 (by simpa using q),fun k=>?_⟩
   rw [beq_iff_eq]
   exact zyH fun q=>k fun _=>⟨by omega,q⟩
  refine yX (fun e=>zc (.inr ⟨rfl,fun k=>h2.1 e k.1.2⟩)) fun e2=>?_
  have q2:u.other = true->(1 <= c.Other/\c.Other <= 16)/\c.Other ≠ c.Node:=zyH fun k=>by rw [h2.2 k] at e2; cases e2
  have rng:∀ (n lo x hi:Int),(0 <= n->hi = n)->W (br (decide (0 <= n)) (br (decide (x < lo)) (some true) (some (decide (hi < x)))) (some false):Option Bool) fun b=>b = true ↔ ¬ (n < 0 ∨ (lo <= x/\x <= n)):=by
   intro n lo x hi hh
   refine zj (fun h=>?_) fun h=>zc ⟨fun q=>(by cases q),fun q=>absurd (.inl (by omega)) q⟩
   have:=hh h
   subst this
   refine zj (fun h=>zc ⟨fun _=>by omega,fun _=>rfl⟩) fun h=>zc ?_
   rw [decide_eq_true_iff]; omega
  refine zl (rng u.n u.low c.N _ (fun h=>by omega)) fun b3 h3=>?_
  refine yX (fun e=>zc (.inr ⟨rfl,fun k=>h3.1 e k.2.1⟩)) fun e3=>?_
  have q3:=zyH fun k=>by rw [h3.2 k] at e3; cases e3
  refine zl (rng u.at_ 0 c.At _ (fun h=>by omega)) fun b4 h4=>?_
  refine yX (fun e=>zc (.inr ⟨rfl,fun k=>h4.1 e k.2.2.1⟩)) fun e4=>?_
  have q4:=zyH fun k=>by rw [h4.2 k] at e4; cases e4
  refine zl (rng u.by_ 1 c.By 255 (fun h=>by omega)) fun b5 h5=>?_
  refine yX (fun e=>zc (.inr ⟨rfl,fun k=>h5.1 e k.2.2.2⟩)) fun e5=>?_
  have q5:=zyH fun k=>by rw [h5.2 k] at e5; cases e5
  exact zc (.inl ⟨rfl,⟨q1,q2⟩,q3,q4,q5⟩)
 ·rintro x (⟨rfl,h⟩ | ⟨rfl,h⟩)
  ·exact zc ⟨fun _=>h,fun _=>rfl⟩
  ·exact zc ⟨fun k=>(by cases k),fun k=>absurd k h⟩
def zog (s:Script) (every:Bool) (n:Int):Prop:=every = true ∨ Yw s.Configs n
theorem zst (s:Script) (c:Command) (every:Bool) (hl:s.Configs.length <= 1000):W (ya (s,c,every)) fun r=>r = YP c (zog s every):=by
 unfold ya
 by_cases hk:1 <= c.Kind/\c.Kind <= 14
 rotate_left
 ·refine zl (zq0 hk) fun r hr=>?_
  obtain ⟨a,b⟩:=r
  dsimp only at hr ⊢
  subst hr
  refine zl (R:=fun x:Unit ⊕ Int=>x = .inr 7) (zc rfl) ?_
  rintro x rfl
  exact zc (by unfold YP; rw [if_neg hk])
 refine zu (zmi hk) ?_
 dsimp only
 have eF:YP c (zog s every) = zdu (Y3 c) c (zog s every):=by unfold YP; rw [if_pos hk]
 rw [eF]
 have hb:=zss c.Kind.toNat (by omega) (by omega)
 unfold Y3
 generalize zbI.getD c.Kind.toNat default = u at hb
 unfold zdu
 have D:∀ (x:Option (Unit ⊕ Int)) {e:Int},W x (fun r=>r = .inr e ∨ (r = .inl ()/\e = 0))->W (x.bind fun x_14=>Sum.elim (fun _=>some (0:Int)) (fun x_13=>some x_13) x_14) fun r=>r = e:=by
  intro x e h
  refine zl h ?_
  rintro r (rfl | ⟨rfl,rfl⟩)
  ·exact zc rfl
  ·exact zc rfl
 refine D _ ?_
 refine yX (fun h=>by simp at h) fun _=>?_
 refine zl (zq2 u c hb) fun b1 h1=>?_
 refine yX (fun e=>zc (.inl ?_)) fun e1=>?_
 ·rw [if_pos (fun k=>by rw [h1.2 k] at e; simp at e)]
 have q1:=h1.1 (by simpa using e1)
 rw [if_neg (fun h=>h q1)]
 refine zl (R:=fun b:Bool=>b = true ↔ ¬ ms u c (zog s every)) ?_ fun b2 h2=>?_
 ·unfold ms zog
  cases every
  ·refine yX (fun _=>?_) fun h=>by simp at h
   have th:∀ n,W (zA (s,n)) fun b=>b = true ↔ Yw s.Configs n:=fun n=>(zu6 s hl n).mono fun b hb=>by
    rcases hb with ⟨rfl,h⟩ | ⟨rfl,h⟩
    ·exact ⟨fun _=>h,fun _=>rfl⟩
    ·exact ⟨fun k=>(by cases k),fun k=>absurd k h⟩
   have lst:(u.node = true->Yw s.Configs c.Node)->W (br u.other ((zA (s,c.Other)).bind fun x_8=>some (!x_8)) (some false)) fun b=>b = true ↔ ¬ ((u.node = true->(false = true ∨ Yw s.Configs c.Node))/\(u.other = true->(false = true ∨ Yw s.Configs c.Other))):=by
    intro q
    refine yX (fun e=>zl (th _) fun b hb=>zc ?_) fun e=>zc ⟨fun k=>(by cases k),fun k=>absurd ⟨fun h=>.inr (q h),fun h=>by rw [e] at h; cases h⟩ k⟩
    constructor
    ·intro h k
     rcases k.2 e with h' | h'
     ·cases h'
     ·rw [hb.2 h'] at h; cases h
    ·intro h
     cases hb':b
     ·rfl
     ·exact absurd ⟨fun h=>.inr (q h),fun _=>.inr (hb.1 hb')⟩ h
   refine yX (fun e=>zl (th _) fun b hb=>?_) fun e=>lst fun h=>by rw [show u.node = false from e] at h; cases h
   refine yX (fun h=>zc ⟨fun _ k=>?_,fun _=>rfl⟩) fun h=>lst fun _=>hb.1 (by simpa using h)
   rcases k.1 e with h' | h'
   ·cases h'
   ·rw [hb.2 h'] at h; cases h
  ·exact zc ⟨fun k=>(by cases k),fun k=>absurd ⟨fun _=>.inl rfl,fun _=>.inl rfl⟩ k⟩
 refine yX (fun e=>zc (.inl ?_)) fun e2=>?_
 ·rw [if_pos (h2.1 e)]
 have q2:ms u c (zog s every):=zyH fun k=>by rw [h2.2 k] at e2; cases e2
 rw [if_neg (fun h=>h q2)]
 refine zl (zq1 u c) fun b3 h3=>?_
 refine yX (fun e=>zc (.inl ?_)) fun e3=>?_
 ·rw [if_pos (fun k=>by rw [h3.2 k] at e; simp at e)]
 have q3:=h3.1 (by simpa using e3)
 rw [if_neg (fun h=>h q3)]
 refine yX (fun e=>zl (zso c.Bundle) fun r hr=>zc (.inl ?_)) fun e=>zc (.inr ⟨rfl,?_⟩)
 ·subst hr; rw [if_pos (show u.bndl = true from e)]
 ·rw [if_neg (show ¬ u.bndl = true by rw [show u.bndl = false from e]; simp)]
theorem zoh {c:Command} {p q:Int->Prop} (h:∀ n,isN n->(p n ↔ q n)):YP c p = YP c q:=by
 unfold YP
 by_cases hk:1 <= c.Kind/\c.Kind <= 14
 ·rw [if_pos hk,if_pos hk]
  unfold zdu
  by_cases hr:rg1 (Y3 c) c/\rg2 (Y3 c) c
  ·have:ms (Y3 c) c p ↔ ms (Y3 c) c q:=by
    unfold ms
    have a:=hr.1.1
    have b:=hr.1.2
    exact ⟨fun k=>⟨fun e=>(h _ (a e)).1 (k.1 e),fun e=>(h _ (b e).1).1 (k.2 e)⟩,fun k=>⟨fun e=>(h _ (a e)).2 (k.1 e),fun e=>(h _ (b e).1).2 (k.2 e)⟩⟩
   rw [propext this]
  ·rw [if_pos hr,if_pos hr]
 ·rw [if_neg hk,if_neg hk]
open Go Go.X Go.Eng Go.RowKit
theorem yw {β:Type} {s t:List UInt8} {f:List UInt8->Option β} {Q:β->Prop} (h:s.length + t.length <= 1000000000) (k:W (f (s++t)) Q):W ((zO s t).bind f) Q:=by
 unfold zO
 rw [if_pos (Nat.le_trans h (by decide))]
 exact k
def dec (n:Int):List UInt8:=Go.Lib.decDigits n.toNat
theorem zcM {n:Int} (h:n < 10):dec n = [UInt8.ofNat (48 + n.toNat)]:=by
 unfold dec
 rw [Go.Lib.decDigits,dif_pos (by omega)]
theorem zgU {n:Int} (h:¬ n < 10):dec n = dec (n / 10)++[UInt8.ofNat (48 + (n % 10).toNat)]:=by
 unfold dec
 conv=>lhs; rw [Go.Lib.decDigits,dif_neg (by omega)]
 rw [show n.toNat / 10 = (n / 10).toNat from by omega,show n.toNat % 10 = (n % 10).toNat from by omega]
theorem zgg:∀ (k:Nat) (n:Int),0 <= n->n < 10 ^ (k + 1)->(dec n).length <= k + 1
 | 0,n,h0,h1=>by rw [zcM (by omega)]; simp
 | k + 1,n,h0,h1=>by
  by_cases h:n < 10
  ·rw [zcM h]; simp
  ·rw [zgU h]
   have:=zgg k (n / 10) (by omega) (by rw [Int.pow_succ] at h1; omega)
   rw [zyQ]
   simp; omega
theorem zK {n:Int} (h0:0 <= n) (h1:n <= 9223372036854775807):(dec n).length <= 20:=zgg 19 n h0 (by omega)
theorem zsu (n:Int):dec n ≠ []:=by
 by_cases h:n < 10
 ·rw [zcM h]; simp
 ·rw [zgU h]; simp
theorem zat {n:Int} (h0:0 <= n) (h1:n <= 9223372036854775807):strconv_Itoa n = some (dec n):=by
 unfold strconv_Itoa zqP
 rw [if_pos ⟨by omega,h1⟩]
 unfold Go.Lib.itoa dec
 rw [if_neg (by omega)]
theorem zsv {n:Int} (h0:0 <= n) (h1:n < 18446744073709551616):zD (n,10) = some (dec n):=by
 unfold zD dec
 dsimp only
 rw [if_pos ⟨h0,h1,rfl⟩]
theorem zsw {n:Int} (h0:0 <= n) (h1:n < 10):Zz ([IntKind.wrap .u8 (48 + n)]:List Int) = some [UInt8.ofNat (48 + n.toNat)]:=by
 rcases (by omega:n = 0 ∨ n = 1 ∨ n = 2 ∨ n = 3 ∨ n = 4 ∨ n = 5 ∨ n = 6 ∨ n = 7 ∨ n = 8 ∨ n = 9) with rfl | rfl | rfl | rfl | rfl | rfl | rfl | rfl | rfl | rfl <;> rfl
theorem zkk {n:Int} (h0:0 <= n) (h1:n < 18446744073709551616):InR .u64 n:=by
 show IntKind.wrap .u64 n = n
 rw [IntKind.wrap_u64]; omega
theorem zkl {a b:Int} (h0:0 <= a + b) (h1:a + b < 18446744073709551616):yj .u64 a b = some (a + b):=by
 unfold yj; rw [if_pos (zkk h0 h1)]
theorem zp8 {a:Int} (h0:0 <= a) (h1:a < 18446744073709551616):zbz .u64 a 10 = some (a / 10):=by
 unfold zbz
 rw [Int.tdiv_eq_ediv_of_nonneg h0,if_pos ⟨by omega,zkk (by omega) (by omega)⟩]
theorem zsx {n:Int} (h0:0 <= n) (h1:n < 18446744073709551616):IntKind.wrap .u64 n = n:=zkk h0 h1
theorem zmj {n:Int} (h0:0 <= n) (h1:n <= 9223372036854775807):zp n = some (dec n):=by
 have h20:=zK h0 h1
 refine W.eq ?_
 unfold zp
 refine qx (fun s:Int × List UInt8=>0 <= s.1/\s.1 <= 9223372036854775807/\s.2.length <= 20/\((s.2 = []/\s.1 = n) ∨ (s.2 ≠ []/\s.1 = 0/\s.2 = dec n) ∨ (0 < s.1/\dec s.1++s.2 = dec n))) (fun s=>s.1.toNat * 2 + (if s.2 = [] then 1 else 0)) ?_ ⟨h0,h1,by simp,.inl ⟨rfl,rfl⟩⟩
 rintro ⟨m,out⟩ ⟨i1,i2,i3,i4⟩
 dsimp only at i1 i2 i3 i4 ⊢
 have go:(0 < m ∨ out = [])->dec m++out = dec n->W ((zf6 m (10:Int)).bind fun x_4=>(yj .u64 (48:Int) x_4).bind fun x_5=>(Zz ([Go.IntKind.wrap .u8 x_5]:List Int)).bind fun x_6=>(zO x_6 out).bind fun x_7=>(zbz .u64 m (10:Int)).bind fun x_8=>some (zcy.next (ρ:=List UInt8) (x_8,x_7))) fun r=>match r with
   | .next s'=>(0 <= s'.1/\s'.1 <= 9223372036854775807/\s'.2.length <= 20/\((s'.2 = []/\s'.1 = n) ∨ (s'.2 ≠ []/\s'.1 = 0/\s'.2 = dec n) ∨ (0 < s'.1/\dec s'.1++s'.2 = dec n)))/\s'.1.toNat * 2 + (if s'.2 = [] then 1 else 0) < m.toNat * 2 + (if out = [] then 1 else 0)
   | .done r=>W (some r) fun x=>x = dec n:=by
  intro hm hd
  have hlen:(dec m).length + out.length <= 20:=by rw [<- zyQ,hd]; exact h20
  have hne:1 <= (dec m).length:=List.length_pos_iff.2 (zsu m)
  refine zuQ (by omega) (by omega) ?_
  rintro _ rfl
  refine zu (zkl (by omega) (by omega)) ?_
  refine zu (zsw (by omega) (by omega)) ?_
  refine yw (by simp; omega) ?_
  refine zu (zp8 (by omega) (by omega)) ?_
  refine yb ⟨⟨by dsimp only; omega,by dsimp only; omega,by simp; omega,?_⟩,?_⟩
  ·dsimp only
   by_cases h:m < 10
   ·refine .inr (.inl ⟨by simp,by omega,?_⟩)
    rw [<- hd,zcM h,show m % 10 = m from by omega]
   ·refine .inr (.inr ⟨by omega,?_⟩)
    rw [<- hd,zgU h,List.append_assoc]
  ·dsimp only
   rw [if_neg (by simp)]
   rcases hm with hm | hm
   ·split <;> omega
   ·rw [if_pos hm]; omega
 refine zj (fun hm=>?_) fun hm=>?_
 ·have hd:dec m++out = dec n:=by
   rcases i4 with ⟨a,b⟩ | ⟨_,b,_⟩ | ⟨_,b⟩
   ·rw [a,b,List.append_nil]
   ·omega
   ·exact b
  exact (go (.inl hm) hd).mono fun r hr=>by cases r <;> exact hr
 ·refine yX (fun h=>?_) fun h=>?_
  ·have ho:out = []:=eq_of_beq h
   have hd:dec m++out = dec n:=by
    rcases i4 with ⟨a,b⟩ | ⟨a,_,_⟩ | ⟨a,_⟩
    ·rw [a,b,List.append_nil]
    ·exact absurd ho a
    ·omega
   exact (go (.inr ho) hd).mono fun r hr=>by cases r <;> exact hr
  ·have ho:out ≠ []:=fun k=>by rw [k] at h; simp at h
   refine zr (zc ?_)
   rcases i4 with ⟨a,_⟩ | ⟨_,_,b⟩ | ⟨a,_⟩
   ·exact absurd a ho
   ·exact b
   ·omega
theorem QY {n:Int} (h0:0 <= n) (h1:n <= 9223372036854775807):za n = some (dec n):=by
 unfold za
 rw [zsx h0 (by omega),zmj h0 h1]
 rfl
theorem zjf:∀ (k:Nat) (n:Int),k <= 1000->0 <= n->n <= 10000000000000->n < 10 ^ (k + 1)->ze (k + 1) n = some (dec n)
 | k,n,hk,h0,hb,h1=>by
  refine W.eq ?_
  show W (yE (ze k) n) _
  unfold yE
  refine zj (fun h=>?_) (fun h=>?_)
  ·refine zu (zkl (by omega) (by omega)) ?_
   refine zu (zsw h0 h) ?_
   exact zc (zcM h).symm
  ·have hk0:∃ k',k = k' + 1:=by
    cases k with
    | zero=>simp at h1; omega
    | succ k'=>exact ⟨k',rfl⟩
   obtain ⟨k',rfl⟩:=hk0
   refine zu (zp8 (by omega) (by omega)) ?_
   have hq1:n / 10 < 10 ^ (k' + 1):=by rw [Int.pow_succ] at h1; omega
   refine zu (zjf k' (n / 10) (by omega) (by omega) (by omega) hq1) ?_
   refine zuQ (by omega) (by omega) ?_
   rintro _ rfl
   refine zu (zkl (by omega) (by omega)) ?_
   refine zu (zsw (by omega) (by omega)) ?_
   have hl:=zgg k' (n / 10) (by omega) hq1
   refine yw (by simp; omega) ?_
   exact zc (zgU h).symm
theorem zoi:∀ (k:Nat) (n:Int) (r:List UInt8),ze k n = some r->ze (k + 1) n = some r:=by
 intro k
 induction k with
 | zero=>intro n r h; cases h
 | succ k ih =>
  intro n r h
  show yE (ze (k + 1)) n = some r
  have h':yE (ze k) n = some r:=h
  unfold yE at h' ⊢
  by_cases hb:n < 10
  ·rw [decide_eq_true hb] at h' ⊢; exact h'
  ·rw [decide_eq_false hb] at h' ⊢
   change (zbz .u64 n 10).bind _ = _ at h'
   change (zbz .u64 n 10).bind _ = _
   cases e1:zbz .u64 n 10 with
   | none=>rw [e1] at h'; cases h'
   | some q =>
    rw [e1] at h'
    simp only [zyP] at h' ⊢
    cases e2:ze k q with
    | none=>rw [e2] at h'; cases h'
    | some t =>
     rw [e2] at h'
     rw [ih q t e2]
     exact h'
theorem zer {n:Int} (h0:0 <= n) (h1:n <= 1099511627776):zy n = some (dec n):=by
 have key:∀ (j k:Nat) (r:List UInt8),ze k n = some r->ze (k + j) n = some r:=by
  intro j
  induction j with
  | zero=>intro k r h; exact h
  | succ j ihj=>intro k r h; exact zoi _ _ _ (ihj k r h)
 exact key 17 13 _ (zjf 12 n (by omega) h0 (by omega) (by omega))
def keyT (d:ID):List UInt8:=dec d.Node++[46]++dec d.Seq++[46]++dec d.Off
theorem zmk {d:ID} (h:Z1 d) (hs:0 <= d.Seq):(keyT d).length <= 62:=by
 unfold Z1 at h
 have h1:=zK (n:=d.Node) (by omega) (by omega)
 have h2:=zK (n:=d.Seq) hs (by omega)
 have h3:=zK (n:=d.Off) (by omega) (by omega)
 unfold keyT
 simp only [zyQ,zyy,zyC]
 omega
theorem zxw {d:ID} (h:Z1 d) (hs:0 <= d.Seq):ZD d = some (keyT d,0):=by
 refine W.eq ?_
 unfold ZD
 refine zl (zjc d) fun r hr=>?_
 rcases hr with ⟨rfl,_⟩ | ⟨_,hn⟩
 rotate_left
 ·exact absurd h hn
 unfold Z1 at h
 have h1:=zK (n:=d.Node) (by omega) (by omega)
 have h2:=zK (n:=d.Seq) hs (by omega)
 have h3:=zK (n:=d.Off) (by omega) (by omega)
 refine yX (fun h=>by simp at h) fun _=>?_
 refine zu (zat (by omega) (by omega)) (yw (by simp; omega) ?_)
 refine zu (zsv hs (by omega)) (yw (by simp; omega) (yw (by simp; omega) ?_))
 refine zu (zat (by omega) (by omega)) (yw (by simp; omega) ?_)
 exact zc rfl
theorem zwl {d:ID} (h:Z1 d) (hs:0 <= d.Seq):yJ d = some (keyT d,0):=by
 refine W.eq ?_
 unfold yJ
 refine zl (zgR d) fun r hr=>?_
 rcases hr with ⟨rfl,_⟩ | ⟨_,hn⟩
 rotate_left
 ·exact absurd h hn
 unfold Z1 at h
 have h1:=zK (n:=d.Node) (by omega) (by omega)
 have h2:=zK (n:=d.Seq) hs (by omega)
 have h3:=zK (n:=d.Off) (by omega) (by omega)
 refine yX (fun h=>by simp at h) fun _=>?_
 rw [zsx (by omega) (by omega),zsx (by omega) (by omega)]
 refine zu (zer (by omega) (by omega)) (yw (by simp; omega) ?_)
 refine zu (zer hs (by omega)) (yw (by simp; omega) (yw (by simp; omega) ?_))
 refine zu (zer (by omega) (by omega)) (yw (by simp; omega) ?_)
 exact zc rfl
open Go Go.X Go.Eng Go.RowKit
theorem zca:∀ (k:Nat) (n:Int),0 <= n->n.toNat <= k->∀ c ∈ dec n,48 <= c.toNat/\c.toNat <= 57
 | 0,n,h0,h1,c,hc=>by
  rw [zcM (by omega)] at hc
  simp only [zyv] at hc
  subst hc
  rw [UInt8.toNat_ofNat']; omega
 | k + 1,n,h0,h1,c,hc=>by
  by_cases h:n < 10
  ·rw [zcM h] at hc
   simp only [zyv] at hc
   subst hc
   rw [UInt8.toNat_ofNat']; omega
  ·rw [zgU h] at hc
   rcases List.mem_append.1 hc with hc | hc
   ·exact zca k (n / 10) (by omega) (by omega) c hc
   ·simp only [zyv] at hc
    subst hc
    rw [UInt8.toNat_ofNat']; omega
theorem zkm {l:List UInt8} (h:∀ c ∈ l,46 <= c.toNat/\c.toNat <= 57) (hn:l ≠ []):zbp l = true:=by
 unfold zbp
 have h1:(l.all fun c=>plainI (c.toNat:Int)) = true:=by
  refine List.all_eq_true.2 fun c hc=>?_
  have:=h c hc
  unfold plainI
  simp only [zyL,decide_eq_true_eq,Bool.not_eq_true',decide_eq_false_iff_not]
  omega
 have h2:¬ l.head? = some 35:=by
  cases l with
  | nil=>simp
  | cons x l =>
   have:=h x (zyw ..)
   intro k
   simp only [List.head?_cons,Option.some.injEq] at k
   subst k
   have:(35:UInt8).toNat = 35:=rfl
   omega
 rw [h1,decide_eq_false hn,decide_eq_false h2]; rfl
theorem zdv {l:List UInt8} (h:zbp l = true):zaM l = l:=by unfold zaM; rw [if_pos h]
theorem QE {n:Int} (h:0 <= n):zaM (dec n) = dec n:=zdv (zkm (fun c hc=>by have:=zca _ n h (Nat.le_refl _) c hc; omega) (zsu n))
theorem zsy {d:ID} (h:Z1 d) (hs:0 <= d.Seq):zaM (keyT d) = keyT d:=by
 unfold Z1 at h
 refine zdv (zkm (fun c hc=>?_) ?_)
 ·unfold keyT at hc
  simp only [List.mem_append,zyv] at hc
  rcases hc with (((hc | hc) | hc) | hc) | hc
  ·have:=zca _ d.Node (by omega) (Nat.le_refl _) c hc; omega
  ·subst hc; decide
  ·have:=zca _ d.Seq hs (Nat.le_refl _) c hc; omega
  ·subst hc; decide
  ·have:=zca _ d.Off (by omega) (Nat.le_refl _) c hc; omega
 ·unfold keyT; simp
def wt (w:Word):List UInt8:=if w.Key = [] then zaM w.Text else w.Key++[61]++zaM w.Text
def okW (w:Word):Prop:=w.Text.length <= 1100/\w.Key.length <= 20/\(w.Key = [] ∨ qJ w.Key = some true)
theorem zoj {w:Word} (h:okW w):(wt w).length <= 5000:=by
 obtain ⟨h1,h2,_⟩:=h
 have:=zgT w.Text
 unfold wt
 split
 ·omega
 ·simp only [zyQ,zyy,zyC]; omega
theorem zml:∀ (ws:List Word),(∀ w ∈ ws,okW w)->(Lib.joinTail [32] (ws.map wt)).length <= ws.length * 5001
 | [],_=>by simp [Lib.joinTail]
 | w :: ws,h=>by
  have a:=zoj (h w (zyw ..))
  have b:=zml ws fun x hx=>h x (zyx _ hx)
  have e:Lib.joinTail [32] ((w :: ws).map wt) = 32 :: (wt w++Lib.joinTail [32] (ws.map wt)):=by simp [Lib.joinTail]
  rw [e]
  simp only [zyy,zyQ]
  omega
theorem zvU {ws:List Word} (hne:ws ≠ []) (hn:ws.length <= 20) (hw:∀ w ∈ ws,okW w):W (qy [⟨0,ws⟩]) fun r=>r = if 1000 < (Lib.join (ws.map wt) [32]).length then ([],4) else (Lib.join (ws.map wt) [32]++[10],0):=by
 have hjl:(Lib.join (ws.map wt) [32]).length <= 110000:=by
  cases ws with
  | nil=>exact absurd rfl hne
  | cons w ws =>
   have a:=zoj (hw w (zyw ..))
   have b:=zml ws fun x hx=>hw x (zyx _ hx)
   rw [List.map_cons,Lib.join_cons,zyQ]
   simp only [zyy] at hn
   omega
 generalize hJ:Lib.join (ws.map wt) [32] = J at hjl
 unfold qy
 refine qx (fun s:List UInt8 × Int=>(s.1 = []/\s.2 = 0) ∨ (s.1 = J++[10]/\s.2 = 1/\¬ 1000 < J.length)) (fun s=>1 - s.2.toNat) ?_ (.inl ⟨rfl,rfl⟩)
 rintro ⟨out,x⟩ (⟨ho,hx⟩ | ⟨ho,hx,hj⟩)
 rotate_left
 ·dsimp only at ho hx ⊢
  subst hx ho
  refine zj (fun h=>by simp at h) fun _=>zr (zc ?_)
  rw [if_neg hj]
 dsimp only at ho hx ⊢
 subst hx ho
 refine zj (fun _=>?_) fun h=>by simp at h
 refine zu (a:=(⟨0,ws⟩:Row)) rfl ?_
 refine zj (fun h=>absurd (List.length_eq_zero_iff.1 (by dsimp only at h; omega)) hne) fun _=>?_
 refine zl (R:=fun r:(List UInt8 × Int) ⊕ List (List UInt8)=>r = .inr (ws.map wt)) ?_ ?_
 ·refine zbh (fun s:List (List UInt8) × Int=>0 <= s.2/\s.2 <= (ws.length:Int)/\s.1 = (ws.take s.2.toNat).map wt) (fun s=>ws.length - s.2.toNat) ?_ ⟨Int.le_refl _,by simp,rfl⟩
  rintro ⟨l,i⟩ ⟨h0,h1,hl⟩
  dsimp only at h0 h1 hl ⊢
  subst hl
  refine zj (fun h=>?_) fun h=>zr (by rw [List.take_of_length_le (by omega)])
  refine yS h0 h fun w hwi=>?_
  have hm:=hw w (zyu hwi)
  have hlen:=zoj hm
  have hstep:(ws.take (i.toNat + 1)).map wt = (ws.take i.toNat).map wt++[wt w]:=by rw [List.take_add_one,hwi]; simp
  have hcount:((ws.take i.toNat).map wt).length <= 20:=by simp; omega
  obtain ⟨a1,a2,a3⟩:=hm
  refine zu (show qu w.Text = some (zaM w.Text) from zsr (by omega)) ?_
  have hq:=zgT w.Text
  have fin:∀ t,t = wt w->W ((app 16 ((ws.take i.toNat).map wt) ([t]:List (List UInt8))).bind fun x_12=>(yj .i64 i (1:Int)).bind fun x_13=>some (zcy.next (ρ:=(List UInt8 × Int) ⊕ List (List UInt8)) (x_12,x_13))) fun r=>match r with | .next s'=>(0 <= s'.2/\s'.2 <= (ws.length:Int)/\s'.1 = (ws.take s'.2.toNat).map wt)/\ws.length - s'.2.toNat < ws.length - i.toNat | .done r=>r = .inr (ws.map wt):=by
   rintro t rfl
   refine zin (by simp only [zyy,zyC]; omega) ?_
   refine qA fun j hj=>yb ⟨⟨by dsimp only; omega,by dsimp only; omega,?_⟩,by dsimp only; omega⟩
   dsimp only
   rw [show j.toNat = i.toNat + 1 from by omega,hstep]
  refine Qj (yX (fun hk=>?_) fun hk=>?_)
  ·have hk:w.Key = []:=eq_of_beq hk
   exact (fin _ (by unfold wt; rw [if_pos hk])).mono fun r hr=>by cases r <;> exact hr
  ·have hk:w.Key ≠ []:=fun k=>by rw [k] at hk; simp at hk
   rcases a3 with a3 | a3
   ·exact absurd a3 hk
   refine zu a3 ?_
   refine yX (fun h=>by simp at h) fun _=>?_
   refine yw (by simp; omega) (yw (by simp; omega) ?_)
   exact (fin _ (by unfold wt; rw [if_neg hk])).mono fun r hr=>by cases r <;> exact hr
 ·rintro r rfl
  dsimp only [Sum.elim_inr]
  have e:strings_Join (ws.map wt,[32]) = some J:=by
   unfold strings_Join znL
   dsimp only
   rw [hJ,if_pos ⟨by rw [List.length_map]; omega,by omega⟩]
  refine zu e ?_
  refine yw (by simp; omega) (yw (by simp; omega) ?_)
  refine zj (fun h=>zr (zc (by rw [if_pos (by omega)]))) fun h=>?_
  refine zj (fun h2=>?_) fun h2=>qA fun j hj=>yb ⟨.inr ⟨by simp,by dsimp only; omega,by omega⟩,by dsimp only; omega⟩
  exfalso
  simp at h2
  omega
def fld (g:Bool) (n:Int):List UInt8:=if g = true then 32 :: dec n else []
def wN (g:Bool) (n:Int):List Word:=if g = true then [⟨0,[],dec n⟩] else []
def zjg (u:Use) (c:Command):List UInt8:=u.word++fld u.node c.Node++fld u.other c.Other++fld (decide (0 <= u.n)) c.N++fld (decide (0 <= u.at_)) c.At++fld (decide (0 <= u.by_)) c.By
def wsH (u:Use) (c:Command):List Word:=⟨0,[],u.word⟩ :: (wN u.node c.Node++wN u.other c.Other++wN (decide (0 <= u.n)) c.N++wN (decide (0 <= u.at_)) c.At++wN (decide (0 <= u.by_)) c.By)
def zkn (b:Bundle):List UInt8:=[32,105,100,61]++keyT b.ID++[32,116,111,61]++dec b.Dest++[32,112,114,105,111,61]++dec b.Prio++[32,98,111,114,110,61]++dec b.Born++[32,108,105,102,101,61]++dec b.Life++[32,116,111,116,97,108,61]++dec b.Total++[32,100,97,116,97,61]++zaM b.Data
def wsB (b:Bundle):List Word:=[⟨0,[105,100],keyT b.ID⟩,⟨0,[116,111],dec b.Dest⟩,⟨0,[112,114,105,111],dec b.Prio⟩,⟨0,[98,111,114,110],dec b.Born⟩,⟨0,[108,105,102,101],dec b.Life⟩,⟨0,[116,111,116,97,108],dec b.Total⟩,⟨0,[100,97,116,97],b.Data⟩]
def ziz (u:Use) (c:Command):List UInt8:=zjg u c++(if u.bndl = true then zkn c.Bundle else [])
def zko (u:Use) (c:Command):List Word:=wsH u c++(if u.bndl = true then wsB c.Bundle else [])
structure Good (u:Use) (c:Command):Prop where
 word:u.word.length <= 7
 bare:zbp u.word = true
 node:u.node = true->0 <= c.Node/\c.Node <= 262144
 other:u.other = true->0 <= c.Other/\c.Other <= 262144
 n:0 <= u.n->0 <= c.N/\c.N <= 262144
 at':0 <= u.at_->0 <= c.At/\c.At <= 262144
 by':0 <= u.by_->0 <= c.By/\c.By <= 262144
 id:u.bndl = true->Z1 c.Bundle.ID
 seq:0 <= c.Bundle.ID.Seq
 ok:u.bndl = true->okF c.Bundle
 data:u.bndl = true->c.Bundle.Data.length <= 1000
theorem zsz:∀ k,k < 15->1 <= k->(zbI.getD k default).word.length <= 7/\zbp (zbI.getD k default).word = true/\0 <= (zbI.getD k default).low/\(zbI.getD k default).n <= 262144/\(zbI.getD k default).at_ <= 262144:=by
 intro k hk h1
 match k,hk,h1 with
 | 1,_,_ | 2,_,_ | 3,_,_ | 4,_,_ | 5,_,_ | 6,_,_ | 7,_,_ | 8,_,_ | 9,_,_ | 10,_,_ | 11,_,_ | 12,_,_ | 13,_,_ | 14,_,_=>decide
 | k + 15,h,_=>exact absurd h (by omega)
theorem zp9 {c:Command} (h:YP c isN = 0) (hs:0 <= c.Bundle.ID.Seq):(1 <= c.Kind/\c.Kind <= 14)/\Good (Y3 c) c:=by
 unfold YP at h
 by_cases hk:1 <= c.Kind/\c.Kind <= 14
 rotate_left
 ·rw [if_neg hk] at h; cases h
 refine ⟨hk,?_⟩
 rw [if_pos hk] at h
 obtain ⟨w1,w2,w3,w4,w5⟩:=zsz c.Kind.toNat (by omega) (by omega)
 have w6:=zss c.Kind.toNat (by omega) (by omega)
 unfold Y3 at h ⊢
 generalize zbI.getD c.Kind.toNat default = u at h w1 w2 w3 w4 w5 w6 ⊢
 unfold zdu at h
 by_cases hr:rg1 u c/\rg2 u c
 rotate_left
 ·rw [if_pos hr] at h; cases h
 rw [if_neg (fun k=>k hr)] at h
 by_cases hm:ms u c isN
 rotate_left
 ·rw [if_pos hm] at h; cases h
 rw [if_neg (fun k=>k hm)] at h
 by_cases hf:fm u c
 rotate_left
 ·rw [if_pos hf] at h; cases h
 rw [if_neg (fun k=>k hf)] at h
 obtain ⟨⟨r1,r2⟩,r3,r4,r5⟩:=hr
 unfold isN at r1 r2
 unfold wi at r3 r4 r5
 have hb:u.bndl = true->Z1 c.Bundle.ID/\okF c.Bundle/\c.Bundle.Data.length <= 1000:=by
  intro hb
  rw [if_pos hb] at h
  unfold chkF at h
  by_cases g1:Z1 c.Bundle.ID
  rotate_left
  ·rw [if_pos g1] at h; cases h
  rw [if_neg (fun k=>k g1)] at h
  by_cases g2:okF c.Bundle
  rotate_left
  ·rw [if_pos g2] at h; cases h
  rw [if_neg (fun k=>k g2)] at h
  refine ⟨g1,g2,?_⟩
  split at h
  ·cases h
  ·split at h
   ·cases h
   ·omega
 exact ⟨w1,w2,fun k=>by have:=r1 k; omega,fun k=>by have:=(r2 k).1; omega,fun k=>by omega,fun k=>by omega,fun k=>by omega,fun k=>(hb k).1,hs,fun k=>(hb k).2.1,fun k=>(hb k).2.2⟩
open Go Go.X Go.Eng Go.RowKit
def wB (b:BI):List Word:=wN b.used b.n
theorem zwm {w0:Word} {L:List BI} (hL:L.length <= 10) (h:∀ b ∈ L,b.used = true->0 <= b.n/\b.n <= 9223372036854775807) :
  qQ (σ:=(List Word) × Int) (ρ:=List Word) (fun (l_4,x_5) =>
   br (decide (x_5 < (L.length:Int)))
    ((idx L x_5).bind fun x_6 =>
    br x_6.used
     ((yx x_6.n).bind fun x_7 =>
     (app 40 l_4 ([x_7]:List Word)).bind fun x_8 =>
     (yj .i64 x_5 (1:Int)).bind fun x_9 =>
     some (.next (x_8,x_9)))
     ((yj .i64 x_5 (1:Int)).bind fun x_10 =>
     some (.next (l_4,x_10))))
    (some (.done l_4))) (([w0]:List Word),(0:Int)) = some (w0 :: L.flatMap wB):=by
 refine W.eq (zbh (fun s:List Word × Int=>0 <= s.2/\s.2 <= (L.length:Int)/\s.1 = w0 :: (L.take s.2.toNat).flatMap wB/\s.1.length <= 1 + s.2.toNat) (fun s=>L.length - s.2.toNat) ?_ ⟨Int.le_refl _,by simp,rfl,by simp⟩)
 rintro ⟨l,i⟩ ⟨h0,h1,hl,hn⟩
 dsimp only at h0 h1 hl hn ⊢
 refine zj (fun hi=>?_) fun hi=>zr (by rw [hl,List.take_of_length_le (by omega)])
 refine yS h0 hi fun b hb=>?_
 have hstep:(L.take (i.toNat + 1)).flatMap wB = (L.take i.toNat).flatMap wB++wB b:=by rw [List.take_add_one,hb]; simp
 have hm:=h b (zyu hb)
 refine yX (fun e=>?_) fun e=>?_
 ·obtain ⟨a1,a2⟩:=hm e
  have e7:yx b.n = some ⟨0,[],dec b.n⟩:=by
   unfold yx
   rw [zat a1 a2]
   rfl
  refine zu e7 ?_
  refine zin (by simp; omega) ?_
  refine qA fun j hj=>yb ⟨⟨by dsimp only; omega,by dsimp only; omega,?_,by simp; omega⟩,by dsimp only; omega⟩
  dsimp only
  rw [show j.toNat = i.toNat + 1 from by omega,hstep,hl]
  unfold wB wN
  rw [if_pos e]; rfl
 ·refine qA fun j hj=>yb ⟨⟨by dsimp only; omega,by dsimp only; omega,?_,by dsimp only; omega⟩,by dsimp only; omega⟩
  dsimp only
  rw [show j.toNat = i.toNat + 1 from by omega,hstep,hl]
  unfold wB wN
  rw [if_neg (by simp [e]),List.append_nil]
theorem zgh (k t:List UInt8):yv (k,t) = some ⟨0,k,t⟩:=rfl
theorem zau (k:List UInt8) {n:Int} (h0:0 <= n) (h1:n <= 9223372036854775807):zB (k,n) = some ⟨0,k,dec n⟩:=by
 unfold zB
 show (strconv_Itoa n).bind _ = _
 rw [zat h0 h1]
 rfl
theorem zqa (u:Use) (c:Command):(wsH u c).length <= 6:=by
 have h:∀ g n,(wN g n).length <= 1:=fun g n=>by unfold wN; split <;> simp
 have h1:=h u.node c.Node
 have h2:=h u.other c.Other
 have h3:=h (decide (0 <= u.n)) c.N
 have h4:=h (decide (0 <= u.at_)) c.At
 have h5:=h (decide (0 <= u.by_)) c.By
 unfold wsH
 simp only [zyy,zyQ]
 omega
theorem zwn {c:Command} (hk:1 <= c.Kind/\c.Kind <= 14) (hg:Good (Y3 c) c):ZL c = some ⟨0,zko (Y3 c) c⟩:=by
 refine W.eq ?_
 unfold ZL
 refine zim (by omega) (by omega) ?_
 refine zu (zsm _ (by omega)) ?_
 unfold Y3 at hg ⊢
 generalize zbI.getD c.Kind.toNat default = u at hg ⊢
 refine zu (a:=⟨0,[],u.word⟩) rfl ?_
 refine zu (zwm (w0:=⟨0,[],u.word⟩) (L:=[(⟨u.node,c.Node⟩:BI),(⟨u.other,c.Other⟩:BI),(⟨decide ((0:Int) <= u.n),c.N⟩:BI),(⟨decide ((0:Int) <= u.at_),c.At⟩:BI),(⟨decide ((0:Int) <= u.by_),c.By⟩:BI)]) (by simp) ?_) ?_
 ·intro b hb e
  simp only [zyB,zyz,or_false] at hb
  rcases hb with rfl | rfl | rfl | rfl | rfl
  ·have:=hg.node e; dsimp only; omega
  ·have:=hg.other e; dsimp only; omega
  ·have:=hg.n (of_decide_eq_true e); dsimp only; omega
  ·have:=hg.at' (of_decide_eq_true e); dsimp only; omega
  ·have:=hg.by' (of_decide_eq_true e); dsimp only; omega
 have eH:((⟨0,[],u.word⟩:Word) :: List.flatMap wB [(⟨u.node,c.Node⟩:BI),(⟨u.other,c.Other⟩:BI),(⟨decide ((0:Int) <= u.n),c.N⟩:BI),(⟨decide ((0:Int) <= u.at_),c.At⟩:BI),(⟨decide ((0:Int) <= u.by_),c.By⟩:BI)]) = wsH u c:=by
  unfold wsH
  simp [wB]
 rw [eH]
 have hl:=zqa u c
 unfold zko
 refine yX (fun e=>?_) fun e=>zc (by rw [if_neg (by simp [e]),List.append_nil])
 obtain ⟨⟨d1,d2⟩,⟨p1,p2⟩,⟨b1,b2⟩,⟨l1,l2⟩,⟨t1,t2⟩⟩:=hg.ok e
 refine zu (zxw (hg.id e) hg.seq) ?_
 refine zu (zgh _ _) ?_
 refine zu (zau _ (by omega) (by omega)) ?_
 refine zu (zau _ (by omega) (by omega)) ?_
 refine zu (zau _ (by omega) (by omega)) ?_
 refine zu (zau _ (by omega) (by omega)) ?_
 refine zu (zau _ (by omega) (by omega)) ?_
 refine zu (zgh _ _) ?_
 refine zin (by simp; omega) ?_
 exact zc (by rw [if_pos e]; rfl)
theorem zsA {b:Bundle} (hi:Z1 b.ID) (hs:0 <= b.ID.Seq) (ho:okF b) (hd:b.Data.length <= 1000):zT b = some (zkn b)/\(zkn b).length <= 5000:=by
 obtain ⟨⟨d1,d2⟩,⟨p1,p2⟩,⟨b1,b2⟩,⟨l1,l2⟩,⟨t1,t2⟩⟩:=ho
 have k:=zmk hi hs
 have a1:=zK (n:=b.Dest) (by omega) (by omega)
 have a2:=zK (n:=b.Prio) (by omega) (by omega)
 have a3:=zK (n:=b.Born) (by omega) (by omega)
 have a4:=zK (n:=b.Life) (by omega) (by omega)
 have a5:=zK (n:=b.Total) (by omega) (by omega)
 have q:=zgT b.Data
 have L:(zkn b).length <= 5000:=by
  unfold zkn
  simp only [zyQ,zyy,zyC]
  omega
 refine ⟨W.eq ?_,L⟩
 unfold zT
 refine zu (zwl hi hs) ?_
 refine yw (by simp; omega) (yw (by simp; omega) ?_)
 refine zu (QY (by omega) (by omega)) (yw (by simp; omega) (yw (by simp; omega) ?_))
 refine zu (QY (by omega) (by omega)) (yw (by simp; omega) (yw (by simp; omega) ?_))
 refine zu (QY (by omega) (by omega)) (yw (by simp; omega) (yw (by simp; omega) ?_))
 refine zu (QY (by omega) (by omega)) (yw (by simp; omega) (yw (by simp; omega) ?_))
 refine zu (QY (by omega) (by omega)) (yw (by simp; omega) (yw (by simp; omega) ?_))
 refine zu (zsq (by omega)).eq (yw (by rw [show (if zbp b.Data = true then b.Data else QM b.Data) = zaM b.Data from rfl]; simp; omega) ?_)
 exact zc (by unfold zkn zaM; rfl)
theorem zdw (g:Bool) {n:Int} (h:g = true->0 <= n/\n <= 262144):(fld g n).length <= 21:=by
 unfold fld
 split
 ·rename_i e
  have:=zK (n:=n) (by have:=h e; omega) (by have:=h e; omega)
  simp only [zyy]; omega
 ·simp
theorem zmm {β:Type} {g:Bool} {n:Int} {out:List UInt8} {f:List UInt8->Option β} {Q:β->Prop} (hg:g = true->0 <= n/\n <= 262144) (ho:out.length <= 1000) (k:W (f (out++fld g n)) Q) :
  W ((br g ((zO out ([32]:List UInt8)).bind fun x_4=>(za n).bind fun x_5=>(zO x_4 x_5).bind fun x_6=>some x_6) (some out):Option (List UInt8)).bind f) Q:=by
 refine zl (R:=fun o=>o = out++fld g n) ?_ (fun a ha=>by subst ha; exact k)
 refine yX (fun e=>?_) fun e=>zc (by unfold fld; rw [if_neg (by simp [e]),List.append_nil])
 have hl:=zK (n:=n) (by have:=hg e; omega) (by have:=hg e; omega)
 refine yw (by simp; omega) ?_
 refine zu (QY (by have:=hg e; omega) (by have:=hg e; omega)) (yw (by simp; omega) (zc ?_))
 unfold fld
 rw [if_pos e]; simp
theorem zwo {c:Command} (hk:1 <= c.Kind/\c.Kind <= 14) (hg:Good (Y3 c) c):yK c = some (ziz (Y3 c) c)/\(ziz (Y3 c) c).length <= 6000:=by
 have hu:=zmi hk
 unfold Y3 at hg hu ⊢
 generalize zbI.getD c.Kind.toNat default = u at hg hu ⊢
 have f1:=zdw u.node hg.node
 have f2:=zdw u.other hg.other
 have f3:=zdw (decide (0 <= u.n)) (fun e=>hg.n (of_decide_eq_true e))
 have f4:=zdw (decide (0 <= u.at_)) (fun e=>hg.at' (of_decide_eq_true e))
 have f5:=zdw (decide (0 <= u.by_)) (fun e=>hg.by' (of_decide_eq_true e))
 have f0:=hg.word
 have hH:(zjg u c).length <= 120:=by
  unfold zjg
  simp only [zyQ]; omega
 have hR:(ziz u c).length <= 6000:=by
  unfold ziz
  split
  ·rename_i e
   have:=(zsA (hg.id e) hg.seq (hg.ok e) (hg.data e)).2
   rw [zyQ]; omega
  ·simp; omega
 refine ⟨W.eq ?_,hR⟩
 unfold yK
 refine zu hu ?_
 show W ((br u.node ((zO u.word ([32]:List UInt8)).bind fun x_4=>(za c.Node).bind fun x_5=>(zO x_4 x_5).bind fun x_6=>some x_6) (some u.word):Option (List UInt8)).bind _) _
 refine zmm (g:=u.node) hg.node (by omega) ?_
 refine zmm (g:=u.other) hg.other (by simp only [zyQ]; omega) ?_
 refine zmm (g:=decide (0 <= u.n)) (fun e=>hg.n (of_decide_eq_true e)) (by simp only [zyQ]; omega) ?_
 refine zmm (g:=decide (0 <= u.at_)) (fun e=>hg.at' (of_decide_eq_true e)) (by simp only [zyQ]; omega) ?_
 refine zmm (g:=decide (0 <= u.by_)) (fun e=>hg.by' (of_decide_eq_true e)) (by simp only [zyQ]; omega) ?_
 change W ((br u.bndl ((zT c.Bundle).bind fun x_24=>(zO (zjg u c) x_24).bind fun x_25=>some x_25) (some (zjg u c)):Option (List UInt8)).bind fun out_26=>some out_26) _
 refine zl (R:=fun o=>o = ziz u c) ?_ (fun a ha=>zc ha)
 refine yX (fun e=>?_) fun e=>zc (by unfold ziz; rw [if_neg (by simp [e]),List.append_nil])
 obtain ⟨e1,e2⟩:=zsA (hg.id e) hg.seq (hg.ok e) (hg.data e)
 refine zu e1 (yw (by omega) (zc ?_))
 unfold ziz
 rw [if_pos e]
theorem zwp {k:List UInt8} (h:k ∈ ([[105,100],[116,111],[112,114,105,111],[98,111,114,110],[108,105,102,101],[116,111,116,97,108],[100,97,116,97]]:List (List UInt8))):qJ k = some true:=by
 simp only [zyB,zyz,or_false] at h
 refine W.eq ?_
 rcases h with rfl | rfl | rfl | rfl | rfl | rfl | rfl <;>
 ·unfold qJ
  refine zu (a:=.inr ()) (Qr.2 ⟨8,by kernel_rfl⟩) ?_
  exact ⟨true,rfl,rfl⟩
theorem zsB (a b:List Word):Lib.joinTail [32] ((a++b).map wt) = Lib.joinTail [32] (a.map wt)++Lib.joinTail [32] (b.map wt):=by simp [Lib.joinTail]
theorem zdx {g:Bool} {n:Int} (h:g = true->0 <= n/\n <= 262144):Lib.joinTail [32] ((wN g n).map wt) = fld g n:=by
 unfold wN fld
 split
 ·rename_i e
  show (List.map _ [wt _]).flatten = _
  have:wt ⟨0,[],dec n⟩ = dec n:=by unfold wt; rw [if_pos rfl]; exact QE (h e).1
  rw [this]; simp
 ·rfl
theorem zsC {b:Bundle} (hi:Z1 b.ID) (hs:0 <= b.ID.Seq) (ho:okF b):Lib.joinTail [32] ((wsB b).map wt) = zkn b:=by
 obtain ⟨⟨d1,d2⟩,⟨p1,p2⟩,⟨b1,b2⟩,⟨l1,l2⟩,⟨t1,t2⟩⟩:=ho
 unfold wsB zkn
 simp only [List.map_cons,List.map_nil,wt,Lib.joinTail,List.flatten_cons,List.flatten_nil,zsy hi hs,QE (show 0 <= b.Dest by omega),QE p1,QE b1,QE (show 0 <= b.Life by omega),QE (show 0 <= b.Total by omega)]
 simp
theorem zsD {u:Use} {c:Command} (hg:Good u c):Lib.join ((zko u c).map wt) [32] = ziz u c:=by
 unfold zko ziz wsH zjg
 rw [List.cons_append,List.map_cons,Lib.join_cons]
 simp only [zsB]
 rw [zdx hg.node,zdx hg.other,zdx (g:=decide (0 <= u.n)) (fun e=>hg.n (of_decide_eq_true e)),zdx (g:=decide (0 <= u.at_)) (fun e=>hg.at' (of_decide_eq_true e)),zdx (g:=decide (0 <= u.by_)) (fun e=>hg.by' (of_decide_eq_true e))]
 have hw:wt ⟨0,[],u.word⟩ = u.word:=by unfold wt; rw [if_pos rfl]; exact zdv hg.bare
 have hb:Lib.joinTail [32] ((if u.bndl = true then wsB c.Bundle else []).map wt) = if u.bndl = true then zkn c.Bundle else []:=by
  split
  ·rename_i e
   exact zsC (hg.id e) hg.seq (hg.ok e)
  ·rfl
 rw [hw,hb]
 simp only [List.append_assoc]
theorem zvb {u:Use} {c:Command} (hg:Good u c):∀ w ∈ zko u c,okW w:=by
 have hN:∀ (g:Bool) (n:Int),(g = true->0 <= n/\n <= 262144)->∀ w ∈ wN g n,okW w:=by
  intro g n h w hw
  unfold wN at hw
  split at hw
  ·rename_i e
   simp only [zyv] at hw
   subst hw
   have:=zK (n:=n) (by have:=h e; omega) (by have:=h e; omega)
   exact ⟨by dsimp only; omega,by simp,.inl rfl⟩
  ·cases hw
 intro w hw
 unfold zko wsH at hw
 simp only [List.cons_append,zyB,List.mem_append] at hw
 rcases hw with rfl | ((((hw | hw) | hw) | hw) | hw) | hw
 ·have:=hg.word
  exact ⟨by dsimp only; omega,by simp,.inl rfl⟩
 ·exact hN _ _ hg.node w hw
 ·exact hN _ _ hg.other w hw
 ·exact hN _ _ (fun e=>hg.n (of_decide_eq_true e)) w hw
 ·exact hN _ _ (fun e=>hg.at' (of_decide_eq_true e)) w hw
 ·exact hN _ _ (fun e=>hg.by' (of_decide_eq_true e)) w hw
 ·split at hw
  rotate_left
  ·cases hw
  rename_i e
  obtain ⟨⟨d1,d2⟩,⟨p1,p2⟩,⟨b1,b2⟩,⟨l1,l2⟩,⟨t1,t2⟩⟩:=hg.ok e
  have k:=zmk (hg.id e) hg.seq
  have a1:=zK (n:=c.Bundle.Dest) (by omega) (by omega)
  have a2:=zK (n:=c.Bundle.Prio) (by omega) (by omega)
  have a3:=zK (n:=c.Bundle.Born) (by omega) (by omega)
  have a4:=zK (n:=c.Bundle.Life) (by omega) (by omega)
  have a5:=zK (n:=c.Bundle.Total) (by omega) (by omega)
  have a6:=hg.data e
  unfold wsB at hw
  simp only [zyB,zyz,or_false] at hw
  rcases hw with rfl | rfl | rfl | rfl | rfl | rfl | rfl <;> exact ⟨by dsimp only; omega,by simp,.inr (zwp (by simp))⟩
open Go Go.X Go.Eng
theorem zjh {α β:Type} [DecidableEq α] (m:List (α × β)) (k k':α) (v:β):zct (zfT m k v) k' = if k = k' then some v else zct m k':=by
 induction m with
 | nil=>simp [zfT,zct]
 | cons e m ih =>
  obtain ⟨a,b⟩:=e
  simp only [zfT]
  split
  ·rename_i h; subst h
   simp only [zct]
   split <;> rfl
  ·rename_i h
   simp only [zct,ih]
   split
   ·rename_i h'; subst h'
    rw [if_neg (fun q=>h q.symm)]
   ·rfl
theorem zsE {α β:Type} [DecidableEq α] {m:List (α × β)} {k:α} {v:β} {e:α × β} (h:e ∈ zfT m k v):e ∈ m ∨ e = (k,v):=by
 induction m with
 | nil=>simp [zfT] at h; exact .inr h
 | cons x m ih =>
  obtain ⟨a,b⟩:=x
  simp only [zfT] at h
  split at h
  ·simp only [zyB] at h ⊢
   rcases h with h | h
   ·exact .inr h
   ·exact .inl (.inr h)
  ·simp only [zyB] at h ⊢
   rcases h with h | h
   ·exact .inl (.inl h)
   ·rcases ih h with h | h
    ·exact .inl (.inr h)
    ·exact .inr h
def zq3 (a b:Int):Int:=if a < b then -1 else if b < a then 1 else 0
theorem zwq (a b:Int):qG (a,b) = some (zq3 a b):=by
 have hn:∀ x,ZS x = some false:=fun x=>by unfold ZS; simp
 unfold qG zq3
 simp only [hn,zyP,br,cond_false]
 by_cases h1:a < b
 ·simp [h1]
 ·by_cases h2:b < a <;> simp [h1,h2]
def orI (a b c:Int):Int:=if a ≠ 0 then a else if b ≠ 0 then b else c
theorem zx3 (a b c:Int):zbS [a,b,c] = some (orI a b c):=by
 refine W.eq ?_
 unfold zbS
 refine qx (fun i:Int=>i = 0 ∨ (i = 1/\a = 0) ∨ (i = 2/\a = 0/\b = 0) ∨ (i = 3/\a = 0/\b = 0/\c = 0)) (fun i=>3 - i.toNat) ?_ (by omega)
 intro i hi
 refine zj (fun h1=>?_) (fun h1=>?_)
 ·rcases hi with rfl | ⟨rfl,h⟩ | ⟨rfl,h,h'⟩ | ⟨rfl,_⟩
  ·refine zu (a:=a) rfl ?_
   refine zj (fun h2=>zr (zc ?_)) (fun h2=>?_)
   ·unfold orI; rw [if_pos h2]
   ·refine qA fun c hc=>yb (by dsimp only; omega)
  ·refine zu (a:=b) rfl ?_
   refine zj (fun h2=>zr (zc ?_)) (fun h2=>?_)
   ·unfold orI; rw [if_neg (by omega),if_pos h2]
   ·refine qA fun c hc=>yb (by dsimp only; omega)
  ·refine zu (a:=c) rfl ?_
   refine zj (fun h2=>zr (zc ?_)) (fun h2=>?_)
   ·unfold orI; rw [if_neg (by omega),if_neg (by omega)]
   ·refine qA fun c hc=>yb (by dsimp only; omega)
  ·simp at h1
 ·simp only [zyy,zyC] at h1
  refine zr (zc ?_)
  unfold orI
  rw [if_neg (by omega),if_neg (by omega)]
  omega
def zcN (a b:Contact):Int:=orI (zq3 a.Start b.Start) (zq3 a.From b.From) (zq3 a.To b.To)
theorem zq4 (a b:Contact):qU (a,b) = some (zcN a b):=by
 unfold qU
 simp only [zwq,zyP,zx3]
 rfl
theorem zkp (a b:Contact):zcN a b < 0 ↔ a.Start < b.Start ∨ (a.Start = b.Start/\(a.From < b.From ∨ (a.From = b.From/\a.To < b.To))):=by
 unfold zcN orI zq3
 (repeat' split) <;> omega
structure OKC (c:Contact):Prop where
 f:1 <= c.From/\c.From <= 16
 t:1 <= c.To/\c.To <= 16
 ne:c.From ≠ c.To
 s:0 <= c.Start/\c.Start < c.End/\c.End <= 1099511627776
 r:1 <= c.Rate/\c.Rate <= 1048576
 d:0 <= c.Delay/\c.Delay <= 1048576
def zwr (a b:Contact):Prop:=a.From = b.From->a.To = b.To->a.End <= b.Start ∨ b.End <= a.Start
structure QZ (l:List Contact):Prop where
 ok:∀ c ∈ l,OKC c
 asc:l.Pairwise (fun a b=>zcN a b < 0)
 ap:l.Pairwise zwr
theorem zgV {c:Contact} (h:OKC c):zaC .Pair (⟨c.From,c.To⟩:Pair) = true:=by
 obtain ⟨h1,h2,h3,h4,h5,h6⟩:=h
 simp only [zaC,zyL,decide_eq_true_eq]
 exact ⟨zde _ (by omega),zde _ (by omega)⟩
theorem zws {l:List (Pair × Int)} {k:Pair} (hk:zaC .Pair k = true) (hl:∀ e ∈ l,zaC .Pair e.1 = true):znr (α:=Pair) (β:=Int) (zaC .Pair) l k = some (zct l k):=by
 unfold znr
 rw [hk,List.all_eq_true.2 hl]; rfl
theorem zwt {l:List (Pair × Int)} {k:Pair} {v:Int} (hk:zaC .Pair k = true) (hl:∀ e ∈ l,zaC .Pair e.1 = true):zns (α:=Pair) (β:=Int) (zaC .Pair) l k v = some (zfT l k v):=by
 unfold zns
 rw [hk,List.all_eq_true.2 hl]; rfl
theorem zok {a b c:Contact} (h1:zcN a b < 0) (h2:zcN b c < 0):zcN a c < 0:=by
 rw [zkp] at *; omega
theorem zvc (l:List Int) (hl:l.length <= 100):W (ZJ l) fun r=>(r = true/\∀ x ∈ l,1 <= x/\x <= 16) ∨ (r = false/\¬ ∀ x ∈ l,1 <= x/\x <= 16):=by
 unfold ZJ
 refine qx (fun i:Int=>0 <= i/\i <= (l.length:Int)/\∀ x ∈ l.take i.toNat,1 <= x/\x <= 16) (fun i=>l.length - i.toNat) ?_ ⟨by omega,by omega,by simp⟩
 intro i hi
 (first | refine qA fun _ _=>?_ | refine zj ?_ ?_ <;> intro _ <;> try (exfalso; omega))
 ·refine yS (by omega) (by omega) fun x hx=>?_
  have hm:=zyu hx
  refine zj (fun h=>zr (zc (.inr ⟨rfl,fun q=>?_⟩))) fun h=>?_
  ·have:=q x hm; omega
  refine zj (fun h=>zr (zc (.inr ⟨rfl,fun q=>?_⟩))) fun h2=>?_
  ·have:=q x hm; omega
  refine qA fun j hj=>yb ⟨⟨by omega,by omega,fun y hy=>?_⟩,by omega⟩
  rw [show j.toNat = i.toNat + 1 from by omega,List.take_add_one,hx] at hy
  rcases List.mem_append.1 hy with hy | hy
  ·exact hi.2.2 y hy
  ·simp at hy; subst hy; omega
 ·refine zr (zc (.inl ⟨rfl,?_⟩))
  have:=hi.2.2
  rwa [List.take_of_length_le (by omega)] at this
theorem zvd (c:Contact):W (YS c) fun r=>(r = 0/\OKC c) ∨ (r = 2/\¬ OKC c):=by
 unfold YS
 refine zl (zvc _ (by simp)) fun r hr=>?_
 have no:¬ OKC c->W (some (2:Int)) fun r=>(r = 0/\OKC c) ∨ (r = 2/\¬ OKC c):=fun h=>zc (.inr ⟨rfl,h⟩)
 rcases hr with ⟨rfl,hr⟩ | ⟨rfl,hr⟩
 ·refine Qj (znM ?_)
  have h1:=hr c.From (by simp); have h2:=hr c.To (by simp)
  refine zj (fun h=>no fun k=>k.ne h) fun q1=>?_
  refine zj (fun h=>no fun k=>by have:=k.s; omega) fun q2=>?_
  refine zj (fun h=>no fun k=>by have:=k.s; omega) fun q3=>?_
  refine zj (fun h=>no fun k=>by have:=k.s; omega) fun q4=>?_
  refine zj (fun h=>no fun k=>by have:=k.r; omega) fun q5=>?_
  refine zj (fun h=>no fun k=>by have:=k.r; omega) fun q6=>?_
  refine zj (fun h=>no fun k=>by have:=k.d; omega) fun q7=>?_
  refine zj (fun h=>no fun k=>by have:=k.d; omega) fun q8=>?_
  exact zc (.inl ⟨rfl,⟨h1,h2,q1,by omega,by omega,by omega⟩⟩)
 ·refine Qj (znN ?_)
  refine no fun k=>hr fun x hx=>?_
  simp at hx
  rcases hx with rfl | rfl
  ·exact k.f
  ·exact k.t
theorem zsF (c:Contact):W (yM c) fun r=>(r = 0/\OKC c) ∨ (r = 2/\¬ OKC c):=by
 unfold yM
 have no:¬ OKC c->W (some (2:Int)) fun r=>(r = 0/\OKC c) ∨ (r = 2/\¬ OKC c):=fun h=>zc (.inr ⟨rfl,h⟩)
 refine zj (fun h=>no fun k=>by have:=k.f; omega) fun q1=>?_
 refine zj (fun h=>no fun k=>by have:=k.f; omega) fun q2=>?_
 refine zj (fun h=>no fun k=>by have:=k.t; omega) fun q3=>?_
 refine zj (fun h=>no fun k=>by have:=k.t; omega) fun q4=>?_
 refine zj (fun h=>no fun k=>k.ne h) fun q5=>?_
 refine zj (fun h=>no fun k=>by have:=k.s; omega) fun q6=>?_
 refine zj (fun h=>no fun k=>by have:=k.s; omega) fun q7=>?_
 refine zj (fun h=>no fun k=>by have:=k.s; omega) fun q8=>?_
 refine zj (fun h=>no fun k=>by have:=k.r; omega) fun q9=>?_
 refine zj (fun h=>no fun k=>by have:=k.r; omega) fun q10=>?_
 refine zj (fun h=>no fun k=>by have:=k.d; omega) fun q11=>?_
 refine zj (fun h=>no fun k=>by have:=k.d; omega) fun q12=>?_
 exact zc (.inl ⟨rfl,⟨by omega,by omega,q5,by omega,by omega,by omega⟩⟩)
theorem zsG (a b:Contact):ye (a,b) = some (decide (zcN a b < 0)):=by
 refine W.eq ?_
 unfold ye
 refine zj (fun h=>zc ?_) fun h=>zj (fun h2=>zc ?_) fun h2=>zc ?_
 all_goals
  rw [Bool.eq_iff_iff]
  simp only [decide_eq_true_eq,zkp]
  omega
theorem zsH (a b:Contact):yg (a,b) = some (decide (a.From = b.From/\a.To = b.To)):=by
 refine W.eq ?_
 unfold yg
 refine zj (fun h=>zc ?_) fun h=>zc ?_
 ·simp [h]; rfl
 ·simp [h]
def zqb (l:List Contact) (i:Nat) (e:Int):Prop:=∃ x,l[i]? = some x/\QZ (l.take i) /\
 ((e = 2/\¬ OKC x) ∨ (e = 19/\OKC x/\∃ y,0 < i/\l[i - 1]? = some y/\¬ zcN y x < 0) ∨
  (e = 12/\OKC x/\(∀ y,0 < i->l[i - 1]? = some y->zcN y x < 0)/\∃ c ∈ l.take i,c.From = x.From/\c.To = x.To/\x.Start < c.End))
def CR (l:List Contact) (r:Int × Int):Prop :=
 (200 < l.length/\r = (5,0)) ∨ (l.length <= 200/\QZ l/\r = (0,0)) ∨ (l.length <= 200/\∃ i:Nat,r.2 = i/\zqb l i r.1)
theorem QZ.take {l:List Contact} (h:QZ l) (i:Nat):QZ (l.take i) :=
 ⟨fun c hc=>h.ok c (List.mem_of_mem_take hc),h.asc.sublist (List.take_sublist i l),h.ap.sublist (List.take_sublist i l)⟩
theorem zaN {l:List Contact} {i:Nat} {x:Contact} (hx:l[i]? = some x):QZ (l.take (i + 1)) ↔ QZ (l.take i)/\OKC x/\(∀ y,0 < i->l[i - 1]? = some y->zcN y x < 0)/\∀ c ∈ l.take i,c.From = x.From->c.To = x.To->c.End <= x.Start:=by
 have e:l.take (i + 1) = l.take i++[x]:=by rw [List.take_add_one,hx]; rfl
 have hil:=(List.getElem?_eq_some_iff.1 hx).1
 rw [e]
 constructor
 ·rintro ⟨h1,h2,h3⟩
  rw [List.pairwise_append] at h2 h3
  have hox:OKC x:=h1 x (by simp)
  refine ⟨⟨fun c hc=>h1 c (by simp [hc]),h2.1,h3.1⟩,hox,fun y hi hy=>?_,fun c hc p1 p2=>?_⟩
  ·refine h2.2.2 y ?_ x (by simp)
   refine List.mem_iff_getElem?.2 ⟨i - 1,?_⟩
   rw [List.getElem?_take,if_pos (by omega)]; exact hy
  ·have q1:=h2.2.2 c hc x (by simp)
   have q2:=h3.2.2 c hc x (by simp) p1 p2
   have q3:=hox.s
   have q4:=(h1 c (by simp [hc])).s
   rw [zkp] at q1
   omega
 ·rintro ⟨⟨h1,h2,h3⟩,h4,h5,h6⟩
  have low:∀ c ∈ l.take i,zcN c x < 0:=by
   intro c hc
   obtain ⟨j,hj⟩:=List.mem_iff_getElem?.1 hc
   rw [List.getElem?_take] at hj
   split at hj
   case isFalse=>cases hj
   rename_i hji
   have hl1:i - 1 < l.length:=by omega
   have q:=h5 l[i - 1] (by omega) (List.getElem?_eq_getElem hl1)
   by_cases hj1:j = i - 1
   ·subst hj1
    rw [List.getElem?_eq_getElem hl1] at hj
    cases hj
    exact q
   ·have hjl:j < (l.take i).length:=by simp; omega
    have hil':i - 1 < (l.take i).length:=by simp; omega
    have:=List.pairwise_iff_getElem.1 h2 j (i - 1) hjl hil' (by omega)
    rw [List.getElem_take,List.getElem_take] at this
    have hc':l[j] = c:=(List.getElem?_eq_some_iff.1 hj).2
    rw [hc'] at this
    exact zok this q
  refine ⟨fun c hc=>?_,?_,?_⟩
  ·rcases List.mem_append.1 hc with hc | hc
   ·exact h1 c hc
   ·simp at hc; subst hc; exact h4
  ·rw [List.pairwise_append]
   exact ⟨h2,by simp,fun a ha b hb=>by simp at hb; subst hb; exact low a ha⟩
  ·rw [List.pairwise_append]
   exact ⟨h3,by simp,fun a ha b hb=>by simp at hb; subst hb; exact fun p1 p2=>.inl (h6 a ha p1 p2)⟩
theorem zqb.no {l:List Contact} {i:Nat} {e:Int} (h:zqb l i e) {k:Nat} (hk:i < k):¬ QZ (l.take k):=by
 obtain ⟨x,hx,_,h⟩:=h
 intro hv
 have hv':=hv.take (i + 1)
 rw [List.take_take,Nat.min_eq_left (by omega)] at hv'
 obtain ⟨h1,h2,h3,h4⟩:=(zaN hx).1 hv'
 rcases h with ⟨_,h⟩ | ⟨_,_,y,h,hy,hc⟩ | ⟨_,_,_,c,hc,p1,p2,p3⟩
 ·exact h h2
 ·exact hc (h3 y h hy)
 ·have:=h4 c hc p1 p2; omega
theorem CR.det {l:List Contact} {r r':Int × Int} (h:CR l r) (h':CR l r'):r = r':=by
 have bad:∀ {i:Nat} {e:Int},zqb l i e->¬ QZ l:=fun {i e} hb hv=>by
  obtain ⟨x,hx,_⟩:=id hb
  have hil:=(List.getElem?_eq_some_iff.1 hx).1
  exact hb.no (k:=l.length) hil (by rw [List.take_length]; exact hv)
 rcases h with ⟨h1,rfl⟩ | ⟨h1,h2,rfl⟩ | ⟨h1,i,hi,hb⟩ <;> rcases h' with ⟨k1,rfl⟩ | ⟨k1,k2,rfl⟩ | ⟨k1,j,hj,kb⟩
 ·rfl
 ·omega
 ·omega
 ·omega
 ·rfl
 ·exact absurd h2 (bad kb)
 ·omega
 ·exact absurd k2 (bad hb)
 ·have hij:i = j:=by
   rcases Nat.lt_trichotomy i j with q | q | q
   ·obtain ⟨x,_,hv,_⟩:=id kb; exact absurd hv (hb.no q)
   ·exact q
   ·obtain ⟨x,_,hv,_⟩:=id hb; exact absurd hv (kb.no q)
  subst hij
  obtain ⟨x,hx,_,h⟩:=hb
  obtain ⟨x',hx',_,k⟩:=kb
  rw [hx] at hx'; cases hx'
  have he:r.1 = r'.1:=by
   rcases h with ⟨a1,a2⟩ | ⟨a1,a2,y,a3,a4,a5⟩ | ⟨a1,a2,a3,_⟩ <;> rcases k with ⟨b1,b2⟩ | ⟨b1,b2,z,b3,b4,b5⟩ | ⟨b1,b2,b3,_⟩
   ·omega
   ·exact absurd b2 a2
   ·exact absurd b2 a2
   ·exact absurd a2 b2
   ·omega
   ·exact absurd (b3 y a3 a4) a5
   ·exact absurd a2 b2
   ·exact absurd (a3 z b3 b4) b5
   ·omega
  exact Prod.ext he (hi.trans hj.symm)
structure zxx (d:List Contact) (m:List (Pair × Int)):Prop where
 key:∀ e ∈ m,zaC .Pair e.1 = true
 up:∀ c ∈ d,∃ e,zct m (⟨c.From,c.To⟩:Pair) = some e/\c.End <= e
 of:∀ p e,zct m p = some e->∃ c ∈ d,(⟨c.From,c.To⟩:Pair) = p/\c.End = e
theorem zq5 (l:List Contact):W (qn l) (CR l):=by
 unfold qn
 refine zj (fun h=>zc (.inl ⟨by omega,rfl⟩)) fun hlen=>?_
 refine qx (fun s=>0 <= s.1/\s.1 <= (l.length:Int)/\QZ (l.take s.1.toNat)/\zxx (l.take s.1.toNat) s.2) (fun s=>l.length - s.1.toNat) ?_
  ⟨by simp,by simp,⟨by simp,by simp,by simp⟩,⟨by simp,by simp,fun p e h=>by simp [zct] at h⟩⟩
 rintro ⟨i,m⟩ ⟨i1,i2,i3,i4⟩
 dsimp only at i1 i2 i3 i4 ⊢
 have hlen':l.length <= 200:=by omega
 refine zj (fun hi=>?_) fun hi=>?_
 rotate_left
 ·refine zr (zc (.inr (.inl ⟨hlen',?_,rfl⟩)))
  rwa [List.take_of_length_le (by omega)] at i3
 refine yS (by omega) (by omega) fun x hx=>?_
 refine zl (zvd x) fun r hr=>?_
 rcases hr with ⟨rfl,hok⟩ | ⟨rfl,hok⟩
 rotate_left
 ·refine zj (fun _=>zr (zc (.inr (.inr ⟨hlen',i.toNat,by dsimp only; omega,x,hx,i3,.inl ⟨rfl,hok⟩⟩)))) fun h=>absurd (by decide) h
 refine zj (fun h=>absurd rfl h) fun _=>?_
 have hs:=hok.s
 have fin:(∀ y,0 < i.toNat->l[i.toNat - 1]? = some y->zcN y x < 0)->W ((Z4 x).bind fun x_9=>(znr (α:=Pair) (β:=Int) (zaC .Pair) m x_9).bind fun x_10=>br (decide (x.Start < (x_10.getD (0:Int)))) (some (.done (.inl ((12:Int),i,m))))
    ((Z4 x).bind fun x_11=>(zns (α:=Pair) (β:=Int) (zaC .Pair) m x_11 x.End).bind fun x_12=>(yj .i64 i (1:Int)).bind fun x_13=>some (.next (x_13,x_12)))) (fun (r:zcy (Int × List (Pair × Int)) ((Int × Int × List (Pair × Int)) ⊕ List (Pair × Int)))=>match r with
    | .next s=>(0 <= s.1/\s.1 <= (l.length:Int)/\QZ (l.take s.1.toNat)/\zxx (l.take s.1.toNat) s.2)/\l.length - s.1.toNat < l.length - i.toNat
    | .done r=>r = .inl ((12:Int),i,m)/\CR l (12,i)):=by
  intro hasc
  have hp:Z4 x = some (⟨x.From,x.To⟩:Pair):=rfl
  refine zu hp ?_
  refine zu (zws (zgV hok) i4.key) ?_
  refine zj (fun hlt=>?_) (fun hlt=>?_)
  ·refine zr ⟨rfl,.inr (.inr ⟨hlen',i.toNat,by dsimp only; omega,x,hx,i3,.inr (.inr ⟨rfl,hok,hasc,?_⟩)⟩)⟩
   cases hq:zct m (⟨x.From,x.To⟩:Pair) with
   | none=>rw [hq] at hlt; simp at hlt; omega
   | some e =>
    rw [hq] at hlt
    obtain ⟨c,hc,hcp,hce⟩:=i4.of _ e hq
    simp only [Pair.mk.injEq] at hcp
    simp at hlt
    exact ⟨c,hc,hcp.1,hcp.2,by omega⟩
  ·refine zu hp ?_
   refine zu (zwt (zgV hok) i4.key) ?_
   have hle:∀ c ∈ l.take i.toNat,c.From = x.From->c.To = x.To->c.End <= x.Start:=by
    intro c hc p1 p2
    obtain ⟨e,he,hce⟩:=i4.up c hc
    rw [p1,p2] at he
    rw [he] at hlt
    simp at hlt
    omega
   have hval:=(zaN hx).2 ⟨i3,hok,hasc,hle⟩
   refine qA fun j hj=>yb ⟨⟨by dsimp only; omega,by dsimp only; omega,?_,?_⟩,by dsimp only; omega⟩
   ·dsimp only
    rw [show j.toNat = i.toNat + 1 from by omega]
    exact hval
   ·dsimp only
    have ht:l.take (i.toNat + 1) = l.take i.toNat++[x]:=by rw [List.take_add_one,hx]; rfl
    rw [show j.toNat = i.toNat + 1 from by omega,ht]
    refine ⟨fun e he=>?_,fun c hc=>?_,fun p e he=>?_⟩
    ·rcases zsE he with he | rfl
     ·exact i4.key e he
     ·exact zgV hok
    ·rw [zjh]
     rcases List.mem_append.1 hc with hc | hc
     ·split
      ·rename_i heq
       simp only [Pair.mk.injEq] at heq
       exact ⟨_,rfl,by have:=hle c hc heq.1.symm heq.2.symm; omega⟩
      ·exact i4.up c hc
     ·simp at hc; subst hc
      rw [if_pos rfl]
      exact ⟨_,rfl,Int.le_refl _⟩
    ·rw [zjh] at he
     split at he
     ·rename_i heq
      cases he
      exact ⟨x,by simp,heq,rfl⟩
     ·obtain ⟨c,hc,q⟩:=i4.of p e he
      exact ⟨c,by simp [hc],q⟩
 refine zj (fun h0=>?_) fun h0=>?_
 ·refine qA fun k hk=>?_
  refine yS (by omega) (by omega) fun y hy=>?_
  have hy':l[i.toNat - 1]? = some y:=by rw [<- hy]; congr 1; omega
  refine zu (zq4 y x) ?_
  refine zj (fun hge=>?_) (fun hge=>?_)
  ·exact zr (zc (.inr (.inr ⟨hlen',i.toNat,by dsimp only; omega,x,hx,i3,.inr (.inl ⟨rfl,hok,y,by omega,hy',by omega⟩)⟩)))
  ·refine (fin fun z _ hz=>by rw [hy'] at hz; cases hz; omega).mono fun r hr=>?_
   cases r with
   | next s=>exact hr
   | done r =>
    obtain ⟨rfl,hc⟩:=hr
    exact zc hc
 ·refine (fin fun z hz=>by omega).mono fun r hr=>?_
  cases r with
  | next s=>exact hr
  | done r =>
   obtain ⟨rfl,hc⟩:=hr
   exact zc hc
theorem zol (l:List Contact):W (z6 l) (CR l):=by
 unfold z6
 refine zj (fun h=>zc (.inl ⟨by omega,rfl⟩)) fun hlen=>?_
 refine qx (fun s:Int=>0 <= s/\s <= (l.length:Int)/\QZ (l.take s.toNat)) (fun s=>l.length - s.toNat) ?_ ⟨by simp,by simp,⟨by simp,by simp,by simp⟩⟩
 rintro i ⟨i1,i2,i3⟩
 have hlen':l.length <= 200:=by omega
 refine zj (fun hi=>?_) fun hi=>?_
 rotate_left
 ·refine zr (zc (.inr (.inl ⟨hlen',?_,rfl⟩)))
  rwa [List.take_of_length_le (by omega)] at i3
 refine yS (by omega) (by omega) fun x hx=>?_
 refine zl (zsF x) fun r hr=>?_
 rcases hr with ⟨rfl,hok⟩ | ⟨rfl,hok⟩
 rotate_left
 ·refine zj (fun _=>zr (zc (.inr (.inr ⟨hlen',i.toNat,by dsimp only; omega,x,hx,i3,.inl ⟨rfl,hok⟩⟩)))) fun h=>absurd (by decide) h
 refine zj (fun h=>absurd rfl h) fun _=>?_
 refine zj (fun h0=>?_) fun h0=>?_
 ·refine qA fun k hk=>?_
  refine yS (by omega) (by omega) fun y hy=>?_
  have hy':l[i.toNat - 1]? = some y:=by rw [<- hy]; congr 1; omega
  refine yS (by omega) (by omega) fun x' hx'=>?_
  rw [hx] at hx'; cases hx'
  refine zu (zsG y x) ?_
  refine zj (fun hge=>?_) (fun hge=>?_)
  ·exact zr (zc (.inr (.inr ⟨hlen',i.toNat,by dsimp only; omega,x,hx,i3,.inr (.inl ⟨rfl,hok,y,by omega,hy',by omega⟩)⟩)))
  ·have hasc:∀ z,0 < i.toNat->l[i.toNat - 1]? = some z->zcN z x < 0:=fun z _ hz=>by rw [hy'] at hz; cases hz; omega
   refine qx (fun k:Int=>0 <= k/\k <= i/\∀ c ∈ l.take k.toNat,c.From = x.From->c.To = x.To->c.End <= x.Start) (fun k=>i.toNat - k.toNat) ?_ ⟨by simp,by omega,by simp⟩
   rintro k ⟨k1,k2,k3⟩
   refine zj (fun hk=>?_) fun hk=>?_
   rotate_left
   ·refine zr ?_
    have hki:k = i:=by omega
    subst hki
    refine qA fun j hj=>yb ⟨⟨by omega,by omega,?_⟩,by omega⟩
    rw [show j.toNat = k.toNat + 1 from by omega]
    exact (zaN hx).2 ⟨i3,hok,hasc,k3⟩
   refine yS (by omega) (by omega) fun y hy=>?_
   refine yS (by omega) (by omega) fun x' hx'=>?_
   rw [hx] at hx'; cases hx'
   refine zu (zsH y x) ?_
   have hyt:y ∈ l.take i.toNat:=List.mem_iff_getElem?.2 ⟨k.toNat,by rw [List.getElem?_take,if_pos (by omega)]; exact hy⟩
   have hnext:(y.From = x.From->y.To = x.To->y.End <= x.Start)->∀ c ∈ l.take (k.toNat + 1),c.From = x.From->c.To = x.To->c.End <= x.Start:=by
    intro h c hc
    rw [List.take_add_one,hy] at hc
    rcases List.mem_append.1 hc with hc | hc
    ·exact k3 c hc
    ·simp at hc; subst hc; exact h
   refine zj (fun hp=>?_) (fun hp=>?_)
   ·refine yS (by omega) (by omega) fun y' hy'=>?_
    rw [hy] at hy'; cases hy'
    refine yS (by omega) (by omega) fun x' hx'=>?_
    rw [hx] at hx'; cases hx'
    refine zj (fun hlt=>?_) (fun hlt=>?_)
    ·exact zr (zr (zc (.inr (.inr ⟨hlen',i.toNat,by dsimp only; omega,x,hx,i3,.inr (.inr ⟨rfl,hok,hasc,y,hyt,hp.1,hp.2,hlt⟩)⟩))))
    ·refine qA fun j hj=>yb ⟨⟨by omega,by omega,?_⟩,by omega⟩
     rw [show j.toNat = k.toNat + 1 from by omega]
     exact hnext fun _ _=>by omega
   ·refine qA fun j hj=>yb ⟨⟨by omega,by omega,?_⟩,by omega⟩
    rw [show j.toNat = k.toNat + 1 from by omega]
    exact hnext fun p1 p2=>absurd ⟨p1,p2⟩ hp
 ·have hasc:∀ z,0 < i.toNat->l[i.toNat - 1]? = some z->zcN z x < 0:=fun z hz=>by omega
  refine qx (fun k:Int=>0 <= k/\k <= i/\∀ c ∈ l.take k.toNat,c.From = x.From->c.To = x.To->c.End <= x.Start) (fun k=>i.toNat - k.toNat) ?_ ⟨by simp,by omega,by simp⟩
  rintro k ⟨k1,k2,k3⟩
  refine zj (fun hk=>?_) fun hk=>?_
  rotate_left
  ·refine zr ?_
   have hki:k = i:=by omega
   subst hki
   refine qA fun j hj=>yb ⟨⟨by omega,by omega,?_⟩,by omega⟩
   rw [show j.toNat = k.toNat + 1 from by omega]
   exact (zaN hx).2 ⟨i3,hok,hasc,k3⟩
  refine yS (by omega) (by omega) fun y hy=>?_
  refine yS (by omega) (by omega) fun x' hx'=>?_
  rw [hx] at hx'; cases hx'
  refine zu (zsH y x) ?_
  have hyt:y ∈ l.take i.toNat:=List.mem_iff_getElem?.2 ⟨k.toNat,by rw [List.getElem?_take,if_pos (by omega)]; exact hy⟩
  have hnext:(y.From = x.From->y.To = x.To->y.End <= x.Start)->∀ c ∈ l.take (k.toNat + 1),c.From = x.From->c.To = x.To->c.End <= x.Start:=by
   intro h c hc
   rw [List.take_add_one,hy] at hc
   rcases List.mem_append.1 hc with hc | hc
   ·exact k3 c hc
   ·simp at hc; subst hc; exact h
  refine zj (fun hp=>?_) (fun hp=>?_)
  ·refine yS (by omega) (by omega) fun y' hy'=>?_
   rw [hy] at hy'; cases hy'
   refine yS (by omega) (by omega) fun x' hx'=>?_
   rw [hx] at hx'; cases hx'
   refine zj (fun hlt=>?_) (fun hlt=>?_)
   ·exact zr (zr (zc (.inr (.inr ⟨hlen',i.toNat,by dsimp only; omega,x,hx,i3,.inr (.inr ⟨rfl,hok,hasc,y,hyt,hp.1,hp.2,hlt⟩)⟩))))
   ·refine qA fun j hj=>yb ⟨⟨by omega,by omega,?_⟩,by omega⟩
    rw [show j.toNat = k.toNat + 1 from by omega]
    exact hnext fun _ _=>by omega
  ·refine qA fun j hj=>yb ⟨⟨by omega,by omega,?_⟩,by omega⟩
   rw [show j.toNat = k.toNat + 1 from by omega]
   exact hnext fun p1 p2=>absurd ⟨p1,p2⟩ hp
theorem zom {α:Type} {n:Nat} {l m:List α} (h:(l.length + m.length) * n <= 140737488355328):app n l m = some (l++m):=by unfold app; rw [if_pos h]
theorem zsI {α:Type} (l:List α):slc l 0 (l.length:Int) = some l:=by
 unfold slc
 rw [if_pos ⟨by omega,by omega,by omega⟩]
 simp
def zgW (n:Int):List UInt8:=32 :: dec n
def qC (c:Contact):List Int:=[c.From,c.To,c.Start,c.End,c.Rate,c.Delay]
def zmn:List UInt8:=[99,111,110,116,97,99,116]
def zbJ (c:Contact):List UInt8:=zmn++(qC c).flatMap zgW++[10]
theorem zgX {c:Contact} (h:OKC c) {n:Int} (hn:n ∈ qC c):0 <= n/\n <= 1099511627776:=by
 obtain ⟨h1,h2,h3,h4,h5,h6⟩:=h
 simp only [qC,zyB,zyz,or_false] at hn
 omega
theorem Ye {n:Int} (h:0 <= n/\n <= 1099511627776):(dec n).length <= 13:=zgg 12 n h.1 (by omega)
theorem ziA (s:List UInt8):(zY s).length = s.length:=by simp [zY]
theorem zq6 (s:List UInt8):Zz (zY s) = some s:=by
 unfold Zz zY
 rw [if_pos]
 ·congr 1
  rw [List.map_map]
  conv=>rhs; rw [<- List.map_id s]
  exact List.map_congr_left fun b _=>by simp
 ·rw [List.all_eq_true]
  intro n hn
  obtain ⟨b,_,rfl⟩:=List.mem_map.1 hn
  have:=b.toNat_lt
  simp
  omega
theorem zve {l:List Int} {n:Int} (h:0 <= n/\n <= 1099511627776) (h1:1 <= l.length) (h2:l.length <= 100000):znK l n 10 = some (l++zY (dec n)):=by
 unfold znK
 rw [if_pos ⟨rfl,by omega,by omega,h1,by omega⟩]
 rfl
theorem zsJ {l:List Contact} (hv:∀ c ∈ l,OKC c) (hl:l.length <= 200) {c2:Int} (hc:qn l = some (0,c2)):W (Yg l) fun r=>r = (l.flatMap zbJ,0):=by
 unfold Yg
 refine zu hc ?_
 dsimp only
 refine zj (fun h=>absurd rfl h) fun _=>?_
 refine qx (fun s:List Int × Int=>(0 <= s.2/\s.2 <= l.length)/\s.1 = zY ((l.take s.2.toNat).flatMap zbJ)/\s.1.length <= 92 * s.2) (fun s=>l.length - s.2.toNat) ?_ ⟨⟨by simp,by simp⟩,by simp [zY],by simp⟩
 rintro ⟨o,i⟩ ⟨⟨h0,h1⟩,h2,h3⟩
 dsimp only at h0 h1 h2 h3 ⊢
 refine zj (fun hi=>?_) fun hi=>?_
 ·refine yS h0 hi fun c hx=>?_
  have hok:=hv c (zyu hx)
  refine qx (fun s:List Int × List Int × Int=>s.1 = o/\(0 <= s.2.2/\s.2.2 <= 6)/\s.2.1 = zY (zmn++((qC c).take s.2.2.toNat).flatMap zgW)/\s.2.1.length <= 7 + 14 * s.2.2) (fun s=>6 - s.2.2.toNat) ?_ ⟨rfl,⟨by simp,by simp⟩,by simp [zY,zmn],by simp⟩
  rintro ⟨o',row,j⟩ ⟨k0,⟨k1,k2⟩,k3,k4⟩
  dsimp only at k0 k1 k2 k3 k4 ⊢
  subst k0
  refine zj (fun hj=>?_) fun hj=>?_
  ·refine zim k1 (by omega) ?_
   refine yS k1 (by simp; omega) fun n hn=>?_
   have hn':(qC c)[j.toNat]? = some n:=hn
   have hno:=zgX hok (zyu hn')
   have hnl:=Ye hno
   refine zj (fun _=>?_) fun h=>absurd rfl h
   refine zu (zsI row) ?_
   refine zu (zom (by simp; omega)) ?_
   refine zu (zve hno (by simp) (by simp; omega)) ?_
   refine qA fun j' hj'=>yb ⟨⟨rfl,⟨by dsimp only; omega,by dsimp only; omega⟩,?_,?_⟩,by dsimp only; omega⟩
   ·dsimp only
    rw [show j'.toNat = j.toNat + 1 from by omega,List.take_add_one,hn',k3]
    simp [YK,zgW,zY]
   ·dsimp only
    simp only [zyQ,ziA,zyy,zyC]
    omega
  ·refine zr ?_
   dsimp only
   have e6:(qC c).take j.toNat = qC c:=List.take_of_length_le (by simp [qC]; omega)
   rw [e6] at k3
   refine zu (zom (by omega)) ?_
   refine zu (zom (by simp; omega)) ?_
   refine qA fun i' hi'=>yb ⟨⟨⟨by dsimp only; omega,by dsimp only; omega⟩,?_,?_⟩,by dsimp only; omega⟩
   ·dsimp only
    rw [show i'.toNat = i.toNat + 1 from by omega,List.take_add_one,hx,h2,k3]
    simp [YK,zbJ,zY]
   ·dsimp only
    simp only [zyQ,zyy,zyC]
    omega
 ·refine zr ?_
  rw [List.take_of_length_le (by omega)] at h2
  refine zj (fun h=>by omega) fun _=>?_
  rw [h2]
  exact zu (zq6 _) (zc rfl)
theorem zmo {c:Contact} (h:OKC c):(zbJ c).length <= 92:=by
 have fo:∀ n,n ∈ qC c->(dec n).length <= 13:=fun n hn=>Ye (zgX h hn)
 have b1:=fo c.From (by simp [qC]); have b2:=fo c.To (by simp [qC]); have b3:=fo c.Start (by simp [qC])
 have b4:=fo c.End (by simp [qC]); have b5:=fo c.Rate (by simp [qC]); have b6:=fo c.Delay (by simp [qC])
 simp [zbJ,zmn,qC,zgW]
 omega
theorem zon {c:Contact} (h:OKC c):z7 c = some (zbJ c):=by
 refine W.eq ?_
 have fo:∀ n,n ∈ qC c->0 <= n/\n <= 1099511627776:=fun n hn=>zgX h hn
 have a1:=fo c.From (by simp [qC]); have a2:=fo c.To (by simp [qC]); have a3:=fo c.Start (by simp [qC])
 have a4:=fo c.End (by simp [qC]); have a5:=fo c.Rate (by simp [qC]); have a6:=fo c.Delay (by simp [qC])
 have b1:=Ye a1; have b2:=Ye a2; have b3:=Ye a3; have b4:=Ye a4; have b5:=Ye a5; have b6:=Ye a6
 unfold z7
 refine zu (QY a1.1 (by omega)) (yw (by simp; omega) (yw (by simp; omega) ?_))
 refine zu (QY a2.1 (by omega)) (yw (by simp; omega) (yw (by simp; omega) ?_))
 refine zu (QY a3.1 (by omega)) (yw (by simp; omega) (yw (by simp; omega) ?_))
 refine zu (QY a4.1 (by omega)) (yw (by simp; omega) (yw (by simp; omega) ?_))
 refine zu (QY a5.1 (by omega)) (yw (by simp; omega) (yw (by simp; omega) ?_))
 refine zu (QY a6.1 (by omega)) (yw (by simp; omega) (yw (by simp; omega) ?_))
 exact zc (by simp [zbJ,zmn,qC,zgW])
open Go Go.X Go.Eng Go.RowKit
def q1 (c:Config):Prop:=(1 <= c.Node/\c.Node <= 16)/\(1 <= c.Quota/\c.Quota <= 1099511627776)/\(1 <= c.Largest/\c.Largest <= 1200)/\c.Window <= c.Quota/\c.Low <= c.Quota
def q2 (c:Config):Prop:=(1 <= c.Retry/\c.Retry <= 1000)/\(c.Retry <= c.RetryMax/\c.RetryMax <= 100000)/\(0 <= c.Bypass/\c.Bypass <= 100)
def q3 (c:Config):Prop:=(1 <= c.Weights.getD 0 0/\c.Weights.getD 0 0 <= 100)/\(1 <= c.Weights.getD 1 0/\c.Weights.getD 1 0 <= 100)/\(1 <= c.Weights.getD 2 0/\c.Weights.getD 2 0 <= 100)
def q4 (c:Config):Prop:=(0 <= c.RateN/\c.RateN <= 1048576)/\(1 <= c.RateD/\c.RateD <= 1048576)/\(1 <= c.Burst/\c.Burst <= 1099511627776)/\(8 <= c.Blocks/\c.Blocks <= 4096)/\(0 <= c.Rate/\c.Rate <= 1048576)
def okG (c:Config):Prop:=q1 c/\q2 c/\q3 c/\q4 c
theorem zx4 (l:List W3) (hl:l.length <= 100):W (YR l) fun r=>(r = true/\∀ x ∈ l,x.b <= x.a/\x.a <= x.c) ∨ (r = false/\¬ ∀ x ∈ l,x.b <= x.a/\x.a <= x.c):=by
 unfold YR
 refine qx (fun i:Int=>0 <= i/\i <= (l.length:Int)/\∀ x ∈ l.take i.toNat,x.b <= x.a/\x.a <= x.c) (fun i=>l.length - i.toNat) ?_ ⟨by omega,by omega,by simp⟩
 intro i hi
 refine zj (fun h=>?_) fun h=>?_
 ·refine yS (by omega) (by omega) fun x hx=>?_
  have hm:=zyu hx
  refine zj (fun h=>zr (zc (.inr ⟨rfl,fun q=>?_⟩))) fun h=>?_
  ·have:=q x hm; omega
  refine zj (fun h=>zr (zc (.inr ⟨rfl,fun q=>?_⟩))) fun h2=>?_
  ·have:=q x hm; omega
  refine qA fun j hj=>yb ⟨⟨by omega,by omega,fun y hy=>?_⟩,by omega⟩
  rw [show j.toNat = i.toNat + 1 from by omega,List.take_add_one,hx] at hy
  rcases List.mem_append.1 hy with hy | hy
  ·exact hi.2.2 y hy
  ·simp at hy; subst hy; omega
 ·refine zr (zc (.inl ⟨rfl,?_⟩))
  have:=hi.2.2
  rwa [List.take_of_length_le (by omega)] at this
theorem zxy (l:List U3) (hl:l.length <= 100):W (ZI l) fun r=>(r = true/\∀ x ∈ l,x.b <= x.a/\x.a <= x.c) ∨ (r = false/\¬ ∀ x ∈ l,x.b <= x.a/\x.a <= x.c):=by
 unfold ZI
 refine qx (fun i:Int=>0 <= i/\i <= (l.length:Int)/\∀ x ∈ l.take i.toNat,x.b <= x.a/\x.a <= x.c) (fun i=>l.length - i.toNat) ?_ ⟨by omega,by omega,by simp⟩
 intro i hi
 refine zj (fun h=>?_) fun h=>?_
 ·refine yS (by omega) (by omega) fun x hx=>?_
  have hm:=zyu hx
  refine zj (fun h=>zr (zc (.inr ⟨rfl,fun q=>?_⟩))) fun h=>?_
  ·have:=q x hm; omega
  refine zj (fun h=>zr (zc (.inr ⟨rfl,fun q=>?_⟩))) fun h2=>?_
  ·have:=q x hm; omega
  refine qA fun j hj=>yb ⟨⟨by omega,by omega,fun y hy=>?_⟩,by omega⟩
  rw [show j.toNat = i.toNat + 1 from by omega,List.take_add_one,hx] at hy
  rcases List.mem_append.1 hy with hy | hy
  ·exact hi.2.2 y hy
  ·simp at hy; subst hy; omega
 ·refine zr (zc (.inl ⟨rfl,?_⟩))
  have:=hi.2.2
  rwa [List.take_of_length_le (by omega)] at this
def base (c:Config):List W3:=[(⟨c.Node,(1:Int),(16:Int)⟩:W3),(⟨c.Retry,(1:Int),(1000:Int)⟩:W3),(⟨c.RetryMax,c.Retry,(100000:Int)⟩:W3),(⟨c.Bypass,(0:Int),(100:Int)⟩:W3),(⟨c.RateN,(0:Int),(1048576:Int)⟩:W3),(⟨c.RateD,(1:Int),(1048576:Int)⟩:W3),(⟨c.Burst,(1:Int),(1099511627776:Int)⟩:W3),(⟨c.Blocks,(8:Int),(4096:Int)⟩:W3),(⟨c.Rate,(0:Int),(1048576:Int)⟩:W3)]
def w3 (x:Int):W3:=⟨x,1,100⟩
theorem zsK (c:Config) (h1:0 <= c.Window) (h2:0 <= c.Low):W (Zi c) fun r=>(r = 0/\okG c) ∨ (r = 2/\¬ okG c):=by
 unfold Zi
 refine qx (fun s:List W3 × Int=>(0 <= s.2/\s.2 <= 3)/\s.1 = base c++((qi c.Weights).take s.2.toNat).map w3) (fun s=>3 - s.2.toNat) ?_ ⟨⟨by simp,by simp⟩,rfl⟩
 rintro ⟨l,i⟩ ⟨⟨h0,h3⟩,hl⟩
 dsimp only at h0 h3 hl ⊢
 subst hl
 refine zj (fun hi=>?_) fun hi=>?_
 ·refine zim h0 (by omega) ?_
  refine yS h0 (by show i < 3; omega) fun x hx=>?_
  have hn:(((qi c.Weights).take i.toNat).map w3).length <= 3:=by simp; omega
  refine zin (by rw [zyQ]; simp [base] at *; omega) ?_
  refine qA fun j hj=>yb ⟨⟨⟨by dsimp only; omega,by dsimp only; omega⟩,?_⟩,by dsimp only; omega⟩
  dsimp only
  rw [show j.toNat = i.toNat + 1 from by omega,List.take_add_one,hx]
  simp [w3]
 ·have e3:i = 3:=by omega
  subst e3
  refine zr ?_
  have el:base c++((qi c.Weights).take (3:Int).toNat).map w3 = base c++[w3 (c.Weights.getD 0 0),w3 (c.Weights.getD 1 0),w3 (c.Weights.getD 2 0)]:=rfl
  rw [el]
  refine zl (zx4 _ (by simp [base])) fun r hr=>?_
  have e1:(∀ x ∈ base c++[w3 (c.Weights.getD 0 0),w3 (c.Weights.getD 1 0),w3 (c.Weights.getD 2 0)],x.b <= x.a/\x.a <= x.c) ↔ (((1 <= c.Node/\c.Node <= 16)/\(1 <= c.Retry/\c.Retry <= 1000)/\(c.Retry <= c.RetryMax/\c.RetryMax <= 100000)/\(0 <= c.Bypass/\c.Bypass <= 100)/\(0 <= c.RateN/\c.RateN <= 1048576)/\(1 <= c.RateD/\c.RateD <= 1048576)/\(1 <= c.Burst/\c.Burst <= 1099511627776)/\(8 <= c.Blocks/\c.Blocks <= 4096)/\(0 <= c.Rate/\c.Rate <= 1048576))/\(1 <= c.Weights.getD 0 0/\c.Weights.getD 0 0 <= 100)/\(1 <= c.Weights.getD 1 0/\c.Weights.getD 1 0 <= 100)/\(1 <= c.Weights.getD 2 0/\c.Weights.getD 2 0 <= 100)):=by
   simp only [base,w3,List.forall_mem_append,List.forall_mem_cons,zyz,false_imp_iff,implies_true,and_true]
  rw [e1] at hr
  rcases hr with ⟨rfl,hr⟩ | ⟨rfl,hr⟩
  rotate_left
  ·exact Qj (znN (zc (.inr ⟨rfl,fun k=>hr ⟨⟨k.1.1,k.2.1.1,k.2.1.2.1,k.2.1.2.2,k.2.2.2⟩,k.2.2.1⟩⟩)))
  refine Qj (znM ?_)
  refine zl (zxy _ (by simp)) fun r hr2=>?_
  simp only [List.forall_mem_cons,zyz,false_imp_iff,implies_true,and_true] at hr2
  rcases hr2 with ⟨rfl,q⟩ | ⟨rfl,q⟩
  ·exact Qj (znM (zc (.inl ⟨rfl,⟨hr.1.1,q.1,q.2.1,q.2.2.1.2,q.2.2.2.2⟩,⟨hr.1.2.1,hr.1.2.2.1,hr.1.2.2.2.1⟩,hr.2,hr.1.2.2.2.2⟩)))
  ·exact Qj (znN (zc (.inr ⟨rfl,fun k=>q ⟨k.1.2.1,k.1.2.2.1,⟨h1,k.1.2.2.2.1⟩,⟨h2,k.1.2.2.2.2⟩⟩⟩)))
theorem zcb (n lo hi:Int):zf (n,lo,hi) = some (decide (lo <= n) && decide (n <= hi)):=by
 unfold zf
 by_cases h:lo <= n <;> simp [br,h]
theorem zoo (u z:Bool):br u (some z) (some false) = some (u && z):=by cases u <;> rfl
def wOK (x:Int):Bool:=decide (1 <= x) && decide (x <= 100)
theorem zop (c:Config):W (yp c) fun r=>(r = 0/\okG c) ∨ (r = 2/\¬ okG c):=by
 unfold yp
 refine zl (R:=fun b:Bool=>b = true ↔ q1 c) ?_ fun b1 g1=>?_
 ·simp only [zcb,zyP,zoo]
  refine zc ?_
  unfold q1
  simp only [zyL,decide_eq_true_eq,and_assoc]
 refine zl (R:=fun b:Bool=>b = true ↔ q1 c/\q2 c) ?_ fun b2 g2=>?_
 ·simp only [zcb,zyP,zoo]
  refine zc ?_
  unfold q2
  simp only [zyL,decide_eq_true_eq,g1,and_assoc]
 refine qx (fun s:Bool × Int=>(0 <= s.2/\s.2 <= 3)/\s.1 = (b2 && ((qi c.Weights).take s.2.toNat).all wOK)) (fun s=>3 - s.2.toNat) ?_ ⟨⟨by simp,by simp⟩,by simp⟩
 rintro ⟨o,i⟩ ⟨⟨h0,h3⟩,ho⟩
 dsimp only at h0 h3 ho ⊢
 subst ho
 by_cases hi:i < 3
 ·rw [decide_eq_true hi]
  refine zl (R:=fun x=>x = .inl ()) (zc rfl) ?_
  rintro _ rfl
  dsimp only [Sum.elim_inl]
  obtain ⟨x,e1,hx⟩:=znO (l:=qi c.Weights) h0 (by show i < 3; exact hi)
  refine zl (R:=fun b=>b = ((b2 && ((qi c.Weights).take i.toNat).all wOK) && wOK x)) ?_ ?_
  ·refine yX (fun e=>?_) fun e=>zc (by rw [e]; rfl)
   rw [e]
   refine zim h0 (by omega) ?_
   rw [e1]
   simp only [zcb,zyP]
   exact zc rfl
  ·rintro _ rfl
   refine qA fun j hj=>yb ⟨⟨⟨by dsimp only; omega,by dsimp only; omega⟩,?_⟩,by dsimp only; omega⟩
   dsimp only
   rw [show j.toNat = i.toNat + 1 from by omega,List.take_add_one,hx,List.all_append,Bool.and_assoc]
   simp
 ·have e3:i = 3:=by omega
  subst e3
  rw [decide_eq_false hi]
  refine zl (R:=fun x=>x = .inr ()) (zc rfl) ?_
  rintro _ rfl
  refine zr ?_
  have el:(qi c.Weights).take (3:Int).toNat = [c.Weights.getD 0 0,c.Weights.getD 1 0,c.Weights.getD 2 0]:=rfl
  rw [el]
  dsimp only
  refine zl (R:=fun b:Bool=>b = true ↔ okG c) ?_ ?_
  ·simp only [zcb,zyP,zoo]
   refine zc ?_
   unfold okG q3 q4
   simp only [List.all_cons,List.all_nil,wOK,zyL,decide_eq_true_eq,Bool.and_true,and_assoc,g2]
  ·intro b hb
   cases b
   ·refine zl (R:=fun x=>x = .inr 2) (zc rfl) ?_
    rintro _ rfl
    exact zc (.inr ⟨rfl,fun k=>by simpa using hb.2 k⟩)
   ·refine zl (R:=fun x=>x = .inl ()) (zc rfl) ?_
    rintro _ rfl
    exact zc (.inl ⟨rfl,hb.1 rfl⟩)
def cf (c:Config):Config:=⟨c.Node,c.Quota,c.Largest,c.Window,c.Low,c.Retry,c.RetryMax,c.Bypass,(qi c.Weights),c.RateN,c.RateD,c.Burst,c.Blocks,c.Rate⟩
def cW (c:Config):List Word:=[⟨0,[],[110,111,100,101]⟩,⟨0,[],dec c.Node⟩,⟨0,[113,117,111,116,97],dec c.Quota⟩,⟨0,[108,97,114,103,101,115,116],dec c.Largest⟩,⟨0,[119,105,110,100,111,119],dec c.Window⟩,⟨0,[108,111,119],dec c.Low⟩,⟨0,[114,101,116,114,121],dec c.Retry⟩,⟨0,[114,101,116,114,121,109,97,120],dec c.RetryMax⟩,⟨0,[98,121,112,97,115,115],dec c.Bypass⟩,⟨0,[119,101,105,103,104,116,115],dec (c.Weights.getD 0 0)++[46]++dec (c.Weights.getD 1 0)++[46]++dec (c.Weights.getD 2 0)⟩,⟨0,[114,97,116,101],dec c.RateN++[47]++dec c.RateD⟩,⟨0,[98,117,114,115,116],dec c.Burst⟩,⟨0,[98,108,111,99,107,115],dec c.Blocks⟩,⟨0,[108,105,110,107],dec c.Rate⟩]
def cT (c:Config):List UInt8:=[110,111,100,101,32]++dec c.Node++[32,113,117,111,116,97,61]++dec c.Quota++[32,108,97,114,103,101,115,116,61]++dec c.Largest++[32,119,105,110,100,111,119,61]++dec c.Window++[32,108,111,119,61]++dec c.Low++[32,114,101,116,114,121,61]++dec c.Retry++[32,114,101,116,114,121,109,97,120,61]++dec c.RetryMax++[32,98,121,112,97,115,115,61]++dec c.Bypass++[32,119,101,105,103,104,116,115,61]++dec (c.Weights.getD 0 0)++[46]++dec (c.Weights.getD 1 0)++[46]++dec (c.Weights.getD 2 0)++[32,114,97,116,101,61]++dec c.RateN++[47]++dec c.RateD++[32,98,117,114,115,116,61]++dec c.Burst++[32,98,108,111,99,107,115,61]++dec c.Blocks++[32,108,105,110,107,61]++dec c.Rate
def cN (c:Config):Prop:=∀ n ∈ [c.Node,c.Quota,c.Largest,c.Window,c.Low,c.Retry,c.RetryMax,c.Bypass,c.Weights.getD 0 0,c.Weights.getD 1 0,c.Weights.getD 2 0,c.RateN,c.RateD,c.Burst,c.Blocks,c.Rate],0 <= n/\n <= 1099511627776
theorem zsL {c:Config} (h:okG c) (h1:0 <= c.Window) (h2:0 <= c.Low):cN c:=by
 obtain ⟨⟨a1,a2,a3,a4,a5⟩,⟨b1,b2,b3⟩,⟨c1,c2,c3⟩,d1,d2,d3,d4,d5⟩:=h
 unfold cN
 generalize c.Weights.getD 0 0 = w0 at *
 generalize c.Weights.getD 1 0 = w1 at *
 generalize c.Weights.getD 2 0 = w2 at *
 intro n hn
 simp only [zyB,zyz,or_false] at hn
 omega
theorem zkq {c:Config} (h:cN c):(cT c).length <= 900:=by
 have f:∀ n ∈ [c.Node,c.Quota,c.Largest,c.Window,c.Low,c.Retry,c.RetryMax,c.Bypass,c.Weights.getD 0 0,c.Weights.getD 1 0,c.Weights.getD 2 0,c.RateN,c.RateD,c.Burst,c.Blocks,c.Rate],(dec n).length <= 20:=fun n hn=>zK (h n hn).1 (by have:=h n hn; omega)
 simp only [List.forall_mem_cons,zyz,false_imp_iff,implies_true,and_true] at f
 obtain ⟨f1,f2,f3,f4,f5,f6,f7,f8,f9,f10,f11,f12,f13,f14,f15,f16⟩:=f
 unfold cT
 simp only [zyQ,zyy,zyC]
 omega
open Go Go.X Go.Eng Go.RowKit
theorem zmp (b:List UInt8) (hb:b.length = 1) (l:List Int) (hl:l.length <= 3) (h:∀ n ∈ l,0 <= n/\n <= 1099511627776):qr (b,l) = some (Lib.join (l.map dec) b):=by
 refine W.eq ?_
 unfold qr
 refine qx (fun s:List (List UInt8) × Int=>0 <= s.2/\s.2 <= (l.length:Int)/\s.1 = (l.take s.2.toNat).map dec) (fun s=>l.length - s.2.toNat) ?_ ⟨Int.le_refl _,by simp,rfl⟩
 rintro ⟨o,i⟩ ⟨h0,h1,ho⟩
 dsimp only at h0 h1 ho ⊢
 subst ho
 refine zj (fun hi=>?_) fun hi=>?_
 ·refine yS h0 hi fun x hx=>?_
  have hm:=h x (zyu hx)
  refine zu (zat hm.1 (by omega)) ?_
  refine zin (by simp; omega) ?_
  refine qA fun j hj=>yb ⟨⟨by dsimp only; omega,by dsimp only; omega,?_⟩,by dsimp only; omega⟩
  dsimp only
  rw [show j.toNat = i.toNat + 1 from by omega,List.take_add_one,hx]
  simp
 ·refine zr ?_
  rw [List.take_of_length_le (by omega)]
  refine zu (a:=Lib.join (l.map dec) b) ?_ (zc rfl)
  have f:∀ n ∈ l,(dec n).length <= 20:=fun n hn=>zK (h n hn).1 (by have:=h n hn; omega)
  have L:(Lib.join (l.map dec) b).length <= 100:=by
   match l,hl,f with
   | [],_,_=>simp [Lib.join]
   | [x],_,f =>
    have:=f x (by simp)
    rw [List.map_cons,Lib.join_cons,zyQ]
    simp [Lib.joinTail]; omega
   | [x,y],_,f =>
    have:=f x (by simp); have:=f y (by simp)
    rw [List.map_cons,Lib.join_cons,zyQ]
    simp [Lib.joinTail]; omega
   | [x,y,z],_,f =>
    have:=f x (by simp); have:=f y (by simp); have:=f z (by simp)
    rw [List.map_cons,Lib.join_cons,zyQ]
    simp [Lib.joinTail]; omega
   | _ :: _ :: _ :: _ :: _,hl,_=>simp at hl
  unfold strings_Join znL
  dsimp only
  rw [if_pos ⟨by rw [List.length_map]; omega,by omega⟩]
theorem zkr (k:List UInt8) {n:Int} (h:0 <= n/\n <= 1099511627776):zM (k,n) = some ⟨0,k,dec n⟩:=by
 unfold zM
 show (zD (n,10)).bind _ = _
 rw [zsv h.1 (by omega)]
 rfl
theorem zwu {n:Int} (h:0 <= n/\n <= 1099511627776):yx n = some ⟨0,[],dec n⟩:=by
 unfold yx
 rw [zat h.1 (by omega)]
 rfl
theorem zks {c:Config} (h:cN c):yC c = some ⟨0,cW c⟩:=by
 unfold cN at h
 simp only [List.forall_mem_cons,zyz,false_imp_iff,implies_true,and_true] at h
 obtain ⟨f1,f2,f3,f4,f5,f6,f7,f8,f9,f10,f11,f12,f13,f14,f15,f16⟩:=h
 have v:∀ k {n:Int},0 <= n/\n <= 1099511627776->zB (k,n) = some ⟨0,k,dec n⟩:=fun k n h=>zau k h.1 (by omega)
 refine W.eq ?_
 unfold yC
 refine zu (a:=⟨0,[],[110,111,100,101]⟩) rfl ?_
 refine zu (zwu f1) ?_
 refine zu (zkr _ f2) ?_
 refine zu (zkr _ f3) ?_
 refine zu (zkr _ f4) ?_
 refine zu (zkr _ f5) ?_
 refine zu (v _ f6) ?_
 refine zu (v _ f7) ?_
 refine zu (v _ f8) ?_
 refine zu (zmp [46] rfl _ (by simp) (by simp only [List.forall_mem_cons,zyz,false_imp_iff,implies_true,and_true]; exact ⟨f9,f10,f11⟩)) ?_
 refine zu (zgh _ _) ?_
 refine zu (zmp [47] rfl _ (by simp) (by simp only [List.forall_mem_cons,zyz,false_imp_iff,implies_true,and_true]; exact ⟨f12,f13⟩)) ?_
 refine zu (zgh _ _) ?_
 refine zu (v _ f14) ?_
 refine zu (v _ f15) ?_
 refine zu (v _ f16) ?_
 refine zc ?_
 have e1:∀ (x y z:List UInt8),Lib.join [x,y,z] [46] = x++[46]++y++[46]++z:=fun x y z=>by rw [Lib.join_cons]; simp [Lib.joinTail]
 have e2:∀ (x y:List UInt8),Lib.join [x,y] [47] = x++[47]++y:=fun x y=>by rw [Lib.join_cons]; simp [Lib.joinTail]
 unfold cW
 simp only [List.map_cons,List.map_nil,e1,e2]
theorem zvf {k:List UInt8} (h:k ∈ ([[113,117,111,116,97],[108,97,114,103,101,115,116],[119,105,110,100,111,119],[108,111,119],[114,101,116,114,121],[114,101,116,114,121,109,97,120],[98,121,112,97,115,115],[119,101,105,103,104,116,115],[114,97,116,101],[98,117,114,115,116],[98,108,111,99,107,115],[108,105,110,107]]:List (List UInt8))):qJ k = some true:=by
 simp only [zyB,zyz,or_false] at h
 refine W.eq ?_
 rcases h with rfl | rfl | rfl | rfl | rfl | rfl | rfl | rfl | rfl | rfl | rfl | rfl <;>
 ·unfold qJ
  refine zu (a:=.inr ()) (Qr.2 ⟨12,by kernel_rfl⟩) ?_
  exact ⟨true,rfl,rfl⟩
theorem zji {l:List UInt8} (h:∀ c ∈ l,46 <= c.toNat/\c.toNat <= 57) (hn:l ≠ []):zaM l = l:=zdv (zkm h hn)
theorem zxz {c:Config} (h:cN c):∀ w ∈ cW c,okW w:=by
 have f:∀ n ∈ [c.Node,c.Quota,c.Largest,c.Window,c.Low,c.Retry,c.RetryMax,c.Bypass,c.Weights.getD 0 0,c.Weights.getD 1 0,c.Weights.getD 2 0,c.RateN,c.RateD,c.Burst,c.Blocks,c.Rate],(dec n).length <= 20:=fun n hn=>zK (h n hn).1 (by have:=h n hn; omega)
 simp only [List.forall_mem_cons,zyz,false_imp_iff,implies_true,and_true] at f
 obtain ⟨f1,f2,f3,f4,f5,f6,f7,f8,f9,f10,f11,f12,f13,f14,f15,f16⟩:=f
 intro w hw
 unfold cW at hw
 simp only [zyB,zyz,or_false] at hw
 rcases hw with rfl | rfl | hw
 ·exact ⟨by simp,by simp,.inl rfl⟩
 ·exact ⟨by dsimp only; omega,by simp,.inl rfl⟩
 rcases hw with rfl | rfl | rfl | rfl | rfl | rfl | rfl | rfl | rfl | rfl | rfl | rfl <;> exact ⟨by simp only [zyQ,zyy,zyC]; omega,by simp,.inr (zvf (by simp))⟩
theorem zvg {c:Config} (h:cN c):Lib.join ((cW c).map wt) [32] = cT c:=by
 have q:∀ n ∈ [c.Node,c.Quota,c.Largest,c.Window,c.Low,c.Retry,c.RetryMax,c.Bypass,c.Weights.getD 0 0,c.Weights.getD 1 0,c.Weights.getD 2 0,c.RateN,c.RateD,c.Burst,c.Blocks,c.Rate],zaM (dec n) = dec n/\∀ x ∈ dec n,46 <= x.toNat/\x.toNat <= 57:=fun n hn=>⟨QE (h n hn).1,fun x hx=>by have:=zca _ n (h n hn).1 (Nat.le_refl _) x hx; omega⟩
 simp only [List.forall_mem_cons,zyz,false_imp_iff,implies_true,and_true] at q
 obtain ⟨⟨f1,_⟩,⟨f2,_⟩,⟨f3,_⟩,⟨f4,_⟩,⟨f5,_⟩,⟨f6,_⟩,⟨f7,_⟩,⟨f8,_⟩,⟨_,g9⟩,⟨_,g10⟩,⟨_,g11⟩,⟨_,g12⟩,⟨_,g13⟩,⟨f14,_⟩,⟨f15,_⟩,f16,_⟩:=q
 have fw:zaM (dec (c.Weights.getD 0 0)++[46]++dec (c.Weights.getD 1 0)++[46]++dec (c.Weights.getD 2 0)) = dec (c.Weights.getD 0 0)++[46]++dec (c.Weights.getD 1 0)++[46]++dec (c.Weights.getD 2 0):=by
  refine zji (fun x hx=>?_) (by simp)
  simp only [List.mem_append,zyv] at hx
  rcases hx with (((hx | rfl) | hx) | rfl) | hx
  ·exact g9 x hx
  ·decide
  ·exact g10 x hx
  ·decide
  ·exact g11 x hx
 have fr:zaM (dec c.RateN++[47]++dec c.RateD) = dec c.RateN++[47]++dec c.RateD:=by
  refine zji (fun x hx=>?_) (by simp)
  simp only [List.mem_append,zyv] at hx
  rcases hx with (hx | rfl) | hx
  ·exact g12 x hx
  ·decide
  ·exact g13 x hx
 have fn:zaM [110,111,100,101] = [110,111,100,101]:=zdv (by kernel_rfl)
 have wk:∀ k t,k ≠ []->wt ⟨0,k,t⟩ = k++[61]++zaM t:=fun k t hk=>by unfold wt; rw [if_neg hk]
 have wn:∀ t,wt ⟨0,[],t⟩ = zaM t:=fun t=>by unfold wt; rw [if_pos rfl]
 unfold cW cT
 rw [List.map_cons,Lib.join_cons]
 simp only [List.map_cons,List.map_nil,Lib.joinTail,List.flatten_cons,List.flatten_nil]
 rw [wn,wn,wk _ _ (by simp),wk _ _ (by simp),wk _ _ (by simp),wk _ _ (by simp),wk _ _ (by simp),wk _ _ (by simp),wk _ _ (by simp),wk _ _ (by simp),wk _ _ (by simp),wk _ _ (by simp),wk _ _ (by simp),wk _ _ (by simp)]
 rw [fn,f1,f2,f3,f4,f5,f6,f7,f8,fw,fr,f14,f15,f16]
 simp only [List.append_assoc,List.cons_append,List.nil_append,List.append_nil]
theorem zwv {c:Config} (h:cN c):(yC c).bind (fun r=>qy [r]) = some (cT c++[10],0):=by
 refine W.eq ?_
 refine zu (zks h) ?_
 have ht:=zvU (ws:=cW c) (by unfold cW; simp) (by unfold cW; simp) (zxz h)
 rw [zvg h,if_neg (by have:=zkq h; omega)] at ht
 exact ht
theorem zgY {β:Type} {B:Nat} {n:Int} {out lit:List UInt8} {f:List UInt8->Option β} {Q:β->Prop} (h:0 <= n/\n <= 1099511627776) (hl:out.length <= B) (k:∀ o,o = out++lit++dec n->o.length <= B + 40->W (f o) Q) (hk:lit.length <= 20:=by decide) (hB:B <= 10000:=by decide):W ((zO out lit).bind fun x=>(za n).bind fun y=>(zO x y).bind f) Q:=by
 have hd:=zK h.1 (by omega:n <= 9223372036854775807)
 refine yw (by omega) (zu (QY h.1 (by omega)) (yw (by simp only [zyQ]; omega) (k _ rfl ?_)))
 simp only [zyQ]; omega
theorem zvh {β:Type} {B:Nat} {n:Int} {out lit:List UInt8} {f:List UInt8->Option β} {Q:β->Prop} (h:0 <= n/\n <= 1099511627776) (hl:out.length <= B) (k:∀ o,o = out++lit++dec n->o.length <= B + 40->W (f o) Q) (hk:lit.length <= 20:=by decide) (hB:B <= 10000:=by decide):W ((zO out lit).bind fun x=>(zp n).bind fun y=>(zO x y).bind f) Q:=by
 have hd:=zK h.1 (by omega:n <= 9223372036854775807)
 refine yw (by omega) (zu (zmj h.1 (by omega)) (yw (by simp only [zyQ]; omega) (k _ rfl ?_)))
 simp only [zyQ]; omega
theorem zq7 {c:Config} (h:cN c):zU c = some (cT c++[10]):=by
 have q:=h
 unfold cN at q
 simp only [List.forall_mem_cons,zyz,false_imp_iff,implies_true,and_true] at q
 obtain ⟨f1,f2,f3,f4,f5,f6,f7,f8,f9,f10,f11,f12,f13,f14,f15,f16⟩:=q
 have d1:=zK f1.1 (by omega:c.Node <= 9223372036854775807)
 refine W.eq ?_
 unfold zU
 refine zu (QY f1.1 (by omega:c.Node <= 9223372036854775807)) (yw (by simp only [zyy,zyC]; omega) ?_)
 generalize ho1:([110,111,100,101,32]:List UInt8)++dec c.Node = o1
 have l1:o1.length <= 25:=by rw [<- ho1]; simp only [zyQ,zyy,zyC]; omega
 refine zvh f2 l1 fun o2 h2 l2=>?_
 refine zvh f3 l2 fun o3 h3 l3=>?_
 refine zvh f4 l3 fun o4 h4 l4=>?_
 refine zvh f5 l4 fun o5 h5 l5=>?_
 refine zgY f6 l5 fun o6 h6 l6=>?_
 refine zgY f7 l6 fun o7 h7 l7=>?_
 refine zgY f8 l7 fun o8 h8 l8=>?_
 refine zgY f9 l8 fun o9 h9 l9=>?_
 refine zgY f10 l9 fun o10 h10 l10=>?_
 refine zgY f11 l10 fun o11 h11 l11=>?_
 refine zgY f12 l11 fun o12 h12 l12=>?_
 refine zgY f13 l12 fun o13 h13 l13=>?_
 refine zgY f14 l13 fun o14 h14 l14=>?_
 refine zgY f15 l14 fun o15 h15 l15=>?_
 refine zgY f16 l15 fun o16 h16 l16=>?_
 refine yw (by simp only [zyy,zyC]; omega) (zc ?_)
 subst h16 h15 h14 h13 h12 h11 h10 h9 h8 h7 h6 h5 h4 h3 h2 ho1
 rfl
theorem zsM {c:Config} (h:cN c):zU (cf c) = some (cT c++[10]):=zq7 (c:=cf c) h
open Go Go.X Go.Eng Go.RowKit
def ff (b:Nat->Option Fault):Nat->Option Fault
 | 0=>none
 | n + 1=>match ff b n with | some f=>some f | none=>b n
theorem zcc {b:Nat->Option Fault}:∀ {n:Nat},(∀ j,j < n->b j = none)->ff b n = none
 | 0,_=>rfl
 | n + 1,h=>by
  rw [ff,zcc fun j hj=>h j (by omega)]
  exact h n (by omega)
theorem zaO {b:Nat->Option Fault} {i:Nat} {f:Fault} (h:∀ j,j < i->b j = none) (hb:b i = some f):∀ {n:Nat},i < n->ff b n = some f
 | 0,hi=>absurd hi (by omega)
 | n + 1,hi=>by
  by_cases e:i = n
  ·subst e
   rw [ff,zcc h]
   exact hb
  ·rw [ff,zaO h hb (by omega:i < n)]
theorem zoq {b:Nat->Option Fault}:∀ {n:Nat},ff b n = none->∀ j,j < n->b j = none
 | 0,_,j,hj=>absurd hj (by omega)
 | n + 1,h,j,hj=>by
  rw [ff] at h
  split at h
  ·cases h
  ·rename_i e
   by_cases ej:j = n
   ·subst ej; exact h
   ·exact zoq e j (by omega)
theorem zor {b:Nat->Option Fault} (hb:∀ j f,b j = some f->f.Err ≠ 0):∀ {n:Nat} {f:Fault},ff b n = some f->f.Err ≠ 0
 | 0,f,h=>by cases h
 | n + 1,f,h=>by
  rw [ff] at h
  split at h
  ·rename_i e; cases h; exact zor hb e
  ·exact hb _ _ h
open Classical in
def zcv (l:List Config) (j:Nat):Option Fault :=
 match l[j]? with
 | none=>none
 | some x=>if ¬ okG x then some ⟨2,j⟩ else if ∃ y,0 < j/\l[j - 1]? = some y/\x.Node <= y.Node then some ⟨19,j⟩ else none
def zf0 (s:Script) (j:Nat):Option Fault :=
 match s.Commands[j]? with
 | none=>none
 | some x=>if YP x (Yw s.Configs) = 0 then none else some ⟨YP x (Yw s.Configs),j⟩
def ckF (s:Script) (p:Int × Int):Fault :=
 if s.Configs.length = 0 then ⟨8,0⟩ else if 16 < s.Configs.length then ⟨5,0⟩ else
 match ff (zcv s.Configs) s.Configs.length with
 | some f=>f
 | none=>if p.1 ≠ 0 then ⟨p.1,p.2⟩ else if 400 < s.Commands.length then ⟨5,0⟩ else
  match ff (zf0 s) s.Commands.length with
  | some f=>f
  | none=>⟨0,0⟩
theorem zos {l:List Config} {i:Nat} {x:Config} (hx:l[i]? = some x) (h:¬ okG x):zcv l i = some ⟨2,i⟩:=by
 unfold zcv; rw [hx]; dsimp only; rw [if_pos h]
theorem zqc {l:List Config} {i:Nat} {x y:Config} (hx:l[i]? = some x) (h:okG x) (h0:0 < i) (hy:l[i - 1]? = some y) (hn:x.Node <= y.Node):zcv l i = some ⟨19,i⟩:=by
 unfold zcv; rw [hx]; dsimp only; rw [if_neg (fun k=>k h),if_pos ⟨y,h0,hy,hn⟩]
theorem zgi {l:List Config} {i:Nat} {x:Config} (hx:l[i]? = some x) (h:okG x) (hn:∀ y,0 < i->l[i - 1]? = some y->¬ x.Node <= y.Node):zcv l i = none:=by
 unfold zcv; rw [hx]; dsimp only; rw [if_neg (fun k=>k h),if_neg]
 rintro ⟨y,a,b,c⟩
 exact hn y a b c
theorem zqd {s:Script} {i:Nat} {x:Command} (hx:s.Commands[i]? = some x) (h:YP x (Yw s.Configs) = 0):zf0 s i = none:=by
 unfold zf0; rw [hx]; dsimp only; rw [if_pos h]
theorem zgZ {s:Script} {i:Nat} {x:Command} (hx:s.Commands[i]? = some x) (h:YP x (Yw s.Configs) ≠ 0):zf0 s i = some ⟨YP x (Yw s.Configs),i⟩:=by
 unfold zf0; rw [hx]; dsimp only; rw [if_neg h]
theorem zww {s:Script} (hl:s.Configs.length <= 1000) (c:Command):ZK (s,c) = some (YP c (Yw s.Configs)):=by
 refine W.eq ?_
 unfold ZK
 refine zu (zu9 c s hl).eq (zc rfl)
theorem zwx {s:Script} (hl:s.Configs.length <= 1000) (c:Command):yI (s,c) = some (YP c (Yw s.Configs)):=by
 refine W.eq ?_
 unfold yI
 refine zu (zst s c false hl).eq (zc ?_)
 exact zoh fun n _=>⟨fun h=>h.elim (fun k=>by cases k) id,.inr⟩
theorem zdy {b:Nat->Option Fault} {i:Nat} (h:∀ j,j < i->b j = none) (hi:b i = none):∀ j,j < i + 1->b j = none:=fun j hj=>by
 by_cases e:j = i
 ·subst e; exact hi
 ·exact h j (by omega)
theorem zsN (s:Script) (hw:∀ c ∈ s.Configs,0 <= c.Window/\0 <= c.Low) (hm:s.Commands.length <= 1000) {p:Int × Int} (hp:z6 s.Plan = some p):zk s = some (ckF s p):=by
 refine W.eq ?_
 unfold zk ckF
 refine zj (fun h=>zc (by rw [if_pos (by omega)])) fun h0=>?_
 rw [if_neg (by omega)]
 refine zj (fun h=>zc (by rw [if_pos (by omega)])) fun h1=>?_
 rw [if_neg (by omega)]
 refine zl (R:=fun r:Fault ⊕ Fault=>(∃ f,r = .inl f/\ff (zcv s.Configs) s.Configs.length = some f) ∨ (r = .inr ⟨0,0⟩/\ff (zcv s.Configs) s.Configs.length = none)) ?_ ?_
 ·refine zbh (fun t:Int × Fault=>(0 <= t.1/\t.1 <= (s.Configs.length:Int))/\t.2 = ⟨0,0⟩/\∀ j,j < t.1.toNat->zcv s.Configs j = none) (fun t=>s.Configs.length - t.1.toNat) ?_ ⟨⟨by simp,by simp⟩,rfl,fun j hj=>by simp at hj⟩
  rintro ⟨i,f⟩ ⟨⟨i0,i1⟩,hf,hj⟩
  dsimp only at i0 i1 hf hj ⊢
  subst hf
  refine zj (fun hi=>?_) fun hi=>zr (.inr ⟨rfl,zcc fun j h=>hj j (by omega)⟩)
  refine yS i0 hi fun x hx=>?_
  have hil:i.toNat < s.Configs.length:=by omega
  refine zl (zop (cf x)) fun r hr=>?_
  rcases hr with ⟨rfl,hok⟩ | ⟨rfl,hok⟩
  rotate_left
  ·refine zj (fun _=>zr (.inl ⟨_,rfl,?_⟩)) fun h=>absurd (by decide) h
   rw [zaO hj (zos hx hok) hil]
   congr 2; omega
  refine zj (fun h=>absurd rfl h) fun _=>?_
  refine zj (fun h=>?_) fun h=>?_
  ·refine yS i0 hi fun x' hx'=>?_
   rw [hx] at hx'; cases hx'
   refine qA fun k hk=>?_
   refine yS (by omega) (by omega) fun y hy=>?_
   rw [show k.toNat = i.toNat - 1 from by omega] at hy
   refine zj (fun hn=>zr (.inl ⟨_,rfl,?_⟩)) fun hn=>?_
   ·rw [zaO hj (zqc hx hok (by omega) hy hn) hil]
    congr 2; omega
   ·refine qA fun j' hj'=>yb ⟨⟨⟨by dsimp only; omega,by dsimp only; omega⟩,rfl,?_⟩,by dsimp only; omega⟩
    dsimp only
    rw [show j'.toNat = i.toNat + 1 from by omega]
    exact zdy hj (zgi hx hok fun z _ hz=>by rw [hy] at hz; cases hz; exact hn)
  ·refine qA fun j' hj'=>yb ⟨⟨⟨by dsimp only; omega,by dsimp only; omega⟩,rfl,?_⟩,by dsimp only; omega⟩
   dsimp only
   rw [show j'.toNat = i.toNat + 1 from by omega]
   exact zdy hj (zgi hx hok fun z hz=>by omega)
 rintro r (⟨f,rfl,hf⟩ | ⟨rfl,hf⟩)
 ·rw [hf]
  exact zc rfl
 rw [hf]
 dsimp only [Sum.elim_inr]
 refine zu hp ?_
 obtain ⟨p1,p2⟩:=p
 dsimp only
 refine zj (fun h=>zc (by rw [if_pos h])) fun h=>?_
 rw [if_neg h]
 refine zj (fun h=>zc (by rw [if_pos (by omega)])) fun h4=>?_
 rw [if_neg (by omega)]
 refine zl (R:=fun r:Fault ⊕ Fault=>(∃ f,r = .inl f/\ff (zf0 s) s.Commands.length = some f) ∨ (r = .inr ⟨0,0⟩/\ff (zf0 s) s.Commands.length = none)) ?_ ?_
 ·refine zbh (fun t:Int × Fault=>(0 <= t.1/\t.1 <= (s.Commands.length:Int))/\t.2 = ⟨0,0⟩/\∀ j,j < t.1.toNat->zf0 s j = none) (fun t=>s.Commands.length - t.1.toNat) ?_ ⟨⟨by simp,by simp⟩,rfl,fun j hj=>by simp at hj⟩
  rintro ⟨i,f⟩ ⟨⟨i0,i1⟩,hf,hj⟩
  dsimp only at i0 i1 hf hj ⊢
  subst hf
  refine zj (fun hi=>?_) fun hi=>zr (.inr ⟨rfl,zcc fun j h=>hj j (by omega)⟩)
  refine yS i0 hi fun x hx=>?_
  have hil:i.toNat < s.Commands.length:=by omega
  refine zu (zwx (by omega) x) ?_
  refine zj (fun hn=>zr (.inl ⟨_,rfl,?_⟩)) fun hn=>?_
  ·rw [zaO hj (zgZ hx hn) hil]
   congr 2; omega
  ·refine qA fun j' hj'=>yb ⟨⟨⟨by dsimp only; omega,by dsimp only; omega⟩,rfl,?_⟩,by dsimp only; omega⟩
   dsimp only
   rw [show j'.toNat = i.toNat + 1 from by omega]
   exact zdy hj (zqd hx (zyH fun k=>hn k))
 rintro r (⟨f,rfl,hf⟩ | ⟨rfl,hf⟩)
 ·rw [hf]
  exact zc rfl
 ·rw [hf]
  exact zc rfl
theorem zsO (s:Script) (hw:∀ c ∈ s.Configs,0 <= c.Window/\0 <= c.Low) (hm:s.Commands.length <= 1000) {p:Int × Int} (hp:qn s.Plan = some p):zX s = some (ckF s p):=by
 refine W.eq ?_
 unfold zX ckF
 by_cases h0:s.Configs.length = 0
 ·rw [if_pos h0]
  refine zl (R:=fun r=>r = .inr (⟨8,0⟩:Fault)) (zj (fun _=>zc rfl) fun h=>by omega) ?_
  rintro _ rfl
  exact zc rfl
 rw [if_neg h0]
 refine zl (R:=fun r=>r = .inl (⟨0,0⟩:Fault)) (zj (fun h=>by omega) fun _=>zc rfl) ?_
 rintro _ rfl
 dsimp only [Sum.elim_inl]
 by_cases h1:16 < s.Configs.length
 ·rw [if_pos h1]
  refine zl (R:=fun r=>r = .inr (⟨5,0⟩:Fault)) (zj (fun _=>zc rfl) fun h=>by omega) ?_
  rintro _ rfl
  exact zc rfl
 rw [if_neg h1]
 refine zl (R:=fun r=>r = .inl (⟨0,0⟩:Fault)) (zj (fun h=>by omega) fun _=>zc rfl) ?_
 rintro _ rfl
 dsimp only [Sum.elim_inl]
 refine zl (R:=fun r:Fault ⊕ Fault=>(∃ f,r = .inl f/\ff (zcv s.Configs) s.Configs.length = some f) ∨ (r = .inr ⟨0,0⟩/\ff (zcv s.Configs) s.Configs.length = none)) ?_ ?_
 ·refine zbh (fun t:Int × Fault=>(0 <= t.1/\t.1 <= (s.Configs.length:Int))/\t.2 = ⟨0,0⟩/\∀ j,j < t.1.toNat->zcv s.Configs j = none) (fun t=>s.Configs.length - t.1.toNat) ?_ ⟨⟨by simp,by simp⟩,rfl,fun j hj=>by simp at hj⟩
  rintro ⟨i,f⟩ ⟨⟨i0,i1⟩,hf,hj⟩
  dsimp only at i0 i1 hf hj ⊢
  subst hf
  by_cases hi:i < (s.Configs.length:Int)
  rotate_left
  ·refine zl (R:=fun r=>r = .inr ()) (zj (fun h=>absurd h hi) fun _=>zc rfl) ?_
   rintro _ rfl
   exact zr (.inr ⟨rfl,zcc fun j h=>hj j (by omega)⟩)
  refine zl (R:=fun r=>r = .inl ()) (zj (fun _=>zc rfl) fun h=>absurd hi h) ?_
  rintro _ rfl
  dsimp only [Sum.elim_inl]
  refine yS i0 hi fun x hx=>?_
  have hil:i.toNat < s.Configs.length:=by omega
  have hwx:=hw x (zyu hx)
  refine zl (R:=fun r=>(r = .inr (⟨2,i⟩:Fault)/\¬ okG x) ∨ (r = .inl (⟨0,0⟩:Fault)/\okG x)) ?_ ?_
  ·refine zl (zsK (cf x) hwx.1 hwx.2) fun r hr=>?_
   rcases hr with ⟨rfl,hok⟩ | ⟨rfl,hok⟩
   ·exact zj (fun h=>absurd rfl h) fun _=>zc (.inr ⟨rfl,hok⟩)
   ·exact zj (fun _=>zc (.inl ⟨rfl,hok⟩)) fun h=>absurd (by decide) h
  rintro r (⟨rfl,hok⟩ | ⟨rfl,hok⟩)
  ·refine zr (.inl ⟨_,rfl,?_⟩)
   rw [zaO hj (zos hx hok) hil]
   congr 2; omega
  dsimp only [Sum.elim_inl]
  refine zl (R:=fun b:Bool=>(b = true/\zcv s.Configs i.toNat = some ⟨19,i⟩) ∨ (b = false/\zcv s.Configs i.toNat = none)) ?_ ?_
  ·refine zj (fun h=>?_) fun h=>zc (.inr ⟨rfl,zgi hx hok fun z hz=>by omega⟩)
   refine qA fun k hk=>?_
   refine yS (by omega) (by omega) fun y hy=>zc ?_
   rw [show k.toNat = i.toNat - 1 from by omega] at hy
   by_cases hn:x.Node <= y.Node
   ·refine .inl ⟨decide_eq_true hn,?_⟩
    rw [zqc hx hok (by omega) hy hn]
    congr 2; omega
   ·exact .inr ⟨decide_eq_false hn,zgi hx hok fun z _ hz=>by rw [hy] at hz; cases hz; exact hn⟩
  rintro b (⟨rfl,hb⟩ | ⟨rfl,hb⟩)
  ·exact znM (zr (.inl ⟨_,rfl,zaO hj hb hil⟩))
  ·refine znN (qA fun j' hj'=>yb ⟨⟨⟨by dsimp only; omega,by dsimp only; omega⟩,rfl,?_⟩,by dsimp only; omega⟩)
   dsimp only
   rw [show j'.toNat = i.toNat + 1 from by omega]
   exact zdy hj hb
 rintro r (⟨f,rfl,hf⟩ | ⟨rfl,hf⟩)
 ·rw [hf]
  exact zc rfl
 rw [hf]
 dsimp only [Sum.elim_inr]
 obtain ⟨p1,p2⟩:=p
 by_cases hp1:p1 ≠ 0
 ·refine zl (R:=fun r=>r = .inr (⟨p1,p2⟩:Fault)) (zu hp (zj (fun _=>zc rfl) fun h=>absurd hp1 h)) ?_
  rintro _ rfl
  exact zc (by rw [if_pos hp1])
 refine zl (R:=fun r=>r = .inl (⟨0,0⟩:Fault)) (zu hp (zj (fun h=>absurd h hp1) fun _=>zc rfl)) ?_
 rintro _ rfl
 dsimp only [Sum.elim_inl]
 rw [if_neg hp1]
 by_cases h4:400 < s.Commands.length
 ·refine zl (R:=fun r=>r = .inr (⟨5,0⟩:Fault)) (zj (fun _=>zc rfl) fun h=>by omega) ?_
  rintro _ rfl
  exact zc (by rw [if_pos h4])
 refine zl (R:=fun r=>r = .inl (⟨0,0⟩:Fault)) (zj (fun h=>by omega) fun _=>zc rfl) ?_
 rintro _ rfl
 dsimp only [Sum.elim_inl]
 rw [if_neg h4]
 refine zl (R:=fun r:Fault ⊕ Fault=>(∃ f,r = .inl f/\ff (zf0 s) s.Commands.length = some f) ∨ (r = .inr ⟨0,0⟩/\ff (zf0 s) s.Commands.length = none)) ?_ ?_
 ·refine zbh (fun t:Int × Fault=>(0 <= t.1/\t.1 <= (s.Commands.length:Int))/\t.2 = ⟨0,0⟩/\∀ j,j < t.1.toNat->zf0 s j = none) (fun t=>s.Commands.length - t.1.toNat) ?_ ⟨⟨by simp,by simp⟩,rfl,fun j hj=>by simp at hj⟩
  rintro ⟨i,f⟩ ⟨⟨i0,i1⟩,hf,hj⟩
  dsimp only at i0 i1 hf hj ⊢
  subst hf
  by_cases hi:i < (s.Commands.length:Int)
  rotate_left
  ·refine zl (R:=fun r=>r = .inr ()) (zj (fun h=>absurd h hi) fun _=>zc rfl) ?_
   rintro _ rfl
   exact zr (.inr ⟨rfl,zcc fun j h=>hj j (by omega)⟩)
  refine zl (R:=fun r=>r = .inl ()) (zj (fun _=>zc rfl) fun h=>absurd hi h) ?_
  rintro _ rfl
  dsimp only [Sum.elim_inl]
  refine yS i0 hi fun x hx=>?_
  have hil:i.toNat < s.Commands.length:=by omega
  refine zu (zww (by omega) x) ?_
  refine zj (fun hn=>zr (.inl ⟨_,rfl,?_⟩)) fun hn=>?_
  ·rw [zaO hj (zgZ hx hn) hil]
   congr 2; omega
  ·refine qA fun j' hj'=>yb ⟨⟨⟨by dsimp only; omega,by dsimp only; omega⟩,rfl,?_⟩,by dsimp only; omega⟩
   dsimp only
   rw [show j'.toNat = i.toNat + 1 from by omega]
   exact zdy hj (zqd hx (zyH fun k=>hn k))
 rintro r (⟨f,rfl,hf⟩ | ⟨rfl,hf⟩)
 ·rw [hf]
  exact zc rfl
 ·rw [hf]
  exact zc rfl
structure zot (s:Script):Prop where
 cl:s.Configs.length <= 16
 ok:∀ c ∈ s.Configs,okG c
 pl:s.Plan.length <= 200
 pv:QZ s.Plan
 p1:qn s.Plan = some (0,0)
 ml:s.Commands.length <= 400
 one:∀ c ∈ s.Commands,YP c (Yw s.Configs) = 0
theorem zdz (s:Script) (hw:∀ c ∈ s.Configs,0 <= c.Window/\0 <= c.Low) (hm:s.Commands.length <= 1000):∃ f,zX s = some f/\zk s = some f/\(f.Err = 0->zot s):=by
 obtain ⟨p,hp,hr⟩:=zq5 s.Plan
 obtain ⟨p',hp',hr'⟩:=zol s.Plan
 have:=hr.det hr'
 subst this
 refine ⟨_,zsO s hw hm hp,zsN s hw hm hp',?_⟩
 unfold ckF
 intro h
 split at h
 ·cases h
 split at h
 ·cases h
 rename_i h16
 split at h
 ·rename_i f hf
  exact absurd h (zor (fun j f hb=>by
   unfold zcv at hb
   split at hb
   ·cases hb
   ·split at hb
    ·cases hb; simp
    ·split at hb <;> cases hb; simp) hf)
 rename_i hf
 split at h
 ·rename_i hp0; exact absurd h hp0
 rename_i hp0
 split at h
 ·cases h
 rename_i h400
 split at h
 ·rename_i f hf
  exact absurd h (zor (fun j f hb=>by
   unfold zf0 at hb
   split at hb
   ·cases hb
   ·split at hb <;> cases hb; assumption) hf)
 rename_i hg
 have hp0:p.1 = 0:=zyH hp0
 have hv:s.Plan.length <= 200/\QZ s.Plan/\p = (0,0):=by
  rcases hr with ⟨_,h⟩ | ⟨h1,h,h2⟩ | ⟨_,i,_,x,_,_,h⟩
  ·rw [h] at hp0; cases hp0
  ·exact ⟨h1,h,h2⟩
  ·rcases h with ⟨h,_⟩ | ⟨h,_⟩ | ⟨h,_⟩ <;> omega
 refine ⟨by omega,fun c hc=>?_,hv.1,hv.2.1,by rw [hp,hv.2.2],by omega,fun c hc=>?_⟩
 ·obtain ⟨j,hj⟩:=List.mem_iff_getElem?.1 hc
  have hjl:=(List.getElem?_eq_some_iff.1 hj).1
  have:=zoq hf j hjl
  refine zyH fun k=>?_
  rw [zos hj k] at this
  cases this
 ·obtain ⟨j,hj⟩:=List.mem_iff_getElem?.1 hc
  have hjl:=(List.getElem?_eq_some_iff.1 hj).1
  have:=zoq hg j hjl
  refine zyH fun k=>?_
  rw [zgZ hj k] at this
  cases this
open Go Go.X Go.Eng Go.RowKit
theorem zes {c:Command} {p q:Int->Prop} (h:YP c p = 0) (hq:∀ n,isN n->q n):YP c q = 0:=by
 unfold YP at h ⊢
 by_cases hk:1 <= c.Kind/\c.Kind <= 14
 rotate_left
 ·rw [if_neg hk] at h; cases h
 rw [if_pos hk] at h ⊢
 unfold zdu at h ⊢
 by_cases hr:rg1 (Y3 c) c/\rg2 (Y3 c) c
 rotate_left
 ·rw [if_pos hr] at h; cases h
 rw [if_neg (fun k=>k hr)] at h ⊢
 by_cases hm:ms (Y3 c) c p
 rotate_left
 ·rw [if_pos hm] at h; cases h
 rw [if_neg (fun k=>k hm)] at h
 rw [if_neg (fun k=>k ⟨fun e=>hq _ (hr.1.1 e),fun e=>hq _ (hr.1.2 e).1⟩)]
 exact h
def mB (c:Command):List UInt8:=ziz (Y3 c) c
def rw1 (t:List UInt8):List UInt8 × Int:=if 1000 < t.length then ([],4) else (t++[10],0)
theorem zvV {c:Command} {p:Int->Prop} (h:YP c p = 0) (hs:0 <= c.Bundle.ID.Seq):zt2 c = some (rw1 (mB c))/\yL c = some (rw1 (mB c)):=by
 obtain ⟨hk,hg⟩:=zp9 (zes h fun _ h=>h) hs
 obtain ⟨r1,r2⟩:=zwo hk hg
 have ht:=zvU (ws:=zko (Y3 c) c) (by unfold zko wsH; simp) (by
  have:=zqa (Y3 c) c
  unfold zko
  rw [zyQ]
  split <;> simp [wsB] <;> omega) (zvb hg)
 rw [zsD hg] at ht
 refine ⟨W.eq ?_,W.eq ?_⟩
 ·unfold zt2
  refine zu (zwn hk hg) ?_
  exact ht
 ·have e1:=(zst ⟨[],[],[]⟩ c true (by simp)).eq
  rw [zes h (q:=zog ⟨[],[],[]⟩ true) fun _ _=>.inl rfl] at e1
  unfold yL
  refine zu e1 ?_
  refine yX (fun h=>by simp at h) fun _=>?_
  refine zu r1 ?_
  unfold rw1 mB
  refine zj (fun h=>zc (by rw [if_pos (by omega)])) fun h=>yw (by simp; omega) (zc (by rw [if_neg (by omega)]))
theorem zou {α:Type} {g:α->List UInt8} {B:Nat}:∀ {l:List α},(∀ x ∈ l,(g x).length <= B)->(l.flatMap g).length <= l.length * B
 | [],_=>by simp
 | x :: l,h=>by
  have a:=h x (zyw ..)
  have b:=zou (l:=l) fun y hy=>h y (zyx _ hy)
  rw [List.flatMap_cons,zyQ,zyy,Nat.add_mul]
  omega
theorem zkt {α:Type} {f:α->Option (List UInt8 × Int)} {g:α->List UInt8} {K:List UInt8->Option (List UInt8 × Int)} {B:Nat}:∀ (l:List α) (acc:List UInt8),(∀ x ∈ l,f x = some (g x,0)/\(g x).length <= B)->acc.length + l.length * B <= 1000000000->txK f K l acc = K (acc++l.flatMap g)
 | [],acc,_,_=>by simp [txK]
 | x :: l,acc,h,hl=>by
  obtain ⟨a,b⟩:=h x (zyw ..)
  rw [zyy,Nat.add_mul] at hl
  rw [txK,a]
  simp only [zyP]
  rw [if_pos (by omega),if_pos trivial,zkt l _ (fun y hy=>h y (zyx _ hy)) (by rw [zyQ]; omega),List.flatMap_cons,List.append_assoc]
theorem zvi {α:Type} {f:α->Option (List UInt8 × Int)} {m:α->List UInt8} {K:List UInt8->Option (List UInt8 × Int)} (l:List α):∀ (acc:List UInt8),(∀ x ∈ l,f x = some (rw1 (m x)))->acc.length + l.length * 1001 <= 1000000000->(∃ x ∈ l,1000 < (m x).length)->txK f K l acc = some ([],4):=by
 induction l with
 | nil=>intro acc _ _ h; exact absurd h (by simp)
 | cons x l ih =>
  intro acc h hl hb
  rw [zyy,Nat.add_mul] at hl
  rw [txK,h x (zyw ..)]
  simp only [zyP]
  unfold rw1
  by_cases hx:1000 < (m x).length
  ·rw [if_pos hx,if_pos (by simp; omega),if_neg (by decide)]
  ·rw [if_neg hx,if_pos (by simp; omega),if_pos rfl]
   refine ih _ (fun y hy=>h y (zyx _ hy)) (by simp; omega) ?_
   obtain ⟨y,hy,hyb⟩:=hb
   rcases List.mem_cons.1 hy with rfl | hy
   ·exact absurd hyb hx
   ·exact ⟨y,hy,hyb⟩
def cR (c:Config):List UInt8:=cT c++[10]
def mR (c:Command):List UInt8:=mB c++[10]
def tA (s:Script):List UInt8:=s.Configs.flatMap cR
def tB (s:Script):List UInt8:=tA s++s.Plan.flatMap zbJ
def tC (s:Script):List UInt8:=tB s++s.Commands.flatMap mR
open Classical in
def tR (s:Script):List UInt8 × Int:=if ∃ x ∈ s.Commands,1000 < (mB x).length then ([],4) else if 20000 < (tC s).length then ([],4) else (tC s,0)
theorem zov {s:Script} (h:zot s) (hw:∀ c ∈ s.Configs,0 <= c.Window/\0 <= c.Low):(tA s).length <= 16000:=by
 have a:=zou (g:=cR) (B:=1000) (l:=s.Configs) fun c hc=>by
  have:=zkq (zsL (h.ok c hc) (hw c hc).1 (hw c hc).2)
  unfold cR; simp; omega
 have:=h.cl
 unfold tA
 exact Nat.le_trans a (by omega)
theorem zsP {s:Script} (h:zot s) (hw:∀ c ∈ s.Configs,0 <= c.Window/\0 <= c.Low):(tB s).length <= 36000:=by
 have a:=zou (g:=zbJ) (B:=92) (l:=s.Plan) fun c hc=>zmo (h.pv.ok c hc)
 have b:=zov h hw
 have:=h.pl
 unfold tB
 rw [zyQ]
 omega
theorem zvj {s:Script} (h:zot s) {f:Fault} (hf:zX s = some f) (h0:f.Err = 0) (hw:∀ c ∈ s.Configs,0 <= c.Window/\0 <= c.Low) (hs:∀ c ∈ s.Commands,0 <= c.Bundle.ID.Seq):qj s = some (tR s):=by
 have hcl:=h.cl
 have hml:=h.ml
 have hA:=zov h hw
 have hB:=zsP h hw
 unfold qj
 rw [if_pos ⟨by omega,by omega⟩,hf]
 simp only [zyP]
 rw [if_pos h0,(zsJ h.pv.ok h.pl h.p1).eq]
 simp only [zyP]
 rw [zkt (g:=cR) (B:=1000) s.Configs [] (fun c hc=>by
  have hn:=zsL (h.ok c hc) (hw c hc).1 (hw c hc).2
  have:=zkq hn
  exact ⟨zwv hn,by unfold cR; simp; omega⟩) (by simp; omega),List.nil_append]
 show zcW _ _ (tA s) = _
 unfold zcW
 have eB:tA s++s.Plan.flatMap zbJ = tB s:=rfl
 dsimp only
 rw [if_pos rfl,<- zyQ,eB,if_pos (by omega)]
 have hr:∀ x ∈ s.Commands,zt2 x = some (rw1 (mB x)):=fun x hx=>(zvV (h.one x hx) (hs x hx)).1
 unfold tR
 by_cases hb:∃ x ∈ s.Commands,1000 < (mB x).length
 ·rw [if_pos hb,zvi (m:=mB) s.Commands _ hr (by omega) hb]
 ·rw [if_neg hb,zkt (g:=mR) (B:=1001) s.Commands _ (fun x hx=>?_) (by omega)]
  ·show zfu (tC s) = _
   unfold zfu
   split <;> rfl
  ·have hx':¬ 1000 < (mB x).length:=fun k=>hb ⟨x,hx,k⟩
   refine ⟨?_,by unfold mR; simp; omega⟩
   rw [hr x hx]
   unfold rw1
   rw [if_neg hx']; rfl
theorem zvk {s:Script} (h:zot s) {f:Fault} (hf:zk s = some f) (h0:f.Err = 0) (hw:∀ c ∈ s.Configs,0 <= c.Window/\0 <= c.Low) (hs:∀ c ∈ s.Commands,0 <= c.Bundle.ID.Seq):zW s = some (tR s):=by
 have hcl:=h.cl
 have hpl:=h.pl
 have hml:=h.ml
 have hA:=zov h hw
 have hB:=zsP h hw
 refine W.eq ?_
 unfold zW
 refine zu hf ?_
 refine zj (fun k=>absurd h0 k) fun _=>?_
 refine qx (fun t:List UInt8 × Int=>(0 <= t.2/\t.2 <= s.Configs.length)/\t.1 = (s.Configs.take t.2.toNat).flatMap cR/\t.1.length <= 1000 * t.2) (fun t=>s.Configs.length - t.2.toNat) ?_ ⟨⟨by simp,by simp⟩,by simp,by simp⟩
 rintro ⟨o,i⟩ ⟨⟨i0,i1⟩,ho,hl⟩
 dsimp only at i0 i1 ho hl ⊢
 refine zj (fun hi=>?_) fun hi=>?_
 ·refine yS i0 hi fun x hx=>?_
  have hm:=zyu hx
  have hn:=zsL (h.ok x hm) (hw x hm).1 (hw x hm).2
  have hc:=zkq hn
  refine zu (zsM hn) (yw (by simp; omega) ?_)
  refine qA fun j hj=>yb ⟨⟨⟨by dsimp only; omega,by dsimp only; omega⟩,?_,by simp; omega⟩,by dsimp only; omega⟩
  dsimp only
  rw [show j.toNat = i.toNat + 1 from by omega,List.take_add_one,hx,ho]
  simp [cR]
 refine zr ?_
 rw [List.take_of_length_le (by omega)] at ho
 rw [show o = tA s from ho]
 clear ho hl hi i0 i1
 refine qx (fun t:List UInt8 × Int=>(0 <= t.2/\t.2 <= s.Plan.length)/\t.1 = tA s++(s.Plan.take t.2.toNat).flatMap zbJ/\t.1.length <= 16000 + 92 * t.2) (fun t=>s.Plan.length - t.2.toNat) ?_ ⟨⟨by simp,by simp⟩,by simp,by simp; omega⟩
 rintro ⟨o,i⟩ ⟨⟨i0,i1⟩,ho,hl⟩
 dsimp only at i0 i1 ho hl ⊢
 refine zj (fun hi=>?_) fun hi=>?_
 ·refine yS i0 hi fun x hx=>?_
  have hok:=h.pv.ok x (zyu hx)
  have hc:=zmo hok
  refine zu (zon hok) (yw (by omega) ?_)
  refine qA fun j hj=>yb ⟨⟨⟨by dsimp only; omega,by dsimp only; omega⟩,?_,by simp; omega⟩,by dsimp only; omega⟩
  dsimp only
  rw [show j.toNat = i.toNat + 1 from by omega,List.take_add_one,hx,ho]
  simp
 refine zr ?_
 rw [List.take_of_length_le (by omega)] at ho
 rw [show o = tB s from ho]
 clear ho hl hi i0 i1
 unfold tR
 refine zl (R:=fun r:(List UInt8 × Int) ⊕ List UInt8=>(r = .inl ([],4)/\∃ x ∈ s.Commands,1000 < (mB x).length) ∨ (r = .inr (tC s)/\¬ ∃ x ∈ s.Commands,1000 < (mB x).length)) ?_ ?_
 ·refine zbh (fun t:List UInt8 × Int=>(0 <= t.2/\t.2 <= s.Commands.length)/\(t.1 = tB s++(s.Commands.take t.2.toNat).flatMap mR/\t.1.length <= 36000 + 1001 * t.2)/\∀ x ∈ s.Commands.take t.2.toNat,¬ 1000 < (mB x).length) (fun t=>s.Commands.length - t.2.toNat) ?_ ⟨⟨by simp,by simp⟩,⟨by simp,by simp; omega⟩,by simp⟩
  rintro ⟨o,i⟩ ⟨⟨i0,i1⟩,⟨ho,hl⟩,hg⟩
  dsimp only at i0 i1 ho hl hg ⊢
  refine zj (fun hi=>?_) fun hi=>?_
  rotate_left
  ·rw [List.take_of_length_le (by omega)] at ho hg
   exact zr (.inr ⟨by rw [ho]; rfl,fun ⟨x,hx,k⟩=>hg x hx k⟩)
  refine yS i0 hi fun x hx=>?_
  have hm:=zyu hx
  refine zu (zvV (h.one x hm) (hs x hm)).2 ?_
  unfold rw1
  by_cases hb:1000 < (mB x).length
  ·rw [if_pos hb]
   exact zj (fun _=>zr (.inl ⟨rfl,x,hm,hb⟩)) fun k=>absurd (by decide) k
  ·rw [if_neg hb]
   refine zj (fun k=>absurd rfl k) fun _=>yw (by simp; omega) ?_
   refine qA fun j hj=>yb ⟨⟨⟨by dsimp only; omega,by dsimp only; omega⟩,⟨?_,by simp; omega⟩,?_⟩,by dsimp only; omega⟩
   ·dsimp only
    rw [show j.toNat = i.toNat + 1 from by omega,List.take_add_one,hx,ho]
    simp [mR]
   ·dsimp only
    rw [show j.toNat = i.toNat + 1 from by omega,List.take_add_one,hx]
    intro y hy
    rcases List.mem_append.1 hy with hy | hy
    ·exact hg y hy
    ·simp at hy; subst hy; exact hb
 ·rintro r (⟨rfl,hb⟩ | ⟨rfl,hb⟩)
  ·exact zc (by rw [if_pos hb])
  ·rw [if_neg hb]
   dsimp only [Sum.elim_inr]
   exact zj (fun k=>zc (by rw [if_pos (by omega)])) fun k=>zc (by rw [if_neg (by omega)])
theorem zvl (s:Script) (hc:s.Configs.length <= 1000) (hm:s.Commands.length <= 1000) (hw:∀ c ∈ s.Configs,0 <= c.Window/\0 <= c.Low) (hs:∀ c ∈ s.Commands,0 <= c.Bundle.ID.Seq):∃ r,qj s = some r/\zW s = some r:=by
 obtain ⟨f,h1,h2,h3⟩:=zdz s hw hm
 by_cases h0:f.Err = 0
 ·exact ⟨_,zvj (h3 h0) h1 h0 hw hs,zvk (h3 h0) h2 h0 hw hs⟩
 ·refine ⟨([],f.Err),?_,W.eq ?_⟩
  ·unfold qj
   rw [if_pos ⟨by omega,by omega⟩,h1]
   simp only [zyP]
   rw [if_neg h0]
  ·unfold zW
   refine zu h2 ?_
   exact zj (fun _=>zc rfl) fun k=>absurd h0 k
open Go Go.X Go.Eng Go.RowKit
theorem zwy (s:Script) (h1:s.Configs.length <= 18) (h2:s.Plan.length <= 205) (h3:s.Commands.length <= 405):yO s = some s:=by
 unfold yO
 have a:app 128 ([]:List Config) s.Configs = some s.Configs:=by unfold app; rw [if_pos (by simp; omega)]; rfl
 have b:yq s.Plan = some s.Plan:=by
  unfold yq app
  rw [if_pos (by simp; omega)]; rfl
 have c:app 128 ([]:List Command) s.Commands = some s.Commands:=by unfold app; rw [if_pos (by simp; omega)]; rfl
 simp only [a,b,c,zyP]
theorem zjj {γ:Type} (a:Option γ):zhY a a = a:=by unfold zhY; rw [if_pos rfl]
theorem zq8 {α:Type} {n:Nat} {l:List α} (h:l.length * n <= 140737488355328):app n ([]:List α) l = some l:=by unfold app; rw [if_pos (by simpa using h)]; rfl
theorem zow {α:Type} (l:List α):znw l (some ([]:List α)) (some l) = some l:=by
 cases l
 ·exact zjj _
 ·rfl
theorem zwz {l:List Config} (h:l.length <= 1000):qX l = some l:=by
 unfold qX
 rw [zq8 (by omega)]
 exact zow l
theorem zwA {l:List Contact} (h:l.length <= 1000):qv l = some l:=by
 unfold qv
 rw [zq8 (by omega)]
 exact zow l
theorem zwB {l:List Command} (h:l.length <= 1000):qw l = some l:=by
 unfold qw
 rw [zq8 (by omega)]
 exact zow l
theorem zwC (s:Script) (a b:Int) (hw:∀ c ∈ s.Configs,0 <= c.Window/\0 <= c.Low) (hc:s.Configs.length <= 1000) (hp:s.Plan.length <= 1000) (hm:s.Commands.length <= 1000):∃ r,ZP (s,a,b) = some r/\yN (s,a,b) = some r/\r.1.Configs.length <= 1000/\r.1.Plan.length <= 1000/\r.1.Commands.length <= 1000:=by
 obtain ⟨f,h1,h2,_⟩:=zdz s hw hm
 unfold ZP yN
 simp only [h1,h2,zyP,b6_,zjj]
 by_cases h0:f.Err = 0
 rotate_left
 ·refine ⟨(⟨[],[],[]⟩,f.Err),?_,?_,by simp,by simp,by simp⟩ <;> rw [show (f.Err != 0) = true by simpa using h0] <;> rfl
 have hb:(f.Err != 0) = false:=by simp [h0]
 rw [hb]
 simp only [br,cond_false]
 have e2:∀ {p:Prop} [Decidable p] {γ:Type} {x y:Option γ},p->cond (decide p) x y = x:=fun h=>by simp [h]
 have e3:∀ {p:Prop} [Decidable p] {γ:Type} {x y:Option γ},¬ p->cond (decide p) x y = y:=fun h=>by simp [h]
 by_cases q1:a < 0
 ·rw [e2 q1,e2 q1]
  exact ⟨_,rfl,rfl,by simp,by simp,by simp⟩
 rw [e3 q1,e3 q1]
 by_cases q2:b < a
 ·rw [e2 q2,e2 q2]
  exact ⟨_,rfl,rfl,by simp,by simp,by simp⟩
 rw [e3 q2,e3 q2]
 by_cases q3:(s.Commands.length:Int) < b
 ·rw [e2 q3,e2 q3]
  exact ⟨_,rfl,rfl,by simp,by simp,by simp⟩
 rw [e3 q3,e3 q3]
 have es:slc s.Commands a b = some ((s.Commands.take b.toNat).drop a.toNat):=by unfold slc; rw [if_pos ⟨by omega,by omega,by omega⟩]
 have hl:((s.Commands.take b.toNat).drop a.toNat).length <= 1000:=by simp; omega
 rw [zwz hc,zwA hp,es]
 simp only [zyP]
 rw [zwB hl,zq8 (by omega),zq8 (by omega),zq8 (by omega)]
 exact ⟨_,rfl,rfl,hc,hp,hl⟩
def tk (c:Command):Int:=if c.Kind = 4 then c.N else 0
def tks (l:List Command):Int:=(l.map tk).sum
theorem zsQ {c:Command} {p:Int->Prop} (h:YP c p = 0) (hs:0 <= c.Bundle.ID.Seq) (hk:c.Kind = 4):0 <= c.N/\c.N <= 262144:=by
 obtain ⟨_,hg⟩:=zp9 (zes h fun _ h=>h) hs
 refine hg.n ?_
 unfold Y3
 rw [hk]
 decide
theorem zmq (l:List Command) (c:Command):tks (l++[c]) = tks l + tk c:=by unfold tks; simp
theorem zsR {s:Script} (h:zot s) {f:Fault} (hf:zX s = some f) (h0:f.Err = 0) (hs:∀ c ∈ s.Commands,0 <= c.Bundle.ID.Seq):qt s = some (tks s.Commands,0):=by
 have hml:=h.ml
 refine W.eq ?_
 unfold qt
 refine zu hf ?_
 refine zj (fun k=>absurd h0 k) fun _=>?_
 refine qx (fun t:Int × Int=>(0 <= t.2/\t.2 <= s.Commands.length)/\t.1 = tks (s.Commands.take t.2.toNat)/\0 <= t.1/\t.1 <= 262144 * t.2) (fun t=>s.Commands.length - t.2.toNat) ?_ ⟨⟨by simp,by simp⟩,by simp [tks],by simp,by simp⟩
 rintro ⟨n,i⟩ ⟨⟨i0,i1⟩,hn,n0,n1⟩
 dsimp only at i0 i1 hn n0 n1 ⊢
 refine zj (fun hi=>?_) fun hi=>zr (zc (by rw [hn,List.take_of_length_le (by omega)]))
 refine yS i0 hi fun x hx=>?_
 have hm:=zyu hx
 have ht:tks (s.Commands.take (i.toNat + 1)) = n + tk x:=by rw [List.take_add_one,hx,hn]; exact zmq _ _
 refine zj (fun hk=>?_) fun hk=>?_
 ·have hb:=zsQ (h.one x hm) (hs x hm) hk
  refine qA fun m hm'=>qA fun j hj=>yb ⟨⟨⟨by dsimp only; omega,by dsimp only; omega⟩,?_,by dsimp only; omega,by dsimp only; omega⟩,by dsimp only; omega⟩
  dsimp only
  rw [show j.toNat = i.toNat + 1 from by omega,ht,hm']
  unfold tk
  rw [if_pos hk]
 ·refine qA fun j hj=>yb ⟨⟨⟨by dsimp only; omega,by dsimp only; omega⟩,?_,by dsimp only; omega,by dsimp only; omega⟩,by dsimp only; omega⟩
  dsimp only
  rw [show j.toNat = i.toNat + 1 from by omega,ht]
  unfold tk
  rw [if_neg hk,Int.add_zero]
theorem zsS {s:Script} (h:zot s) {f:Fault} (hf:zk s = some f) (h0:f.Err = 0) (hs:∀ c ∈ s.Commands,0 <= c.Bundle.ID.Seq):zQ s = some (tks s.Commands,0):=by
 have hml:=h.ml
 refine W.eq ?_
 unfold zQ
 refine zu hf ?_
 refine zj (fun k=>absurd h0 k) fun _=>?_
 refine qx (fun t:Int × Int=>(0 <= t.2/\t.2 <= s.Commands.length)/\t.1 = tks (s.Commands.take t.2.toNat)/\0 <= t.1/\t.1 <= 262144 * t.2) (fun t=>s.Commands.length - t.2.toNat) ?_ ⟨⟨by simp,by simp⟩,by simp [tks],by simp,by simp⟩
 rintro ⟨n,i⟩ ⟨⟨i0,i1⟩,hn,n0,n1⟩
 dsimp only at i0 i1 hn n0 n1 ⊢
 refine zj (fun hi=>?_) fun hi=>zr (zc (by rw [hn,List.take_of_length_le (by omega)]))
 refine yS i0 hi fun x hx=>?_
 have hm:=zyu hx
 have ht:tks (s.Commands.take (i.toNat + 1)) = n + tk x:=by rw [List.take_add_one,hx,hn]; exact zmq _ _
 refine zj (fun hk=>?_) fun hk=>?_
 ·have hb:=zsQ (h.one x hm) (hs x hm) hk
  refine yS i0 hi fun x' hx'=>?_
  rw [hx] at hx'; cases hx'
  refine qA fun m hm'=>qA fun j hj=>yb ⟨⟨⟨by dsimp only; omega,by dsimp only; omega⟩,?_,by dsimp only; omega,by dsimp only; omega⟩,by dsimp only; omega⟩
  dsimp only
  rw [show j.toNat = i.toNat + 1 from by omega,ht,hm']
  unfold tk
  rw [if_pos hk]
 ·refine qA fun j hj=>yb ⟨⟨⟨by dsimp only; omega,by dsimp only; omega⟩,?_,by dsimp only; omega,by dsimp only; omega⟩,by dsimp only; omega⟩
  dsimp only
  rw [show j.toNat = i.toNat + 1 from by omega,ht]
  unfold tk
  rw [if_neg hk,Int.add_zero]
theorem zsT (s:Script) (hm:s.Commands.length <= 1000) (hw:∀ c ∈ s.Configs,0 <= c.Window/\0 <= c.Low) (hs:∀ c ∈ s.Commands,0 <= c.Bundle.ID.Seq):∃ r,qt s = some r/\zQ s = some r:=by
 obtain ⟨f,h1,h2,h3⟩:=zdz s hw hm
 by_cases h0:f.Err = 0
 ·exact ⟨_,zsR (h3 h0) h1 h0 hs,zsS (h3 h0) h2 h0 hs⟩
 ·refine ⟨(0,f.Err),W.eq ?_,W.eq ?_⟩
  ·unfold qt
   refine zu h1 ?_
   exact zj (fun _=>zc rfl) fun k=>absurd h0 k
  ·unfold zQ
   refine zu h2 ?_
   exact zj (fun _=>zc rfl) fun k=>absurd h0 k
theorem zox (l:List Contact) (h:l.length <= 1000):yf (l,l) = some true:=by
 refine W.eq ?_
 unfold yf
 refine zj (fun k=>absurd rfl k) fun _=>?_
 refine qx (fun i:Int=>0 <= i/\i <= l.length) (fun i=>l.length - i.toNat) ?_ ⟨by simp,by simp⟩
 rintro i ⟨i0,i1⟩
 refine zj (fun hi=>?_) fun hi=>zr (zc rfl)
 refine yS i0 hi fun x hx=>yS i0 hi fun y hy=>?_
 rw [hx] at hy; cases hy
 refine yX (fun k=>?_) fun _=>qA fun j hj=>yb ⟨⟨by omega,by omega⟩,by omega⟩
 simp at k
theorem zsU (s:Script) (hc:s.Configs.length <= 1000) (hp:s.Plan.length <= 1000) (hm:s.Commands.length <= 1000):yh (s,s) = some true:=by
 refine W.eq ?_
 unfold yh
 refine zj (fun k=>absurd rfl k) fun _=>?_
 refine zj (fun k=>absurd rfl k) fun _=>?_
 refine zu (zox s.Plan hp) ?_
 refine yX (fun k=>by simp at k) fun _=>?_
 refine qx (fun i:Int=>0 <= i/\i <= s.Configs.length) (fun i=>s.Configs.length - i.toNat) ?_ ⟨by simp,by simp⟩
 rintro i ⟨i0,i1⟩
 refine zj (fun hi=>?_) fun hi=>zr ?_
 ·refine yS i0 hi fun x hx=>yS i0 hi fun y hy=>?_
  rw [hx] at hy; cases hy
  refine yX (fun k=>?_) fun _=>qA fun j hj=>yb ⟨⟨by omega,by omega⟩,by omega⟩
  simp at k
 dsimp only [Sum.elim_inr]
 refine qx (fun i:Int=>0 <= i/\i <= s.Commands.length) (fun i=>s.Commands.length - i.toNat) ?_ ⟨by simp,by simp⟩
 rintro i ⟨i0,i1⟩
 refine zj (fun hi=>?_) fun hi=>zr (zc rfl)
 refine yS i0 hi fun x hx=>yS i0 hi fun y hy=>?_
 rw [hx] at hy; cases hy
 refine yX (fun k=>?_) fun _=>qA fun j hj=>yb ⟨⟨by omega,by omega⟩,by omega⟩
 simp at k
theorem zku {n:Int} (h:fit (.int .u64 n)):0 <= n:=by
 have h:(Lit.int .u64 n).wf = true:=h
 simp only [Lit.wf,zyL,decide_eq_true_eq] at h
 exact h.1
theorem zg0 (s:Script) (a b:Int) (h:fit (qO s)):zP (s,a,b) = some true:=by
 obtain ⟨⟨_,hA⟩,_,⟨_,hC⟩,_⟩:=h
 have hw:∀ c ∈ s.Configs,0 <= c.Window/\0 <= c.Low:=fun c hc=>by
  have:=zio hA (qN c) (List.mem_map.2 ⟨c,hc,rfl⟩)
  obtain ⟨_,_,_,h4,h5,_⟩:=this
  exact ⟨zku h4,zku h5⟩
 have hs:∀ c ∈ s.Commands,0 <= c.Bundle.ID.Seq:=fun c hc=>by
  have:=zio hC (qe c) (List.mem_map.2 ⟨c,hc,rfl⟩)
  obtain ⟨_,_,_,_,_,_,_,h,_⟩:=this
  exact zku h
 refine W.eq ?_
 unfold zP
 have aw:W ((z8 ()).bind fun x_4=>some x_4) fun r=>r = true:=zc rfl
 refine zl (zu4 s) fun b hb=>?_
 refine yX (fun _=>aw) fun e=>?_
 obtain ⟨l1,l2,l3⟩:=hb e
 refine zu (zwy s l1 l2 l3) ?_
 obtain ⟨f,e1,e2,_⟩:=zdz s hw (by omega)
 refine zu e1 (zu e2 ?_)
 refine yX (fun k=>by simp at k) fun _=>?_
 obtain ⟨⟨t1,t2⟩,e3,e4⟩:=zvl s (by omega) (by omega) hw hs
 refine zu e3 (zu e4 ?_)
 refine yX (fun k=>by simp at k) fun _=>?_
 refine yX (fun k=>by simp at k) fun _=>?_
 obtain ⟨⟨c1,c2⟩,e5,e6,q1,q2,q3⟩:=zwC s a _ hw (by omega) (by omega) (by omega)
 refine zu e5 (zu e6 ?_)
 obtain ⟨⟨k1,k2⟩,e7,e8⟩:=zsT s (by omega) hw hs
 refine zu e7 (zu e8 ?_)
 refine zu (zsU c1 q1 q2 q3) ?_
 refine yX (fun _=>?_) fun k=>by simp at k
 refine yX (fun _=>?_) fun k=>by simp at k
 refine yX (fun _=>?_) fun k=>by simp at k
 refine yX (fun _=>?_) fun k=>by simp at k
 refine zu (zsU s (by omega) (by omega) (by omega)) ?_
 exact yX (fun _=>aw) fun k=>by simp at k
end Go.Proofs.YtgpccllhdcggdaaGreatDoor
