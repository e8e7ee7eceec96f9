import Derived.Test.YtclelomalmmpbaaGreatDoorXGSo
open List renaming mem_of_getElem? -> zvu
open List renaming mem_singleton -> zvv
open List renaming length_cons -> zvy
open List renaming length_nil -> zvC
open Classical renaming byContradiction -> zvH
open Option renaming bind_some -> zvP
open List renaming length_append -> zvQ
set_option linter.unusedSimpArgs false
set_option linter.unusedVariables false
namespace Go.Proofs.YtclelomalmmpbaaGreatDoor
open Go Go.Eng Go.X
def za2:List Use:=[⟨[],false,false,0,0,0,0,false⟩,
 ⟨[115,117,98,109,105,116],true,false,0,(-1),(-1),(-1),true⟩,
 ⟨[111,112,101,110],true,true,0,(-1),(-1),(-1),false⟩,
 ⟨[99,108,111,115,101],true,true,0,(-1),(-1),(-1),false⟩,
 ⟨[116,105,99,107],false,false,1,1000,(-1),(-1),false⟩,
 ⟨[100,101,108,105,118,101,114],true,true,0,63,(-1),(-1),false⟩,
 ⟨[108,111,115,101],true,true,0,63,(-1),(-1),false⟩,
 ⟨[100,111,117,98,108,101],true,true,0,63,(-1),(-1),false⟩,
 ⟨[115,119,97,112],true,true,0,63,63,(-1),false⟩,
 ⟨[115,112,111,105,108],true,true,0,63,1199,255,false⟩,
 ⟨[99,117,116],true,true,0,63,1199,(-1),false⟩,
 ⟨[99,114,97,115,104],true,false,0,(-1),(-1),(-1),false⟩,
 ⟨[116,114,105,112],true,false,0,1000,262144,(-1),false⟩,
 ⟨[114,101,115,116,97,114,116],true,false,0,(-1),(-1),(-1),false⟩,
 ⟨[100,114,97,105,110],false,false,1,1000,(-1),(-1),false⟩]
theorem zUse:((List.range 15).all fun k=>decide (zmh .Use 0 (0 + k * 8) 8 = some (za2.getD k default))) = true:=by kernel_rfl
theorem zm3 (k:Nat) (hk:k < 15):zmh .Use 0 (0 + k * 8) 8 = some (za2.getD k default):=of_decide_eq_true (List.all_eq_true.1 zUse k (List.mem_range.2 hk))
open Go.X Go.Eng
def Zx (d:ID):Prop:=1 <= d.Node/\d.Node <= 16/\d.Seq <= 1099511627776/\0 <= d.Off/\d.Off <= 19999
theorem zla (l:List W3) (hl:l.length <= 100):W (ya l) fun r=>(r = true/\∀ x ∈ l,x.b <= x.a/\x.a <= x.c) ∨ (r = false/\¬ ∀ x ∈ l,x.b <= x.a/\x.a <= x.c):=by
 unfold ya
 refine zez (fun i:Int=>0 <= i/\i <= (l.length:Int)/\∀ x ∈ l.take i.toNat,x.b <= x.a/\x.a <= x.c) (fun i=>l.length - i.toNat) ?_ ⟨by omega,by omega,by simp⟩
 intro i hi
 refine yN (fun h=>?_) fun h=>?_
 ·refine zi5 (by omega) (by omega) fun x hx=>?_
  have hm:=zvu hx
  refine yN (fun h=>Zp (zd (.inr ⟨rfl,fun q=>?_⟩))) fun h=>?_
  ·have:=q x hm; omega
  refine yN (fun h=>Zp (zd (.inr ⟨rfl,fun q=>?_⟩))) fun h2=>?_
  ·have:=q x hm; omega
  refine zie fun j hj=>Q1 ⟨⟨by omega,by omega,fun y hy=>?_⟩,by omega⟩
  rw [show j.toNat = i.toNat + 1 from by omega,List.take_add_one,hx] at hy
  rcases List.mem_append.1 hy with hy | hy
  ·exact hi.2.2 y hy
  ·simp at hy; subst hy; omega
 ·refine Zp (zd (.inl ⟨rfl,?_⟩))
  have:=hi.2.2
  rwa [List.take_of_length_le (by omega)] at this
theorem zim (d:ID):W (zR d) fun r=>(r = 0/\Zx d) ∨ (r = 2/\¬ Zx d):=by
 unfold zR
 refine zH (zla _ (by simp)) fun r hr=>?_
 rcases hr with ⟨rfl,hr⟩ | ⟨rfl,hr⟩
 ·have h1:=hr ⟨d.Node,1,16⟩ (by simp)
  have h2:=hr ⟨d.Off,0,19999⟩ (by simp)
  dsimp only at h1 h2
  refine zkE (zu7 ?_)
  refine yN (fun h=>zd (.inr ⟨rfl,fun k=>?_⟩)) fun h=>zd (.inl ⟨rfl,?_⟩)
  ·unfold Zx at k; omega
  ·unfold Zx; omega
 ·refine zkE (zu8 (zd (.inr ⟨rfl,fun k=>hr fun x hx=>?_⟩)))
  unfold Zx at k
  simp at hx
  rcases hx with rfl | rfl
  ·dsimp only; omega
  ·dsimp only; omega
theorem zgg (d:ID):W (zp d) fun r=>(r = 0/\Zx d) ∨ (r = 2/\¬ Zx d):=by
 unfold zp
 have no:¬ Zx d->W (some (2:Int)) fun r=>(r = 0/\Zx d) ∨ (r = 2/\¬ Zx d):=fun h=>zd (.inr ⟨rfl,h⟩)
 refine yN (fun h=>no fun k=>by unfold Zx at k; omega) fun q1=>?_
 refine yN (fun h=>no fun k=>by unfold Zx at k; omega) fun q2=>?_
 refine yN (fun h=>no fun k=>by unfold Zx at k; omega) fun q3=>?_
 refine yN (fun h=>no fun k=>by unfold Zx at k; omega) fun q4=>?_
 refine yN (fun h=>no fun k=>by unfold Zx at k; omega) fun q5=>?_
 exact zd (.inl ⟨rfl,by unfold Zx; omega⟩)
open Go Go.X Go.Eng Go.RowKit
def okF (b:Bundle):Prop:=(1 <= b.Dest/\b.Dest <= 16)/\(0 <= b.Prio/\b.Prio <= 2)/\(0 <= b.Born/\b.Born <= 1099511627776)/\(1 <= b.Life/\b.Life <= 1048576)/\(1 <= b.Total/\b.Total <= 20000)
open Classical in
noncomputable def chkF (b:Bundle):Int:=if ¬ Zx b.ID then 2 else if ¬ okF b then 2 else if b.Data.length = 0 then 11 else if 1000 < b.Data.length then 4 else if b.Total < b.ID.Off + b.Data.length then 12 else 0
theorem zlb (b:Bundle):W (yD b) fun r=>r = chkF b:=by
 unfold yD
 refine zH (zim b.ID) fun r hr=>?_
 rcases hr with ⟨rfl,hid⟩ | ⟨rfl,hid⟩
 ·rw [if_neg (by decide)]
  refine zH (zla _ (by simp [zpi])) fun ok ho=>?_
  have hof:(∀ x ∈ zpi b.Dest b.Prio b.Born b.Life b.Total,x.b <= x.a/\x.a <= x.c) ↔ okF b:=by
   simp [zpi,okF]
  rcases ho with ⟨rfl,ho⟩ | ⟨rfl,ho⟩
  ·have hf:=hof.1 ho
   rw [if_neg (by decide)]
   have e0:chkF b = if b.Data.length = 0 then 11 else if 1000 < b.Data.length then 4 else if b.Total < b.ID.Off + b.Data.length then 12 else 0:=by
    unfold chkF
    rw [if_neg (fun k=>k hid),if_neg (fun k=>k hf)]
   unfold Zx at hid
   unfold okF at hf
   rw [e0]
   by_cases hz:b.Data.length = 0
   ·rw [if_pos hz,if_pos hz]; exact zd rfl
   ·rw [if_neg hz,if_neg hz]
    by_cases hg:1000 < b.Data.length
    ·rw [if_pos hg,if_pos hg]; exact zd rfl
    ·rw [if_neg hg,if_neg hg]
     have hw:wrap64 (b.Total - b.Data.length) = b.Total - b.Data.length:=IntWalk.wrap64_in _ (by omega)
     rw [hw]
     by_cases hq:b.Total - b.Data.length < b.ID.Off
     ·rw [if_pos hq,if_pos (by omega)]; exact zd rfl
     ·rw [if_neg hq,if_neg (by omega)]; exact zd rfl
  ·rw [if_pos rfl]
   refine zd ?_
   unfold chkF
   rw [if_neg (fun h=>h hid),if_pos (fun h=>ho (hof.2 h))]
 ·rw [if_pos (by decide)]
  refine zd ?_
  unfold chkF
  rw [if_pos hid]
theorem zqP (b:Bundle):W (zM b) fun r=>r = chkF b:=by
 unfold zM
 refine zH (zgg b.ID) fun r hr=>?_
 rcases hr with ⟨rfl,hid⟩ | ⟨rfl,hid⟩
 ·refine yC (fun h=>by simp at h) fun _=>?_
  have no:¬ okF b->W (some (2:Int)) fun r=>r = chkF b:=fun h=>zd (by unfold chkF; rw [if_neg (fun k=>k hid),if_pos h])
  refine yN (fun h=>no fun k=>by unfold okF at k; omega) fun q1=>?_
  refine yN (fun h=>no fun k=>by unfold okF at k; omega) fun q2=>?_
  refine yN (fun h=>no fun k=>by unfold okF at k; omega) fun q3=>?_
  refine yN (fun h=>no fun k=>by unfold okF at k; omega) fun q4=>?_
  refine yN (fun h=>no fun k=>by unfold okF at k; omega) fun q5=>?_
  refine yN (fun h=>no fun k=>by unfold okF at k; omega) fun q6=>?_
  refine yN (fun h=>no fun k=>by unfold okF at k; omega) fun q7=>?_
  refine yN (fun h=>no fun k=>by unfold okF at k; omega) fun q8=>?_
  refine yN (fun h=>no fun k=>by unfold okF at k; omega) fun q9=>?_
  refine yN (fun h=>no fun k=>by unfold okF at k; omega) fun q10=>?_
  have hf:okF b:=by unfold okF; omega
  unfold Zx at hid
  have e0:chkF b = if b.Data.length = 0 then 11 else if 1000 < b.Data.length then 4 else if b.Total < b.ID.Off + b.Data.length then 12 else 0:=by
   unfold chkF
   rw [if_neg (fun k=>k hid),if_neg (fun k=>k hf)]
  rw [e0]
  refine yN (fun h=>zd (by rw [if_pos (by omega)])) fun h1=>?_
  rw [if_neg (by omega)]
  refine yN (fun h=>zd (by rw [if_pos (by omega)])) fun h2=>?_
  rw [if_neg (by omega)]
  refine zie fun j hj=>?_
  refine yN (fun h=>zd (by rw [if_pos (by omega)])) fun h3=>zd (by rw [if_neg (by omega)])
 ·refine yC (fun _=>zd ?_) fun h=>by simp at h
  unfold chkF
  rw [if_pos hid]
open Go Go.X Go.Eng Go.RowKit
theorem zin (n:Int):zI n = some (decide (1 <= n/\n <= 16)):=by
 unfold zI
 by_cases h:1 <= n <;> by_cases k:n <= 16 <;> simp [br,h,k]
theorem zm4 (x lo hi:Int):zJ (x,lo,hi) = some (decide (hi < 0 ∨ (lo <= x/\x <= hi))):=by
 show br (decide (hi < 0)) (some true) (br (decide (lo <= x)) (some (decide (x <= hi))) (some false)) = _
 by_cases h:hi < 0 <;> by_cases k:lo <= x <;> by_cases q:x <= hi <;> simp [br,h,k,q]
theorem zsJ (s:Script):W (zL s) fun r=>r = false->s.Configs.length <= 18/\s.Plan.length <= 205/\s.Commands.length <= 405:=by
 unfold zL
 have fin:¬ (18:Int) < (s.Configs.length:Int)->¬ (205:Int) < (s.Plan.length:Int)->W (some (decide ((405:Int) < (s.Commands.length:Int)))) fun r=>r = false->s.Configs.length <= 18/\s.Plan.length <= 205/\s.Commands.length <= 405:=fun h h'=>zd fun k=>by
  have:=of_decide_eq_false k
  omega
 have tr:W (some true) fun r=>r = false->s.Configs.length <= 18/\s.Plan.length <= 205/\s.Commands.length <= 405:=zd fun k=>by cases k
 refine zez (fun i:Int=>0 <= i/\i <= (s.Commands.length:Int)) (fun i=>s.Commands.length - i.toNat) ?_ ⟨by omega,by omega⟩
 intro i hi
 have rest:W (br (decide ((18:Int) < (s.Configs.length:Int))) (some true)
   (br (decide ((20:Int) < (s.Plan.length:Int)))
    (br (decide ((s.Plan.length:Int) < 199)) (some true)
     (br (decide ((205:Int) < (s.Plan.length:Int))) (some true)
      (br (decide ((40:Int) < (s.Commands.length:Int)))
       (br (decide ((s.Commands.length:Int) < 399)) (some true) (some (decide ((405:Int) < (s.Commands.length:Int)))))
       (some (decide ((405:Int) < (s.Commands.length:Int)))))))
    (br (decide ((205:Int) < (s.Plan.length:Int))) (some true)
     (br (decide ((40:Int) < (s.Commands.length:Int)))
      (br (decide ((s.Commands.length:Int) < 399)) (some true) (some (decide ((405:Int) < (s.Commands.length:Int)))))
      (some (decide ((405:Int) < (s.Commands.length:Int)))))))) fun r=>r = false->s.Configs.length <= 18/\s.Plan.length <= 205/\s.Commands.length <= 405:=by
  refine yN (fun _=>tr) fun h1=>?_
  refine yN (fun _=>?_) fun _=>?_
  ·refine yN (fun _=>tr) fun _=>?_
   refine yN (fun _=>tr) fun h3=>?_
   refine yN (fun _=>?_) fun _=>fin h1 h3
   exact yN (fun _=>tr) fun _=>fin h1 h3
  ·refine yN (fun _=>tr) fun h3=>?_
   refine yN (fun _=>?_) fun _=>fin h1 h3
   exact yN (fun _=>tr) fun _=>fin h1 h3
 refine yN (fun h=>?_) fun h=>?_
 ·refine yN (fun h2=>?_) fun h2=>Zp rest
  refine zi5 (by omega) (by omega) fun x hx=>?_
  refine yN (fun _=>Zp tr) fun _=>?_
  exact zie fun j hj=>Q1 ⟨⟨by omega,by omega⟩,by omega⟩
 ·exact Zp rest
theorem ztJ (s:Script) (h1:s.Configs.length <= 18) (h2:s.Plan.length <= 205) (h3:s.Commands.length <= 405):zZ s = some s:=by
 unfold zZ
 have a:app 128 ([]:List Config) s.Configs = some s.Configs:=by unfold app; rw [if_pos (by simp; omega)]; rfl
 have b:zi s.Plan = some s.Plan:=by
  unfold zi app
  rw [if_pos (by simp; omega)]; rfl
 have c:app 128 ([]:List Command) s.Commands = some s.Commands:=by unfold app; rw [if_pos (by simp; omega)]; rfl
 simp only [a,b,c,zvP]
open Go Go.X Go.Eng Go.RowKit
def QP (l:List Config) (n:Int):Prop:=∃ x ∈ l,x.Node = n
theorem zsK (l:List Config) (hl:l.length <= 1000) (n:Int):W (zO l n) fun r=>r.2 = n/\((0 <= r.1/\QP l n) ∨ (r.1 = -1/\¬ QP l n)):=by
 unfold zO
 refine zez (fun s:Int × Int=>s.2 = n/\0 <= s.1/\s.1 <= (l.length:Int)/\∀ x ∈ l.take s.1.toNat,x.Node ≠ n) (fun s=>l.length - s.1.toNat) ?_ ⟨rfl,by omega,by omega,by simp⟩
 rintro ⟨i,m⟩ ⟨hm,hi⟩
 have hm:m = n:=hm
 subst hm
 refine yN (fun h=>?_) fun h=>?_
 ·refine zi5 (by omega) (by omega) fun x hx=>?_
  have hmem:=zvu hx
  unfold yB
  refine zuB ?_
  refine yC (fun h=>Zp (zd ⟨rfl,.inl ⟨hi.1,x,hmem,by simpa using h⟩⟩)) fun h=>?_
  have hne:x.Node ≠ m:=by simpa using h
  refine zie fun j hj=>Q1 ⟨⟨rfl,by omega,by omega,fun y hy=>?_⟩,by dsimp only; omega⟩
  rw [show (j,m).1.toNat = i.toNat + 1 from by dsimp only; omega,List.take_add_one,hx] at hy
  rcases List.mem_append.1 hy with hy | hy
  ·exact hi.2.2 y hy
  ·simp at hy; subst hy; exact hne
 ·refine Zp (zd ⟨rfl,.inr ⟨rfl,?_⟩⟩)
  rintro ⟨x,hx,hn⟩
  have h3:=hi.2.2
  dsimp only at h3 hi
  rw [List.take_of_length_le (by omega)] at h3
  exact h3 x hx hn
theorem zm5 (l:List Config) (hl:l.length <= 1000) (n:Int):W (zx l n) fun r=>r.2 = n/\((r.1 = true/\QP l n) ∨ (r.1 = false/\¬ QP l n)):=by
 unfold zx
 refine zH (zsK l hl n) fun r hr=>?_
 obtain ⟨a,b⟩:=r
 obtain ⟨h1,h2 | h2⟩:=hr
 ·exact zd ⟨h1,.inl ⟨decide_eq_true h2.1,h2.2⟩⟩
 ·refine zd ⟨h1,.inr ⟨decide_eq_false ?_,h2.2⟩⟩
  have:=h2.1
  dsimp only at this
  omega
open Go Go.X Go.Eng Go.RowKit
theorem zsL (s:Script) (hl:s.Configs.length <= 1000) (n:Int):W (zm (s,n)) fun r=>(r = true/\QP s.Configs n) ∨ (r = false/\¬ QP s.Configs n):=by
 unfold zm
 refine zez (fun i:Int=>0 <= i/\i <= (s.Configs.length:Int)/\∀ x ∈ s.Configs.take i.toNat,x.Node ≠ n) (fun i=>s.Configs.length - i.toNat) ?_ ⟨by omega,by omega,by simp⟩
 intro i hi
 refine yN (fun h=>?_) fun h=>?_
 ·refine zi5 (by omega) (by omega) fun x hx=>?_
  have hmem:=zvu hx
  refine yC (fun h=>Zp (zd (.inl ⟨rfl,x,hmem,by simpa using h⟩))) fun h=>?_
  have hne:x.Node ≠ n:=by simpa using h
  refine zie fun j hj=>Q1 ⟨⟨by omega,by omega,fun y hy=>?_⟩,by omega⟩
  rw [show j.toNat = i.toNat + 1 from by omega,List.take_add_one,hx] at hy
  rcases List.mem_append.1 hy with hy | hy
  ·exact hi.2.2 y hy
  ·simp at hy; subst hy; exact hne
 ·refine Zp (zd (.inr ⟨rfl,?_⟩))
  rintro ⟨x,hx,hn⟩
  have h3:=hi.2.2
  rw [List.take_of_length_le (by omega)] at h3
  exact h3 x hx hn
open Go Go.Eng Go.RowKit Go.X
def plainI (c:Int):Bool:=decide (32 < c) && decide (c < 127) && !decide (c = 34) && !decide (c = 61) && !decide (c = 92)
theorem zuH {x:UInt8} {n:Nat} (hn:n < 256) (h:¬ x = UInt8.ofNat n):¬ ((x.toNat:Int) = (n:Int)):=by
 intro k
 apply h
 have:x.toNat = n:=by omega
 rw [<- this]; simp
theorem zlc (c:Int):yJ c = some (plainI c):=by
 unfold yJ plainI
 by_cases h1:c = 34
 ·subst h1; rfl
 by_cases h2:c = 61
 ·subst h2; rfl
 by_cases h3:c = 92
 ·subst h3; rfl
 have e1:(c == (34:Int)) = false:=beq_eq_false_iff_ne.2 h1
 have e2:(c == (61:Int)) = false:=beq_eq_false_iff_ne.2 h2
 have e3:(c == (92:Int)) = false:=beq_eq_false_iff_ne.2 h3
 rw [e1,e2,e3,decide_eq_false h1,decide_eq_false h2,decide_eq_false h3]
 by_cases h4:32 < c
 ·rw [decide_eq_true h4]; simp [br]
 ·rw [decide_eq_false h4]; simp [br]
def zaW (l:List UInt8):Bool:=(l.all fun c=>plainI (c.toNat:Int)) && !decide (l = []) && !decide (l.head? = some 35)
theorem zio {s:List UInt8} (hs:s.length <= 1000000) (F:Int->Option (zcF Int (Bool ⊕ Unit)))
  (hF:∀ i:Nat,F (i:Int) = br (decide ((i:Int) < (s.length:Int))) ((idx (yy s) (i:Int)).bind fun x_3=>(yJ x_3).bind fun x_4=>br (!x_4) (some (.done (.inl false))) ((qg .i64 (i:Int) (1:Int)).bind fun x_5=>some (.next x_5))) (some (.done (.inr ())))) :
  ∀ (k i:Nat),i + k = s.length->Qq F (i:Int) = some (if (s.drop i).all (fun c=>plainI (c.toNat:Int)) then .inr () else .inl false)
 | 0,i,hi=>by
  rw [zfK,hF,decide_eq_false (by omega)]
  rw [List.drop_eq_nil_of_le (by omega)]
  rfl
 | k + 1,i,hi=>by
  have hlt:i < s.length:=by omega
  have hidx:idx (yy s) (i:Int) = some ((s[i].toNat:Int)):=by
   unfold idx yy
   simp [hlt]
  have hadd:qg .i64 (i:Int) (1:Int) = some (((i + 1:Nat)):Int):=by
   unfold qg
   have hin:InR .i64 ((i:Int) + 1):=IntWalk.i64_in _ (by omega)
   rw [if_pos hin]
   simp
  rw [zfK,hF,decide_eq_true (by omega),hidx]
  simp only [zvP,zlc,br]
  rw [List.drop_eq_getElem_cons hlt,List.all_cons]
  cases hp:plainI (s[i].toNat:Int) with
  | false=>simp
  | true =>
   simp only [Bool.not_true,hadd,zvP,Bool.true_and]
   have:=zio hs F hF k (i + 1) (by omega)
   simpa using this
theorem zoy {l:List UInt8} (hl:l.length <= 1000000):qo l = some (zaW l):=by
 unfold qo
 have hlen:(yy l).length = l.length:=by simp [yy]
 rw [hlen]
 have h0:=zio (s:=l) hl (fun x_2=>br (decide (x_2 < (l.length:Int))) ((idx (yy l) x_2).bind fun x_3=>(yJ x_3).bind fun x_4=>br (!x_4) (some (.done (.inl false))) ((qg .i64 x_2 (1:Int)).bind fun x_5=>some (.next x_5))) (some (.done (.inr ())))) (fun i=>rfl) l.length 0 (by omega)
 rw [List.drop_zero] at h0
 simp only [Int.natCast_zero] at h0
 rw [h0]
 simp only [zvP]
 unfold zaW
 cases ha:(l.all fun c=>plainI (c.toNat:Int)) with
 | false=>rfl
 | true =>
  rw [if_pos rfl]
  cases l with
  | nil=>rfl
  | cons x t =>
   show br (!(x :: t == [])) ((zaI (x :: t) 0).bind fun x_7=>some (x_7 != (35:Int))) (some false) = _
   have e1:(x :: t == ([]:List UInt8)) = false:=rfl
   have e2:zaI (x :: t) 0 = some ((x.toNat:Int)):=rfl
   rw [e1,e2]
   simp only [br,Bool.not_false,zvP,List.head?_cons,Bool.true_and,Option.some.injEq,cond_true]
   rw [decide_eq_false (by simp)]
   simp only [Bool.not_false,Bool.true_and]
   by_cases hx:x = 35
   ·subst hx; rfl
   ·have h3:¬ ((x.toNat:Int) = 35):=zuH (n:=35) (by omega) hx
    rw [decide_eq_false hx]
    simpa using h3
theorem zsM (c:Int):zT c = some (plainI c):=by
 unfold zT plainI
 by_cases h4:32 < c
 ·rw [decide_eq_true h4,decide_eq_true (show (33:Int) <= c by omega)]
  by_cases h5:c < 127
  ·rw [decide_eq_true h5,decide_eq_true (show c <= (126:Int) by omega)]
   by_cases h1:c = 34
   ·subst h1; rfl
   ·by_cases h2:c = 61
    ·subst h2; rfl
    ·have e1:(c != (34:Int)) = true:=bne_iff_ne.2 h1
     have e2:(c != (61:Int)) = true:=bne_iff_ne.2 h2
     rw [e1,e2,decide_eq_false h1,decide_eq_false h2]
     by_cases h3:c = 92
     ·subst h3; rfl
     ·have e3:(c != (92:Int)) = true:=bne_iff_ne.2 h3
      rw [e3,decide_eq_false h3]; rfl
  ·rw [decide_eq_false h5,decide_eq_false (show ¬ c <= (126:Int) by omega)]; rfl
 ·rw [decide_eq_false h4,decide_eq_false (show ¬ (33:Int) <= c by omega)]; rfl
theorem zm6 (s:List UInt8) (i:Int):idx (yy s) i = zaI s i:=by
 unfold zaI idx yy
 split
 ·simp [List.getElem?_map]
 ·rfl
theorem zld {l:List UInt8} (hl:l.length <= 1000000):zE l = qo l:=by
 unfold zE qo
 have hlen:(yy l).length = l.length:=by simp [yy]
 rw [hlen]
 simp only [zm6,zsM,zlc]
theorem zqQ {l:List UInt8} (hl:l.length <= 1000000):zE l = some (zaW l):=by rw [zld hl,zoy hl]
theorem zb5 (s t:List UInt8):yy (s++t) = yy s++yy t:=by simp [yy]
theorem zgh (a:List UInt8):Z6 (yy a) = some a:=by
 unfold Z6 yy
 rw [if_pos (by
  rw [List.all_eq_true]
  intro x hx
  obtain ⟨b,_,rfl⟩:=List.mem_map.1 hx
  have:=b.toNat_lt
  simp; omega)]
 rw [List.map_map]
 congr 1
 have:((fun n:Int=>UInt8.ofNat n.toNat) ∘ fun b:UInt8=>(b.toNat:Int)) = id:=funext fun b=>by simp
 rw [this,List.map_id]
theorem zsN {S:List UInt8} {i:Int} {c:UInt8} (h0:0 <= i) (h:S[i.toNat]? = some c):zaI S i = some (c.toNat:Int):=by
 unfold zaI idx; rw [if_pos h0,h]; rfl
theorem ziq (c:UInt8):(ZS c).length <= 4:=by
 unfold ZS; split <;> (try split) <;> (try split) <;> simp
theorem zjr:∀ s:List UInt8,(s.flatMap ZS).length <= 4 * s.length
 | []=>by simp
 | c :: s=>by
  have:=zjr s
  have:=ziq c
  simp only [List.flatMap_cons,zvQ,zvy]
  omega
def zcn (t:List UInt8) (i:Nat):List Int:=yy (34 :: (t.take i).flatMap ZS)
theorem zpt {t:List UInt8} {i:Nat} {c:UInt8} (h:t[i]? = some c):zcn t (i + 1) = zcn t i++yy (ZS c):=by
 unfold zcn
 rw [<- zb5,List.take_add_one,h]
 simp
theorem zle (t:List UInt8) (i:Nat):(zcn t i).length <= 1 + 4 * t.length:=by
 unfold zcn
 have h:=zjr (t.take i)
 have h2:(t.take i).length <= t.length:=by simp; omega
 simp only [yy,List.length_map,zvy]
 omega
theorem zoz:∀ k:Nat,k < 16->zaI ([48,49,50,51,52,53,54,55,56,57,97,98,99,100,101,102]:List UInt8) (k:Int) = some (((zhT.getD k 0).toNat:Int)):=by decide
set_option maxHeartbeats 1000000 in
theorem zqR {t:List UInt8} (ht:t.length <= 1000000):W (zN t) fun q=>q = if zaW t = true then t else Qi t:=by
 unfold zN
 refine yA (zqQ ht) ?_
 refine yC (fun h=>zd (by rw [if_pos h])) fun h=>?_
 refine zH (R:=fun out=>out = zcn t t.length) ?_ ?_
 ·refine zkF (fun s:List Int × Int=>0 <= s.2/\s.2 <= (t.length:Int)/\s.1 = zcn t s.2.toNat) (fun s=>t.length - s.2.toNat) ?_ ⟨Int.le_refl _,by simp,rfl⟩
  rintro ⟨out,i⟩ ⟨h0,h1,ho⟩
  dsimp only at h0 h1 ho ⊢
  subst ho
  have hl:=zle t i.toNat
  refine yN (fun hi=>?_) fun hi=>Zp (by rw [show i.toNat = t.length from by omega])
  have hlt:i.toNat < t.length:=by omega
  have hc:=List.getElem?_eq_getElem hlt
  have hs:=zpt hc
  generalize t[i.toNat] = c at hc hs
  refine yA (zsN h0 hc) ?_
  have hc8:=c.toNat_lt
  have fin:∀ m:List Int,m = yy (ZS c)->W ((app 1 (zcn t i.toNat) m).bind fun x=>(qg .i64 i 1).bind fun j=>some (zcF.next (ρ:=List Int) (x,j))) fun r=>match r with | .next s'=>(0 <= s'.2/\s'.2 <= (t.length:Int)/\s'.1 = zcn t s'.2.toNat)/\t.length - s'.2.toNat < t.length - i.toNat | .done r=>r = zcn t t.length:=by
   rintro m rfl
   have h4:=ziq c
   refine zmC (by simp [yy]; omega) ?_
   refine zie fun j hj=>Q1 ⟨⟨by dsimp only; omega,by dsimp only; omega,?_⟩,by dsimp only; omega⟩
   dsimp only
   rw [show j.toNat = i.toNat + 1 from by omega,hs]
  have esc1:(c.toNat:Int) = 34 ∨ (c.toNat:Int) = 92->([92,(c.toNat:Int)]:List Int) = yy (ZS c):=by
   intro h
   unfold ZS
   rw [if_neg (by omega),if_pos (by omega)]; rfl
  refine yN (fun h=>(fin [92,_] (esc1 (.inl h))).mono fun r hr=>by cases r <;> exact hr) fun q1=>?_
  refine yN (fun h=>(fin [92,_] (esc1 (.inr h))).mono fun r hr=>by cases r <;> exact hr) fun q2=>?_
  refine yN (fun h=>(fin [92,110] (by unfold ZS; rw [if_pos (by omega)]; rfl)).mono fun r hr=>by cases r <;> exact hr) fun q3=>?_
  have hex:¬ (32 <= c.toNat/\c.toNat < 127)->W ((za4 .u8 (c.toNat:Int) (16:Int)).bind fun x_12=>(zaI ([48,49,50,51,52,53,54,55,56,57,97,98,99,100,101,102]:List UInt8) x_12).bind fun x_13=>(zfq (c.toNat:Int) (16:Int)).bind fun x_14=>(zaI ([48,49,50,51,52,53,54,55,56,57,97,98,99,100,101,102]:List UInt8) x_14).bind fun x_15=>(app 1 (zcn t i.toNat) ([(92:Int),(120:Int),x_13,x_15]:List Int)).bind fun x_16=>(qg .i64 i (1:Int)).bind fun x_17=>some (zcF.next (ρ:=List Int) (x_16,x_17))) fun r=>match r with | .next s'=>(0 <= s'.2/\s'.2 <= (t.length:Int)/\s'.1 = zcn t s'.2.toNat)/\t.length - s'.2.toNat < t.length - i.toNat | .done r=>r = zcn t t.length:=by
   intro hn
   have e:za4 .u8 (c.toNat:Int) 16 = some ((c.toNat / 16:Nat):Int):=by
    unfold za4
    rw [Int.tdiv_eq_ediv_of_nonneg (by omega),if_pos]
    ·rfl
    ·refine ⟨by omega,?_⟩
     unfold InR
     rw [IntKind.wrap_u8]; omega
   refine yA e (yA (zoz _ (by omega)) ?_)
   refine zsv (by omega) (by omega) ?_
   rintro _ rfl
   refine yA (zoz (c.toNat % 16) (by omega)) ?_
   exact fin _ (by unfold ZS; rw [if_neg (by omega),if_neg (by omega),if_neg hn]; rfl)
  refine yN (fun h=>(hex (by omega)).mono fun r hr=>by cases r <;> exact hr) fun q4=>?_
  refine yN (fun h=>(hex (by omega)).mono fun r hr=>by cases r <;> exact hr) fun q5=>?_
  exact (fin [_] (by unfold ZS; rw [if_neg (by omega),if_neg (by omega),if_pos (by omega)]; rfl)).mono fun r hr=>by cases r <;> exact hr
 ·rintro out rfl
  have hl:=zle t t.length
  refine zmC (by simp; omega) ?_
  have e:zcn t t.length++[34] = yy (Qi t):=by
   unfold zcn Qi
   rw [List.take_length,<- List.cons_append,zb5]; rfl
  rw [e]
  refine yA (zgh _) (zd ?_)
  rw [if_neg (by simp [h])]
theorem zqS {t:List UInt8} (ht:t.length <= 1000000):y4 t = some (if zaW t = true then t else Qi t):=by
 unfold y4
 rw [if_pos ht,zoy ht]
 rfl
def zfl (t:List UInt8):List UInt8:=if zaW t = true then t else Qi t
theorem zgi (t:List UInt8):(zfl t).length <= 2 + 4 * t.length:=by
 unfold zfl
 split
 ·omega
 ·have:=zjr t
  unfold Qi
  simp only [zvy,zvQ,zvC]
  omega
open Go Go.X Go.Eng Go.RowKit
def isN (n:Int):Prop:=1 <= n/\n <= 16
def wi (x lo hi:Int):Prop:=hi < 0 ∨ (lo <= x/\x <= hi)
def zBB (b:Bundle):Bool:=((b.ID.Node == (0:Int)) && ((b.ID.Seq == (0:Int)) && ((b.ID.Off == (0:Int)) && ((b.Dest == (0:Int)) && ((b.Prio == (0:Int)) && ((b.Born == (0:Int)) && ((b.Life == (0:Int)) && ((b.Total == (0:Int)) && (b.Data == ([]:List UInt8))))))))))
def rg1 (u:Use) (c:Command):Prop:=(u.node = true->isN c.Node)/\(u.other = true->isN c.Other/\c.Other ≠ c.Node)
def rg2 (u:Use) (c:Command):Prop:=wi c.N u.low u.n/\wi c.At 0 u.at_/\wi c.By 1 u.by_
def ms (u:Use) (c:Command) (has:Int->Prop):Prop:=(u.node = true->has c.Node)/\(u.other = true->has c.Other)
def fm (u:Use) (c:Command):Prop:=(u.node = false->c.Node = 0)/\(u.other = false->c.Other = 0)/\(u.n < 0->c.N = 0)/\(u.at_ < 0->c.At = 0)/\(u.by_ < 0->c.By = 0)/\(u.bndl = false->zBB c.Bundle = true)
open Classical in
noncomputable def QQ (u:Use) (c:Command) (has:Int->Prop):Int :=
 if ¬ (rg1 u c/\rg2 u c) then 2 else if ¬ ms u c has then 8 else if ¬ fm u c then 3 else if u.bndl = true then chkF c.Bundle else 0
def Y9 (c:Command):Use:=za2.getD c.Kind.toNat default
open Classical in
noncomputable def Q6 (c:Command) (has:Int->Prop):Int:=if 1 <= c.Kind/\c.Kind <= 14 then QQ (Y9 c) c has else 7
theorem zqT (c:Command):W (br (decide (c.Kind < (1:Int))) (some true) (some (decide ((14:Int) < c.Kind)))) fun b=>b = true ↔ ¬ (1 <= c.Kind/\c.Kind <= 14):=by
 refine yN (fun h=>zd ⟨fun _=>by omega,fun _=>rfl⟩) fun h=>zd ?_
 rw [decide_eq_true_iff]; omega
theorem ztn (u:Use) (c:Command):W ((br u.node ((zI c.Node).bind fun x_4=>some (!x_4)) (some false):Option Bool).bind fun x_5 =>
  br x_5 (some true) (br u.other ((zI c.Other).bind fun x_6=>br (!x_6) (some true) (some (c.Other == c.Node))) (some false))) fun b=>b = true ↔ ¬ rg1 u c:=by
 simp only [zin,zvP]
 unfold rg1 isN
 cases u.node <;> cases u.other <;> by_cases h1:1 <= c.Node/\c.Node <= 16 <;> by_cases h2:1 <= c.Other/\c.Other <= 16 <;> by_cases h3:c.Other = c.Node <;> simp [br,h1,h2,h3,W]
theorem zto (u:Use) (c:Command):W ((zJ (c.N,u.low,u.n)).bind fun x_8=>br (!x_8) (some true) ((zJ (c.At,(0:Int),u.at_)).bind fun x_9=>br (!x_9) (some true) ((zJ (c.By,(1:Int),u.by_)).bind fun x_10=>some (!x_10)))) fun b=>b = true ↔ ¬ rg2 u c:=by
 simp only [zm4,zvP]
 unfold rg2 wi
 by_cases h1:u.n < 0 ∨ (u.low <= c.N/\c.N <= u.n) <;> by_cases h2:u.at_ < 0 ∨ (0 <= c.At/\c.At <= u.at_) <;> by_cases h3:u.by_ < 0 ∨ (1 <= c.By/\c.By <= u.by_) <;> simp [br,h1,h2,h3,W]
theorem zuI (u:Use) (c:Command):W ((br (!u.node) (some (c.Node != (0:Int))) (some false):Option Bool).bind fun x_16=>br x_16 (some true) ((br (!u.other) (some (c.Other != (0:Int))) (some false):Option Bool).bind fun x_17=>br x_17 (some true)
  ((br (decide (u.n < (0:Int))) (some (c.N != (0:Int))) (some false):Option Bool).bind fun x_18=>br x_18 (some true) ((br (decide (u.at_ < (0:Int))) (some (c.At != (0:Int))) (some false):Option Bool).bind fun x_19=>br x_19 (some true)
  ((br (decide (u.by_ < (0:Int))) (some (c.By != (0:Int))) (some false):Option Bool).bind fun x_20=>br x_20 (some true) (br (!u.bndl) (some (!(zBB c.Bundle))) (some false))))))) fun b=>b = true ↔ ¬ fm u c:=by
 unfold fm
 have T:∀ {p:Prop},¬ p->(true = true ↔ ¬ p):=fun h=>⟨fun _=>h,fun _=>rfl⟩
 have one:∀ (g:Bool) (x:Int) (o:Bool),(br g (some (x != 0)) (some false)) = some o->(o = true ↔ g = true/\x ≠ 0):=by
  intro g x o h
  cases g
  ·cases h; simp
  ·cases h; simp
 have ex:∀ (g:Bool) (x:Int),W (br g (some (x != 0)) (some false)) fun o=>o = true ↔ g = true/\x ≠ 0:=by
  intro g x
  cases g
  ·exact ⟨_,rfl,one false x _ rfl⟩
  ·exact ⟨_,rfl,one true x _ rfl⟩
 refine zH (ex _ _) fun b1 h1=>yC (fun e=>zd (T fun k=>?_)) fun e1=>?_
 ·have:=h1.1 e; exact this.2 (k.1 (by simpa using this.1))
 refine zH (ex _ _) fun b2 h2=>yC (fun e=>zd (T fun k=>?_)) fun e2=>?_
 ·have:=h2.1 e; exact this.2 (k.2.1 (by simpa using this.1))
 refine zH (ex _ _) fun b3 h3=>yC (fun e=>zd (T fun k=>?_)) fun e3=>?_
 ·have:=h3.1 e; exact this.2 (k.2.2.1 (of_decide_eq_true this.1))
 refine zH (ex _ _) fun b4 h4=>yC (fun e=>zd (T fun k=>?_)) fun e4=>?_
 ·have:=h4.1 e; exact this.2 (k.2.2.2.1 (of_decide_eq_true this.1))
 refine zH (ex _ _) fun b5 h5=>yC (fun e=>zd (T fun k=>?_)) fun e5=>?_
 ·have:=h5.1 e; exact this.2 (k.2.2.2.2.1 (of_decide_eq_true this.1))
 have hz:∀ {b g:Bool} {x:Int},(b = true ↔ g = true/\x ≠ 0)->b = false->g = true->x = 0:=fun {b g x} h e k=>zvH fun q=>by rw [h.2 ⟨k,q⟩] at e; cases e
 have g1:u.node = false->c.Node = 0:=fun h=>hz h1 e1 (by simp [h])
 have g2:u.other = false->c.Other = 0:=fun h=>hz h2 e2 (by simp [h])
 have g3:u.n < 0->c.N = 0:=fun h=>hz h3 e3 (decide_eq_true h)
 have g4:u.at_ < 0->c.At = 0:=fun h=>hz h4 e4 (decide_eq_true h)
 have g5:u.by_ < 0->c.By = 0:=fun h=>hz h5 e5 (decide_eq_true h)
 clear h1 h2 h3 h4 h5
 refine yC (fun e=>zd ?_) fun e=>zd ?_
 ·have e:u.bndl = false:=by simpa using e
  constructor
  ·intro h k
   rw [k.2.2.2.2.2 e] at h
   cases h
  ·intro h
   cases hz:zBB c.Bundle
   ·rfl
   ·exact absurd ⟨g1,g2,g3,g4,g5,fun _=>hz⟩ h
 ·have e:u.bndl = true:=by simpa using e
  refine ⟨fun h=>(by cases h),fun h=>absurd ⟨g1,g2,g3,g4,g5,fun q=>by rw [e] at q; cases q⟩ h⟩
theorem zqU:∀ k,k < 15->1 <= k->(za2.getD k default).by_ < 0 ∨ (za2.getD k default).by_ = 255:=by
 intro k hk h1
 match k,hk,h1 with
 | 1,_,_ | 2,_,_ | 3,_,_ | 4,_,_ | 5,_,_ | 6,_,_ | 7,_,_ | 8,_,_ | 9,_,_ | 10,_,_ | 11,_,_ | 12,_,_ | 13,_,_ | 14,_,_=>decide
 | k + 15,h,_=>exact absurd h (by omega)
theorem zsO (c:Command):W (yl c) fun r=>r = Q6 c isN:=by
 unfold yl
 refine zH (R:=fun x:Unit ⊕ Int=>(x = .inl ()/\(1 <= c.Kind/\c.Kind <= 14)) ∨ (x = .inr 7/\¬ (1 <= c.Kind/\c.Kind <= 14))) ?_ ?_
 ·refine zH (zqT c) fun b hb=>?_
  exact yC (fun e=>zd (.inr ⟨rfl,hb.1 e⟩)) fun e=>zd (.inl ⟨rfl,zvH fun h=>by rw [hb.2 h] at e; cases e⟩)
 rintro x (⟨rfl,hk⟩ | ⟨rfl,hk⟩)
 rotate_left
 ·exact zd (by unfold Q6; rw [if_neg hk])
 have eF:∀ has,Q6 c has = QQ (Y9 c) c has:=fun has=>by unfold Q6; rw [if_pos hk]
 rw [eF]
 refine zom (by omega) (by omega) ?_
 refine yA (zm3 _ (by omega)) ?_
 show W (Option.bind _ _) _
 change W _ (fun r=>r = QQ (za2.getD c.Kind.toNat default) c isN)
 generalize za2.getD c.Kind.toNat default = u
 refine zH (R:=fun x:Unit ⊕ Int=>(x = .inl ()/\rg1 u c/\rg2 u c/\ms u c isN/\fm u c) ∨ (∃ e,x = .inr e/\e = QQ u c isN)) ?_ ?_
 ·refine zH (ztn u c) fun b hb=>?_
  refine yC (fun e=>zd (.inr ⟨_,rfl,by unfold QQ; rw [if_pos (fun h=>hb.1 e h.1)]⟩)) fun e1=>?_
  have q1:rg1 u c:=zvH fun h=>by rw [hb.2 h] at e1; cases e1
  refine zH (zto u c) fun b hb=>?_
  refine yC (fun e=>zd (.inr ⟨_,rfl,by unfold QQ; rw [if_pos (fun h=>hb.1 e h.2)]⟩)) fun e2=>?_
  have q2:rg2 u c:=zvH fun h=>by rw [hb.2 h] at e2; cases e2
  refine zH (R:=fun b:Bool=>b = true ↔ ¬ ms u c isN) ?_ fun b hb=>?_
  ·simp only [zin,zvP]
   unfold ms isN
   cases u.node <;> cases u.other <;> by_cases h1:1 <= c.Node/\c.Node <= 16 <;> by_cases h2:1 <= c.Other/\c.Other <= 16 <;> simp [br,h1,h2,W]
  refine yC (fun e=>zd (.inr ⟨_,rfl,by unfold QQ; rw [if_neg (fun h=>h ⟨q1,q2⟩),if_pos (hb.1 e)]⟩)) fun e3=>?_
  have q3:ms u c isN:=zvH fun h=>by rw [hb.2 h] at e3; cases e3
  refine zH (zuI u c) fun b hb=>?_
  refine yC (fun e=>zd (.inr ⟨_,rfl,by unfold QQ; rw [if_neg (fun h=>h ⟨q1,q2⟩),if_neg (fun h=>h q3),if_pos (hb.1 e)]⟩)) fun e4=>?_
  have q4:fm u c:=zvH fun h=>by rw [hb.2 h] at e4; cases e4
  exact zd (.inl ⟨rfl,q1,q2,q3,q4⟩)
 ·rintro x (⟨rfl,q1,q2,q3,q4⟩ | ⟨e,rfl,he⟩)
  ·unfold QQ
   rw [if_neg (fun h=>h ⟨q1,q2⟩),if_neg (fun h=>h q3),if_neg (fun h=>h q4)]
   refine zH (R:=fun x:Unit ⊕ Int=>(x = .inl ()/\u.bndl = false) ∨ (x = .inr (chkF c.Bundle)/\u.bndl = true)) ?_ ?_
   ·refine yC (fun e=>zH (zlb c.Bundle) fun r hr=>?_) fun e=>zd (.inl ⟨rfl,e⟩)
    subst hr
    exact zd (.inr ⟨rfl,e⟩)
   ·rintro x (⟨rfl,e⟩ | ⟨rfl,e⟩)
    ·exact zd (by rw [if_neg (by simp [e])])
    ·exact zd (by rw [if_pos e])
  ·exact zd he
theorem ztp (s:Script) (hl:s.Configs.length <= 1000) (n:Int):W (yF n s) fun r=>r.2 = s/\(r.1 = true ↔ QP s.Configs n):=by
 unfold yF
 refine zH (zm5 s.Configs hl n) fun r hr=>?_
 obtain ⟨a,b⟩:=r
 obtain ⟨_,⟨h1,h2⟩ | ⟨h1,h2⟩⟩:=hr
 ·exact zd ⟨rfl,fun _=>h2,fun _=>h1⟩
 ·exact zd ⟨rfl,fun h=>absurd (h1.symm.trans h) (by simp),fun h=>absurd h h2⟩
theorem zsP (c:Command) (s:Script) (hl:s.Configs.length <= 1000):W (yr c s) fun r=>r = (Q6 c (QP s.Configs),s):=by
 unfold yr
 refine zH (R:=fun x:Unit ⊕ Int=>(x = .inl ()/\(1 <= c.Kind/\c.Kind <= 14)) ∨ (x = .inr 7/\¬ (1 <= c.Kind/\c.Kind <= 14))) ?_ ?_
 ·refine zH (zqT c) fun b hb=>?_
  exact yC (fun e=>zd (.inr ⟨rfl,hb.1 e⟩)) fun e=>zd (.inl ⟨rfl,zvH fun h=>by rw [hb.2 h] at e; cases e⟩)
 rintro x (⟨rfl,hk⟩ | ⟨rfl,hk⟩)
 rotate_left
 ·exact zd (by unfold Q6; rw [if_neg hk])
 have eF:∀ has,Q6 c has = QQ (Y9 c) c has:=fun has=>by unfold Q6; rw [if_pos hk]
 rw [eF]
 refine zom (by omega) (by omega) ?_
 refine yA (zm3 _ (by omega)) ?_
 change W _ (fun r=>r = (QQ (za2.getD c.Kind.toNat default) c (QP s.Configs),s))
 generalize za2.getD c.Kind.toNat default = u
 refine zH (R:=fun x:Script ⊕ (Int × Script)=>(x = .inl s/\rg1 u c/\rg2 u c/\ms u c (QP s.Configs)/\fm u c) ∨ (∃ e,x = .inr (e,s)/\e = QQ u c (QP s.Configs))) ?_ ?_
 ·refine zH (ztn u c) fun b hb=>?_
  refine yC (fun e=>zd (.inr ⟨_,rfl,by unfold QQ; rw [if_pos (fun h=>hb.1 e h.1)]⟩)) fun e1=>?_
  have q1:rg1 u c:=zvH fun h=>by rw [hb.2 h] at e1; cases e1
  refine zH (zto u c) fun b hb=>?_
  refine yC (fun e=>zd (.inr ⟨_,rfl,by unfold QQ; rw [if_pos (fun h=>hb.1 e h.2)]⟩)) fun e2=>?_
  have q2:rg2 u c:=zvH fun h=>by rw [hb.2 h] at e2; cases e2
  refine zH (R:=fun b:Bool × Script=>b.2 = s/\(b.1 = true ↔ ¬ ms u c (QP s.Configs))) ?_ ?_
  ·refine zH (R:=fun b:Bool × Script=>b.2 = s/\(b.1 = true ↔ ¬ (u.node = true->QP s.Configs c.Node))) ?_ ?_
   ·refine yC (fun e=>zH (ztp s hl _) fun r hr=>?_) fun e=>zd ⟨rfl,by simp [e]⟩
    obtain ⟨a,b⟩:=r
    obtain ⟨rfl,h⟩:=hr
    refine zd ⟨rfl,?_⟩
    dsimp only at h ⊢
    cases a <;> simp_all
   ·rintro ⟨a,b⟩ ⟨rfl,h⟩
    dsimp only at h ⊢
    unfold ms
    refine yC (fun e=>zd ⟨rfl,fun _ k=>h.1 e k.1,fun _=>rfl⟩) fun e=>?_
    have h1:u.node = true->QP b.Configs c.Node:=zvH fun k=>by rw [h.2 k] at e; cases e
    refine yC (fun e=>zH (ztp b hl _) fun r hr=>?_) fun e=>zd ⟨rfl,⟨fun h=>(by cases h),fun h=>absurd ⟨h1,fun q=>by rw [e] at q; cases q⟩ h⟩⟩
    obtain ⟨a',b'⟩:=r
    obtain ⟨rfl,h'⟩:=hr
    refine zd ⟨rfl,?_⟩
    dsimp only at h' ⊢
    cases a' <;> simp_all
  ·rintro ⟨b,s'⟩ ⟨hs,hb⟩
   dsimp only at hs hb ⊢
   subst hs
   refine yC (fun e=>zd (.inr ⟨_,rfl,by unfold QQ; rw [if_neg (fun h=>h ⟨q1,q2⟩),if_pos (hb.1 e)]⟩)) fun e3=>?_
   have q3:ms u c (QP s'.Configs):=zvH fun h=>by rw [hb.2 h] at e3; cases e3
   refine zH (zuI u c) fun b hb=>?_
   refine yC (fun e=>zd (.inr ⟨_,rfl,by unfold QQ; rw [if_neg (fun h=>h ⟨q1,q2⟩),if_neg (fun h=>h q3),if_pos (hb.1 e)]⟩)) fun e4=>?_
   have q4:fm u c:=zvH fun h=>by rw [hb.2 h] at e4; cases e4
   exact zd (.inl ⟨rfl,q1,q2,q3,q4⟩)
 ·rintro x (⟨rfl,q1,q2,q3,q4⟩ | ⟨e,rfl,he⟩)
  ·unfold QQ
   rw [if_neg (fun h=>h ⟨q1,q2⟩),if_neg (fun h=>h q3),if_neg (fun h=>h q4)]
   refine zH (R:=fun x:Unit ⊕ Int=>(x = .inl ()/\u.bndl = false) ∨ (x = .inr (chkF c.Bundle)/\u.bndl = true)) ?_ ?_
   ·refine yC (fun e=>zH (zlb c.Bundle) fun r hr=>?_) fun e=>zd (.inl ⟨rfl,e⟩)
    subst hr
    exact zd (.inr ⟨rfl,e⟩)
   ·rintro x (⟨rfl,e⟩ | ⟨rfl,e⟩)
    ·exact zd (by rw [if_neg (by simp [e])])
    ·exact zd (by rw [if_pos e])
  ·exact zd (by rw [he])
open Go Go.X Go.Eng Go.RowKit
def RU (u:Use):RUse:=⟨u.word,u.node,u.other,decide (0 <= u.n),decide (0 <= u.at_),decide (0 <= u.by_),u.bndl,u.low,max u.n 0,max u.at_ 0⟩
theorem zuJ:∀ k:Nat,1 <= k->k <= 14->zr (k:Int) = some (RU (za2.getD k default),true):=by
 intro k h1 h2
 match k,h1,h2 with
 | 1,_,_ | 2,_,_ | 3,_,_ | 4,_,_ | 5,_,_ | 6,_,_ | 7,_,_ | 8,_,_ | 9,_,_ | 10,_,_ | 11,_,_ | 12,_,_ | 13,_,_ | 14,_,_=>rfl
 | k + 15,_,h=>exact absurd h (by omega)
theorem zlf {c:Command} (h:1 <= c.Kind/\c.Kind <= 14):zr c.Kind = some (RU (Y9 c),true):=by
 have:=zuJ c.Kind.toNat (by omega) (by omega)
 rw [show ((c.Kind.toNat:Nat):Int) = c.Kind from by omega] at this
 exact this
theorem zpu {k:Int} (h:¬ (1 <= k/\k <= 14)):W (zr k) fun r=>r.2 = false:=by
 unfold zr
 iterate 14 refine yN (fun e=>by omega) fun _=>?_
 exact zd rfl
theorem zuK {α:Type} (u v:Bool) (x y:Option α):br u x (br v x y) = br (u || v) x y:=by cases u <;> rfl
theorem zsQ (u z:Bool):br u (some true) (some z) = some (u || z):=by cases u <;> rfl
theorem zpv (u:Use) (c:Command):W (zy (RU u,c)) fun b=>b = true ↔ fm u c:=by
 have e:zy (RU u,c) = br (u.node || c.Node == 0) (br (u.other || c.Other == 0) (br (decide (0 <= u.n) || c.N == 0) (br (decide (0 <= u.at_) || c.At == 0) (br (decide (0 <= u.by_) || c.By == 0) (some (u.bndl || zBB c.Bundle)) (some false)) (some false)) (some false)) (some false)) (some false):=by
  unfold zy
  simp only [unu,RU,show ∀ b:Bundle,((b.ID.Node == (0:Int)) && ((b.ID.Seq == (0:Int)) && ((b.ID.Off == (0:Int)) && ((b.Dest == (0:Int)) && ((b.Prio == (0:Int)) && ((b.Born == (0:Int)) && ((b.Life == (0:Int)) && ((b.Total == (0:Int)) && (b.Data == ([]:List UInt8)))))))))) = zBB b from fun _=>rfl,zsQ,zuK]
 rw [e]
 unfold fm
 have F:∀ {p:Prop},¬ p->(false = true ↔ p):=fun h=>⟨fun k=>by (cases k),fun k=>absurd k h⟩
 have bo:∀ {g:Bool} {x:Int},(g || x == 0) = true->g = false->x = 0:=by
  intro g x h k; subst k; simpa using h
 have bn:∀ {g:Bool} {x:Int},(g || x == 0) = false->g = false/\x ≠ 0:=by
  intro g x h; simpa using h
 have dl:∀ {n:Int},n < 0->decide (0 <= n) = false:=fun h=>decide_eq_false (by omega)
 have ld:∀ {n:Int},decide (0 <= n) = false->n < 0:=fun h=>by have:=of_decide_eq_false h; omega
 refine yC (fun e1=>?_) fun e1=>zd (F fun k=>(bn e1).2 (k.1 (bn e1).1))
 refine yC (fun e2=>?_) fun e2=>zd (F fun k=>(bn e2).2 (k.2.1 (bn e2).1))
 refine yC (fun e3=>?_) fun e3=>zd (F fun k=>(bn e3).2 (k.2.2.1 (ld (bn e3).1)))
 refine yC (fun e4=>?_) fun e4=>zd (F fun k=>(bn e4).2 (k.2.2.2.1 (ld (bn e4).1)))
 refine yC (fun e5=>?_) fun e5=>zd (F fun k=>(bn e5).2 (k.2.2.2.2.1 (ld (bn e5).1)))
 refine zd ⟨fun h=>⟨bo e1,bo e2,fun k=>bo e3 (dl k),fun k=>bo e4 (dl k),fun k=>bo e5 (dl k),fun k=>by rw [k] at h; simpa using h⟩,fun h=>?_⟩
 cases hb:u.bndl
 ·rw [h.2.2.2.2.2 hb]; rfl
 ·rfl
theorem zpw (u:Use) (c:Command) (hb:u.by_ < 0 ∨ u.by_ = 255):W (zF (RU u,c)) fun b=>b = true ↔ rg1 u c/\rg2 u c:=by
 have e:zF (RU u,c) = (((br u.node (br (decide (c.Node < (1:Int))) (some true) (some (decide ((16:Int) < c.Node)))) (some false):Option Bool).bind fun x_3=>br x_3 (some (.inr false))
   ((br u.other (br (decide (c.Other < (1:Int))) (some true) (br (decide ((16:Int) < c.Other)) (some true) (some (c.Other == c.Node)))) (some false):Option Bool).bind fun x_4=>br x_4 (some (.inr false))
   ((br (decide (0 <= u.n)) (br (decide (c.N < u.low)) (some true) (some (decide (max u.n 0 < c.N)))) (some false):Option Bool).bind fun x_5=>br x_5 (some (.inr false))
   ((br (decide (0 <= u.at_)) (br (decide (c.At < (0:Int))) (some true) (some (decide (max u.at_ 0 < c.At)))) (some false):Option Bool).bind fun x_6=>br x_6 (some (.inr false))
   ((br (decide (0 <= u.by_)) (br (decide (c.By < (1:Int))) (some true) (some (decide ((255:Int) < c.By)))) (some false):Option Bool).bind fun x_7=>br x_7 (some (.inr false)) (some (.inl ())))))):Option (Unit ⊕ Bool)).bind fun x_9=>Sum.elim (fun _=>some true) (fun x_8=>some x_8) x_9):=rfl
 rw [e]
 clear e
 refine zH (R:=fun x:Unit ⊕ Bool=>(x = .inl ()/\rg1 u c/\rg2 u c) ∨ (x = .inr false/\¬ (rg1 u c/\rg2 u c))) ?_ ?_
 ·unfold rg1 rg2 isN wi
  refine zH (R:=fun b:Bool=>b = true ↔ ¬ (u.node = true->1 <= c.Node/\c.Node <= 16)) ?_ fun b1 h1=>?_
  ·refine yC (fun e=>?_) fun e=>zd (by simp [e])
   refine yN (fun h=>zd ⟨fun _ k=>by have:=k e; omega,fun _=>rfl⟩) fun h=>zd ⟨fun q k=>by have:=k e; have:=of_decide_eq_true q; omega,fun k=>decide_eq_true (zvH fun q=>k fun _=>by omega)⟩
  refine yC (fun e=>zd (.inr ⟨rfl,fun k=>h1.1 e k.1.1⟩)) fun e1=>?_
  have q1:u.node = true->1 <= c.Node/\c.Node <= 16:=zvH fun k=>by rw [h1.2 k] at e1; cases e1
  refine zH (R:=fun b:Bool=>b = true ↔ ¬ (u.other = true->(1 <= c.Other/\c.Other <= 16)/\c.Other ≠ c.Node)) ?_ fun b2 h2=>?_
  ·refine yC (fun e=>?_) fun e=>zd (by simp [e])
   refine yN (fun h=>zd ⟨fun _ k=>by have:=k e; omega,fun _=>rfl⟩) fun h=>?_
   refine yN (fun h=>zd ⟨fun _ k=>by have:=k e; omega,fun _=>rfl⟩) fun h2=>?_
   refine zd ⟨fun q k=>(k e).2 (by simpa using q),fun k=>?_⟩
   rw [beq_iff_eq]
   exact zvH fun q=>k fun _=>⟨by omega,q⟩
  refine yC (fun e=>zd (.inr ⟨rfl,fun k=>h2.1 e k.1.2⟩)) fun e2=>?_
  have q2:u.other = true->(1 <= c.Other/\c.Other <= 16)/\c.Other ≠ c.Node:=zvH fun k=>by rw [h2.2 k] at e2; cases e2
  have rng:∀ (n lo x hi:Int),(0 <= n->hi = n)->W (br (decide (0 <= n)) (br (decide (x < lo)) (some true) (some (decide (hi < x)))) (some false):Option Bool) fun b=>b = true ↔ ¬ (n < 0 ∨ (lo <= x/\x <= n)):=by
   intro n lo x hi hh
   refine yN (fun h=>?_) fun h=>zd ⟨fun q=>(by cases q),fun q=>absurd (.inl (by omega)) q⟩
   have:=hh h
   subst this
   refine yN (fun h=>zd ⟨fun _=>by omega,fun _=>rfl⟩) fun h=>zd ?_
   rw [decide_eq_true_iff]; omega
  refine zH (rng u.n u.low c.N _ (fun h=>by omega)) fun b3 h3=>?_
  refine yC (fun e=>zd (.inr ⟨rfl,fun k=>h3.1 e k.2.1⟩)) fun e3=>?_
  have q3:=zvH fun k=>by rw [h3.2 k] at e3; cases e3
  refine zH (rng u.at_ 0 c.At _ (fun h=>by omega)) fun b4 h4=>?_
  refine yC (fun e=>zd (.inr ⟨rfl,fun k=>h4.1 e k.2.2.1⟩)) fun e4=>?_
  have q4:=zvH fun k=>by rw [h4.2 k] at e4; cases e4
  refine zH (rng u.by_ 1 c.By 255 (fun h=>by omega)) fun b5 h5=>?_
  refine yC (fun e=>zd (.inr ⟨rfl,fun k=>h5.1 e k.2.2.2⟩)) fun e5=>?_
  have q5:=zvH fun k=>by rw [h5.2 k] at e5; cases e5
  exact zd (.inl ⟨rfl,⟨q1,q2⟩,q3,q4,q5⟩)
 ·rintro x (⟨rfl,h⟩ | ⟨rfl,h⟩)
  ·exact zd ⟨fun _=>h,fun _=>rfl⟩
  ·exact zd ⟨fun k=>(by cases k),fun k=>absurd k h⟩
def zpx (s:Script) (every:Bool) (n:Int):Prop:=every = true ∨ QP s.Configs n
theorem zqV (s:Script) (c:Command) (every:Bool) (hl:s.Configs.length <= 1000):W (zD (s,c,every)) fun r=>r = Q6 c (zpx s every):=by
 unfold zD
 by_cases hk:1 <= c.Kind/\c.Kind <= 14
 rotate_left
 ·refine zH (zpu hk) fun r hr=>?_
  obtain ⟨a,b⟩:=r
  dsimp only at hr ⊢
  subst hr
  refine zH (R:=fun x:Unit ⊕ Int=>x = .inr 7) (zd rfl) ?_
  rintro x rfl
  exact zd (by unfold Q6; rw [if_neg hk])
 refine yA (zlf hk) ?_
 dsimp only
 have eF:Q6 c (zpx s every) = QQ (Y9 c) c (zpx s every):=by unfold Q6; rw [if_pos hk]
 rw [eF]
 have hb:=zqU c.Kind.toNat (by omega) (by omega)
 unfold Y9
 generalize za2.getD c.Kind.toNat default = u at hb
 unfold QQ
 have D:∀ (x:Option (Unit ⊕ Int)) {e:Int},W x (fun r=>r = .inr e ∨ (r = .inl ()/\e = 0))->W (x.bind fun x_14=>Sum.elim (fun _=>some (0:Int)) (fun x_13=>some x_13) x_14) fun r=>r = e:=by
  intro x e h
  refine zH h ?_
  rintro r (rfl | ⟨rfl,rfl⟩)
  ·exact zd rfl
  ·exact zd rfl
 refine D _ ?_
 refine yC (fun h=>by simp at h) fun _=>?_
 refine zH (zpw u c hb) fun b1 h1=>?_
 refine yC (fun e=>zd (.inl ?_)) fun e1=>?_
 ·rw [if_pos (fun k=>by rw [h1.2 k] at e; simp at e)]
 have q1:=h1.1 (by simpa using e1)
 rw [if_neg (fun h=>h q1)]
 refine zH (R:=fun b:Bool=>b = true ↔ ¬ ms u c (zpx s every)) ?_ fun b2 h2=>?_
 ·unfold ms zpx
  cases every
  ·refine yC (fun _=>?_) fun h=>by simp at h
   have th:∀ n,W (zm (s,n)) fun b=>b = true ↔ QP s.Configs n:=fun n=>(zsL s hl n).mono fun b hb=>by
    rcases hb with ⟨rfl,h⟩ | ⟨rfl,h⟩
    ·exact ⟨fun _=>h,fun _=>rfl⟩
    ·exact ⟨fun k=>(by cases k),fun k=>absurd k h⟩
   have lst:(u.node = true->QP s.Configs c.Node)->W (br u.other ((zm (s,c.Other)).bind fun x_8=>some (!x_8)) (some false)) fun b=>b = true ↔ ¬ ((u.node = true->(false = true ∨ QP s.Configs c.Node))/\(u.other = true->(false = true ∨ QP s.Configs c.Other))):=by
    intro q
    refine yC (fun e=>zH (th _) fun b hb=>zd ?_) fun e=>zd ⟨fun k=>(by cases k),fun k=>absurd ⟨fun h=>.inr (q h),fun h=>by rw [e] at h; cases h⟩ k⟩
    constructor
    ·intro h k
     rcases k.2 e with h' | h'
     ·cases h'
     ·rw [hb.2 h'] at h; cases h
    ·intro h
     cases hb':b
     ·rfl
     ·exact absurd ⟨fun h=>.inr (q h),fun _=>.inr (hb.1 hb')⟩ h
   refine yC (fun e=>zH (th _) fun b hb=>?_) fun e=>lst fun h=>by rw [show u.node = false from e] at h; cases h
   refine yC (fun h=>zd ⟨fun _ k=>?_,fun _=>rfl⟩) fun h=>lst fun _=>hb.1 (by simpa using h)
   rcases k.1 e with h' | h'
   ·cases h'
   ·rw [hb.2 h'] at h; cases h
  ·exact zd ⟨fun k=>(by cases k),fun k=>absurd ⟨fun _=>.inl rfl,fun _=>.inl rfl⟩ k⟩
 refine yC (fun e=>zd (.inl ?_)) fun e2=>?_
 ·rw [if_pos (h2.1 e)]
 have q2:ms u c (zpx s every):=zvH fun k=>by rw [h2.2 k] at e2; cases e2
 rw [if_neg (fun h=>h q2)]
 refine zH (zpv u c) fun b3 h3=>?_
 refine yC (fun e=>zd (.inl ?_)) fun e3=>?_
 ·rw [if_pos (fun k=>by rw [h3.2 k] at e; simp at e)]
 have q3:=h3.1 (by simpa using e3)
 rw [if_neg (fun h=>h q3)]
 refine yC (fun e=>zH (zqP c.Bundle) fun r hr=>zd (.inl ?_)) fun e=>zd (.inr ⟨rfl,?_⟩)
 ·subst hr; rw [if_pos (show u.bndl = true from e)]
 ·rw [if_neg (show ¬ u.bndl = true by rw [show u.bndl = false from e]; simp)]
theorem zgj {c:Command} {p q:Int->Prop} (h:∀ n,isN n->(p n ↔ q n)):Q6 c p = Q6 c q:=by
 unfold Q6
 by_cases hk:1 <= c.Kind/\c.Kind <= 14
 ·rw [if_pos hk,if_pos hk]
  unfold QQ
  by_cases hr:rg1 (Y9 c) c/\rg2 (Y9 c) c
  ·have:ms (Y9 c) c p ↔ ms (Y9 c) c q:=by
    unfold ms
    have a:=hr.1.1
    have b:=hr.1.2
    exact ⟨fun k=>⟨fun e=>(h _ (a e)).1 (k.1 e),fun e=>(h _ (b e).1).1 (k.2 e)⟩,fun k=>⟨fun e=>(h _ (a e)).2 (k.1 e),fun e=>(h _ (b e).1).2 (k.2 e)⟩⟩
   rw [propext this]
  ·rw [if_pos hr,if_pos hr]
 ·rw [if_neg hk,if_neg hk]
theorem ztK (s:Script) (c:Command) (hl:s.Configs.length <= 1000):∃ e,qt (s,c) = some e/\zW (s,c) = some e:=by
 refine ⟨Q6 c (QP s.Configs),W.eq ?_,W.eq ?_⟩
 ·unfold qt
  refine yA (zsP c s hl).eq (zd rfl)
 ·unfold zW
  refine yA (zqV s c false hl).eq (zd ?_)
  exact zgj fun n _=>⟨fun h=>h.elim (fun k=>by cases k) id,.inr⟩
theorem zsR (s:Script) (c:Command) (hl:s.Configs.length <= 1000):∃ e,yl c = some e/\zD (s,c,true) = some e/\e = Q6 c isN:=by
 refine ⟨Q6 c isN,(zsO c).eq,W.eq ((zqV s c true hl).mono fun r hr=>?_),rfl⟩
 rw [hr]
 exact zgj fun n hn=>⟨fun _=>hn,fun _=>.inl rfl⟩
open Go Go.X Go.Eng Go.RowKit
theorem qn {β:Type} {s t:List UInt8} {f:List UInt8->Option β} {Q:β->Prop} (h:s.length + t.length <= 1000000000) (k:W (f (s++t)) Q):W ((qa s t).bind f) Q:=by
 unfold qa
 rw [if_pos (Nat.le_trans h (by decide))]
 exact k
def dec (n:Int):List UInt8:=Go.Lib.decDigits n.toNat
theorem zco {n:Int} (h:n < 10):dec n = [UInt8.ofNat (48 + n.toNat)]:=by
 unfold dec
 rw [Go.Lib.decDigits,dif_pos (by omega)]
theorem zgk {n:Int} (h:¬ n < 10):dec n = dec (n / 10)++[UInt8.ofNat (48 + (n % 10).toNat)]:=by
 unfold dec
 conv=>lhs; rw [Go.Lib.decDigits,dif_neg (by omega)]
 rw [show n.toNat / 10 = (n / 10).toNat from by omega,show n.toNat % 10 = (n % 10).toNat from by omega]
theorem zjs:∀ (k:Nat) (n:Int),0 <= n->n < 10 ^ (k + 1)->(dec n).length <= k + 1
 | 0,n,h0,h1=>by rw [zco (by omega)]; simp
 | k + 1,n,h0,h1=>by
  by_cases h:n < 10
  ·rw [zco h]; simp
  ·rw [zgk h]
   have:=zjs k (n / 10) (by omega) (by rw [Int.pow_succ] at h1; omega)
   rw [zvQ]
   simp; omega
theorem yg {n:Int} (h0:0 <= n) (h1:n <= 9223372036854775807):(dec n).length <= 20:=zjs 19 n h0 (by omega)
theorem zqW (n:Int):dec n ≠ []:=by
 by_cases h:n < 10
 ·rw [zco h]; simp
 ·rw [zgk h]; simp
theorem zc5 {n:Int} (h0:0 <= n) (h1:n <= 9223372036854775807):strconv_Itoa n = some (dec n):=by
 unfold strconv_Itoa zpf
 rw [if_pos ⟨by omega,h1⟩]
 unfold Go.Lib.itoa dec
 rw [if_neg (by omega)]
theorem ztL {n:Int} (h0:0 <= n) (h1:n < 18446744073709551616):yb (n,10) = some (dec n):=by
 unfold yb dec
 dsimp only
 rw [if_pos ⟨h0,h1,rfl⟩]
theorem zqX {n:Int} (h0:0 <= n) (h1:n < 10):Z6 ([IntKind.wrap .u8 (48 + n)]:List Int) = some [UInt8.ofNat (48 + n.toNat)]:=by
 rcases (by omega:n = 0 ∨ n = 1 ∨ n = 2 ∨ n = 3 ∨ n = 4 ∨ n = 5 ∨ n = 6 ∨ n = 7 ∨ n = 8 ∨ n = 9) with rfl | rfl | rfl | rfl | rfl | rfl | rfl | rfl | rfl | rfl <;> rfl
theorem zjt {n:Int} (h0:0 <= n) (h1:n < 18446744073709551616):InR .u64 n:=by
 show IntKind.wrap .u64 n = n
 rw [IntKind.wrap_u64]; omega
theorem zju {a b:Int} (h0:0 <= a + b) (h1:a + b < 18446744073709551616):qg .u64 a b = some (a + b):=by
 unfold qg; rw [if_pos (zjt h0 h1)]
theorem zoA {a:Int} (h0:0 <= a) (h1:a < 18446744073709551616):za4 .u64 a 10 = some (a / 10):=by
 unfold za4
 rw [Int.tdiv_eq_ediv_of_nonneg h0,if_pos ⟨by omega,zjt (by omega) (by omega)⟩]
theorem zqY {n:Int} (h0:0 <= n) (h1:n < 18446744073709551616):IntKind.wrap .u64 n = n:=zjt h0 h1
theorem zqZ {n:Int} (h0:0 <= n) (h1:n <= 9223372036854775807):zG n = some (dec n):=by
 have h20:=yg h0 h1
 refine W.eq ?_
 unfold zG
 refine zez (fun s:Int × List UInt8=>0 <= s.1/\s.1 <= 9223372036854775807/\s.2.length <= 20/\((s.2 = []/\s.1 = n) ∨ (s.2 ≠ []/\s.1 = 0/\s.2 = dec n) ∨ (0 < s.1/\dec s.1++s.2 = dec n))) (fun s=>s.1.toNat * 2 + (if s.2 = [] then 1 else 0)) ?_ ⟨h0,h1,by simp,.inl ⟨rfl,rfl⟩⟩
 rintro ⟨m,out⟩ ⟨i1,i2,i3,i4⟩
 dsimp only at i1 i2 i3 i4 ⊢
 have go:(0 < m ∨ out = [])->dec m++out = dec n->W ((zfq m (10:Int)).bind fun x_4=>(qg .u64 (48:Int) x_4).bind fun x_5=>(Z6 ([Go.IntKind.wrap .u8 x_5]:List Int)).bind fun x_6=>(qa x_6 out).bind fun x_7=>(za4 .u64 m (10:Int)).bind fun x_8=>some (zcF.next (ρ:=List UInt8) (x_8,x_7))) fun r=>match r with
   | .next s'=>(0 <= s'.1/\s'.1 <= 9223372036854775807/\s'.2.length <= 20/\((s'.2 = []/\s'.1 = n) ∨ (s'.2 ≠ []/\s'.1 = 0/\s'.2 = dec n) ∨ (0 < s'.1/\dec s'.1++s'.2 = dec n)))/\s'.1.toNat * 2 + (if s'.2 = [] then 1 else 0) < m.toNat * 2 + (if out = [] then 1 else 0)
   | .done r=>W (some r) fun x=>x = dec n:=by
  intro hm hd
  have hlen:(dec m).length + out.length <= 20:=by rw [<- zvQ,hd]; exact h20
  have hne:1 <= (dec m).length:=List.length_pos_iff.2 (zqW m)
  refine zsv (by omega) (by omega) ?_
  rintro _ rfl
  refine yA (zju (by omega) (by omega)) ?_
  refine yA (zqX (by omega) (by omega)) ?_
  refine qn (by simp; omega) ?_
  refine yA (zoA (by omega) (by omega)) ?_
  refine Q1 ⟨⟨by dsimp only; omega,by dsimp only; omega,by simp; omega,?_⟩,?_⟩
  ·dsimp only
   by_cases h:m < 10
   ·refine .inr (.inl ⟨by simp,by omega,?_⟩)
    rw [<- hd,zco h,show m % 10 = m from by omega]
   ·refine .inr (.inr ⟨by omega,?_⟩)
    rw [<- hd,zgk h,List.append_assoc]
  ·dsimp only
   rw [if_neg (by simp)]
   rcases hm with hm | hm
   ·split <;> omega
   ·rw [if_pos hm]; omega
 refine yN (fun hm=>?_) fun hm=>?_
 ·have hd:dec m++out = dec n:=by
   rcases i4 with ⟨a,b⟩ | ⟨_,b,_⟩ | ⟨_,b⟩
   ·rw [a,b,List.append_nil]
   ·omega
   ·exact b
  exact (go (.inl hm) hd).mono fun r hr=>by cases r <;> exact hr
 ·refine yC (fun h=>?_) fun h=>?_
  ·have ho:out = []:=eq_of_beq h
   have hd:dec m++out = dec n:=by
    rcases i4 with ⟨a,b⟩ | ⟨a,_,_⟩ | ⟨a,_⟩
    ·rw [a,b,List.append_nil]
    ·exact absurd ho a
    ·omega
   exact (go (.inr ho) hd).mono fun r hr=>by cases r <;> exact hr
  ·have ho:out ≠ []:=fun k=>by rw [k] at h; simp at h
   refine Zp (zd ?_)
   rcases i4 with ⟨a,_⟩ | ⟨_,_,b⟩ | ⟨a,_⟩
   ·exact absurd a ho
   ·exact b
   ·omega
theorem zir {n:Int} (h0:0 <= n) (h1:n <= 9223372036854775807):zf n = some (dec n):=by
 unfold zf
 rw [zqY h0 (by omega),zqZ h0 h1]
 rfl
theorem zis:∀ (k:Nat) (n:Int),k <= 1000->0 <= n->n <= 10000000000000->n < 10 ^ (k + 1)->zc (k + 1) n = some (dec n)
 | k,n,hk,h0,hb,h1=>by
  refine W.eq ?_
  show W (yo (zc k) n) _
  unfold yo
  refine yN (fun h=>?_) (fun h=>?_)
  ·refine yA (zju (by omega) (by omega)) ?_
   refine yA (zqX h0 h) ?_
   exact zd (zco h).symm
  ·have hk0:∃ k',k = k' + 1:=by
    cases k with
    | zero=>simp at h1; omega
    | succ k'=>exact ⟨k',rfl⟩
   obtain ⟨k',rfl⟩:=hk0
   refine yA (zoA (by omega) (by omega)) ?_
   have hq1:n / 10 < 10 ^ (k' + 1):=by rw [Int.pow_succ] at h1; omega
   refine yA (zis k' (n / 10) (by omega) (by omega) (by omega) hq1) ?_
   refine zsv (by omega) (by omega) ?_
   rintro _ rfl
   refine yA (zju (by omega) (by omega)) ?_
   refine yA (zqX (by omega) (by omega)) ?_
   have hl:=zjs k' (n / 10) (by omega) hq1
   refine qn (by simp; omega) ?_
   exact zd (zgk h).symm
theorem zm7:∀ (k:Nat) (n:Int) (r:List UInt8),zc k n = some r->zc (k + 1) n = some r:=by
 intro k
 induction k with
 | zero=>intro n r h; cases h
 | succ k ih =>
  intro n r h
  show yo (zc (k + 1)) n = some r
  have h':yo (zc k) n = some r:=h
  unfold yo at h' ⊢
  by_cases hb:n < 10
  ·rw [decide_eq_true hb] at h' ⊢; exact h'
  ·rw [decide_eq_false hb] at h' ⊢
   change (za4 .u64 n 10).bind _ = _ at h'
   change (za4 .u64 n 10).bind _ = _
   cases e1:za4 .u64 n 10 with
   | none=>rw [e1] at h'; cases h'
   | some q =>
    rw [e1] at h'
    simp only [zvP] at h' ⊢
    cases e2:zc k q with
    | none=>rw [e2] at h'; cases h'
    | some t =>
     rw [e2] at h'
     rw [ih q t e2]
     exact h'
theorem zdV {n:Int} (h0:0 <= n) (h1:n <= 1099511627776):zz n = some (dec n):=by
 have key:∀ (j k:Nat) (r:List UInt8),zc k n = some r->zc (k + j) n = some r:=by
  intro j
  induction j with
  | zero=>intro k r h; exact h
  | succ j ihj=>intro k r h; exact zm7 _ _ _ (ihj k r h)
 exact key 17 13 _ (zis 12 n (by omega) h0 (by omega) (by omega))
def keyT (d:ID):List UInt8:=dec d.Node++[46]++dec d.Seq++[46]++dec d.Off
theorem zlg {d:ID} (h:Zx d) (hs:0 <= d.Seq):(keyT d).length <= 62:=by
 unfold Zx at h
 have h1:=yg (n:=d.Node) (by omega) (by omega)
 have h2:=yg (n:=d.Seq) hs (by omega)
 have h3:=yg (n:=d.Off) (by omega) (by omega)
 unfold keyT
 simp only [zvQ,zvy,zvC]
 omega
theorem zuL {d:ID} (h:Zx d) (hs:0 <= d.Seq):qk d = some (keyT d,0):=by
 refine W.eq ?_
 unfold qk
 refine zH (zim d) fun r hr=>?_
 rcases hr with ⟨rfl,_⟩ | ⟨_,hn⟩
 rotate_left
 ·exact absurd h hn
 unfold Zx at h
 have h1:=yg (n:=d.Node) (by omega) (by omega)
 have h2:=yg (n:=d.Seq) hs (by omega)
 have h3:=yg (n:=d.Off) (by omega) (by omega)
 refine yC (fun h=>by simp at h) fun _=>?_
 refine yA (zc5 (by omega) (by omega)) (qn (by simp; omega) ?_)
 refine yA (ztL hs (by omega)) (qn (by simp; omega) (qn (by simp; omega) ?_))
 refine yA (zc5 (by omega) (by omega)) (qn (by simp; omega) ?_)
 exact zd rfl
theorem ztM {d:ID} (h:Zx d) (hs:0 <= d.Seq):zX d = some (keyT d,0):=by
 refine W.eq ?_
 unfold zX
 refine zH (zgg d) fun r hr=>?_
 rcases hr with ⟨rfl,_⟩ | ⟨_,hn⟩
 rotate_left
 ·exact absurd h hn
 unfold Zx at h
 have h1:=yg (n:=d.Node) (by omega) (by omega)
 have h2:=yg (n:=d.Seq) hs (by omega)
 have h3:=yg (n:=d.Off) (by omega) (by omega)
 refine yC (fun h=>by simp at h) fun _=>?_
 rw [zqY (by omega) (by omega),zqY (by omega) (by omega)]
 refine yA (zdV (by omega) (by omega)) (qn (by simp; omega) ?_)
 refine yA (zdV hs (by omega)) (qn (by simp; omega) (qn (by simp; omega) ?_))
 refine yA (zdV (by omega) (by omega)) (qn (by simp; omega) ?_)
 exact zd rfl
open Go Go.X Go.Eng Go.RowKit
theorem zc6:∀ (k:Nat) (n:Int),0 <= n->n.toNat <= k->∀ c ∈ dec n,48 <= c.toNat/\c.toNat <= 57
 | 0,n,h0,h1,c,hc=>by
  rw [zco (by omega)] at hc
  simp only [zvv] at hc
  subst hc
  rw [UInt8.toNat_ofNat']; omega
 | k + 1,n,h0,h1,c,hc=>by
  by_cases h:n < 10
  ·rw [zco h] at hc
   simp only [zvv] at hc
   subst hc
   rw [UInt8.toNat_ofNat']; omega
  ·rw [zgk h] at hc
   rcases List.mem_append.1 hc with hc | hc
   ·exact zc6 k (n / 10) (by omega) (by omega) c hc
   ·simp only [zvv] at hc
    subst hc
    rw [UInt8.toNat_ofNat']; omega
theorem zoB {l:List UInt8} (h:∀ c ∈ l,46 <= c.toNat/\c.toNat <= 57) (hn:l ≠ []):zaW l = true:=by
 unfold zaW
 have h1:(l.all fun c=>plainI (c.toNat:Int)) = true:=by
  refine List.all_eq_true.2 fun c hc=>?_
  have:=h c hc
  unfold plainI
  simp only [Bool.and_eq_true,decide_eq_true_eq,Bool.not_eq_true',decide_eq_false_iff_not]
  omega
 have h2:¬ l.head? = some 35:=by
  cases l with
  | nil=>simp
  | cons x l =>
   have:=h x (List.mem_cons_self ..)
   intro k
   simp only [List.head?_cons,Option.some.injEq] at k
   subst k
   have:(35:UInt8).toNat = 35:=rfl
   omega
 rw [h1,decide_eq_false hn,decide_eq_false h2]; rfl
theorem zjv {l:List UInt8} (h:zaW l = true):zfl l = l:=by unfold zfl; rw [if_pos h]
theorem Q7 {n:Int} (h:0 <= n):zfl (dec n) = dec n:=zjv (zoB (fun c hc=>by have:=zc6 _ n h (Nat.le_refl _) c hc; omega) (zqW n))
theorem zq0 {d:ID} (h:Zx d) (hs:0 <= d.Seq):zfl (keyT d) = keyT d:=by
 unfold Zx at h
 refine zjv (zoB (fun c hc=>?_) ?_)
 ·unfold keyT at hc
  simp only [List.mem_append,zvv] at hc
  rcases hc with (((hc | hc) | hc) | hc) | hc
  ·have:=zc6 _ d.Node (by omega) (Nat.le_refl _) c hc; omega
  ·subst hc; decide
  ·have:=zc6 _ d.Seq hs (Nat.le_refl _) c hc; omega
  ·subst hc; decide
  ·have:=zc6 _ d.Off (by omega) (Nat.le_refl _) c hc; omega
 ·unfold keyT; simp
def wt (w:Word):List UInt8:=if w.Key = [] then zfl w.Text else w.Key++[61]++zfl w.Text
def okW (w:Word):Prop:=w.Text.length <= 1100/\w.Key.length <= 20/\(w.Key = [] ∨ y8 w.Key = some true)
theorem zm8 {w:Word} (h:okW w):(wt w).length <= 5000:=by
 obtain ⟨h1,h2,_⟩:=h
 have:=zgi w.Text
 unfold wt
 split
 ·omega
 ·simp only [zvQ,zvy,zvC]; omega
theorem zlh:∀ (ws:List Word),(∀ w ∈ ws,okW w)->(Lib.joinTail [32] (ws.map wt)).length <= ws.length * 5001
 | [],_=>by simp [Lib.joinTail]
 | w :: ws,h=>by
  have a:=zm8 (h w (List.mem_cons_self ..))
  have b:=zlh ws fun x hx=>h x (List.mem_cons_of_mem _ hx)
  have e:Lib.joinTail [32] ((w :: ws).map wt) = 32 :: (wt w++Lib.joinTail [32] (ws.map wt)):=by simp [Lib.joinTail]
  rw [e]
  simp only [zvy,zvQ]
  omega
theorem zuM {ws:List Word} (hne:ws ≠ []) (hn:ws.length <= 20) (hw:∀ w ∈ ws,okW w):W (qr [⟨0,ws⟩]) fun r=>r = if 1000 < (Lib.join (ws.map wt) [32]).length then ([],4) else (Lib.join (ws.map wt) [32]++[10],0):=by
 have hjl:(Lib.join (ws.map wt) [32]).length <= 110000:=by
  cases ws with
  | nil=>exact absurd rfl hne
  | cons w ws =>
   have a:=zm8 (hw w (List.mem_cons_self ..))
   have b:=zlh ws fun x hx=>hw x (List.mem_cons_of_mem _ hx)
   rw [List.map_cons,Lib.join_cons,zvQ]
   simp only [zvy] at hn
   omega
 generalize hJ:Lib.join (ws.map wt) [32] = J at hjl
 unfold qr
 refine zez (fun s:List UInt8 × Int=>(s.1 = []/\s.2 = 0) ∨ (s.1 = J++[10]/\s.2 = 1/\¬ 1000 < J.length)) (fun s=>1 - s.2.toNat) ?_ (.inl ⟨rfl,rfl⟩)
 rintro ⟨out,x⟩ (⟨ho,hx⟩ | ⟨ho,hx,hj⟩)
 rotate_left
 ·dsimp only at ho hx ⊢
  subst hx ho
  refine yN (fun h=>by simp at h) fun _=>Zp (zd ?_)
  rw [if_neg hj]
 dsimp only at ho hx ⊢
 subst hx ho
 refine yN (fun _=>?_) fun h=>by simp at h
 refine yA (a:=(⟨0,ws⟩:Row)) rfl ?_
 refine yN (fun h=>absurd (List.length_eq_zero_iff.1 (by dsimp only at h; omega)) hne) fun _=>?_
 refine zH (R:=fun r:(List UInt8 × Int) ⊕ List (List UInt8)=>r = .inr (ws.map wt)) ?_ ?_
 ·refine zkF (fun s:List (List UInt8) × Int=>0 <= s.2/\s.2 <= (ws.length:Int)/\s.1 = (ws.take s.2.toNat).map wt) (fun s=>ws.length - s.2.toNat) ?_ ⟨Int.le_refl _,by simp,rfl⟩
  rintro ⟨l,i⟩ ⟨h0,h1,hl⟩
  dsimp only at h0 h1 hl ⊢
  subst hl
  refine yN (fun h=>?_) fun h=>Zp (by rw [List.take_of_length_le (by omega)])
  refine zi5 h0 h fun w hwi=>?_
  have hm:=hw w (zvu hwi)
  have hlen:=zm8 hm
  have hstep:(ws.take (i.toNat + 1)).map wt = (ws.take i.toNat).map wt++[wt w]:=by rw [List.take_add_one,hwi]; simp
  have hcount:((ws.take i.toNat).map wt).length <= 20:=by simp; omega
  obtain ⟨a1,a2,a3⟩:=hm
  refine yA (show y4 w.Text = some (zfl w.Text) from zqS (by omega)) ?_
  have hq:=zgi w.Text
  have fin:∀ t,t = wt w->W ((app 16 ((ws.take i.toNat).map wt) ([t]:List (List UInt8))).bind fun x_12=>(qg .i64 i (1:Int)).bind fun x_13=>some (zcF.next (ρ:=(List UInt8 × Int) ⊕ List (List UInt8)) (x_12,x_13))) fun r=>match r with | .next s'=>(0 <= s'.2/\s'.2 <= (ws.length:Int)/\s'.1 = (ws.take s'.2.toNat).map wt)/\ws.length - s'.2.toNat < ws.length - i.toNat | .done r=>r = .inr (ws.map wt):=by
   rintro t rfl
   refine zmC (by simp only [zvy,zvC]; omega) ?_
   refine zie fun j hj=>Q1 ⟨⟨by dsimp only; omega,by dsimp only; omega,?_⟩,by dsimp only; omega⟩
   dsimp only
   rw [show j.toNat = i.toNat + 1 from by omega,hstep]
  refine zkE (yC (fun hk=>?_) fun hk=>?_)
  ·have hk:w.Key = []:=eq_of_beq hk
   exact (fin _ (by unfold wt; rw [if_pos hk])).mono fun r hr=>by cases r <;> exact hr
  ·have hk:w.Key ≠ []:=fun k=>by rw [k] at hk; simp at hk
   rcases a3 with a3 | a3
   ·exact absurd a3 hk
   refine yA a3 ?_
   refine yC (fun h=>by simp at h) fun _=>?_
   refine qn (by simp; omega) (qn (by simp; omega) ?_)
   exact (fin _ (by unfold wt; rw [if_neg hk])).mono fun r hr=>by cases r <;> exact hr
 ·rintro r rfl
  dsimp only [Sum.elim_inr]
  have e:strings_Join (ws.map wt,[32]) = some J:=by
   unfold strings_Join zpg
   dsimp only
   rw [hJ,if_pos ⟨by rw [List.length_map]; omega,by omega⟩]
  refine yA e ?_
  refine qn (by simp; omega) (qn (by simp; omega) ?_)
  refine yN (fun h=>Zp (zd (by rw [if_pos (by omega)]))) fun h=>?_
  refine yN (fun h2=>?_) fun h2=>zie fun j hj=>Q1 ⟨.inr ⟨by simp,by dsimp only; omega,by omega⟩,by dsimp only; omega⟩
  exfalso
  simp at h2
  omega
def fld (g:Bool) (n:Int):List UInt8:=if g = true then 32 :: dec n else []
def wN (g:Bool) (n:Int):List Word:=if g = true then [⟨0,[],dec n⟩] else []
def zit (u:Use) (c:Command):List UInt8:=u.word++fld u.node c.Node++fld u.other c.Other++fld (decide (0 <= u.n)) c.N++fld (decide (0 <= u.at_)) c.At++fld (decide (0 <= u.by_)) c.By
def wsH (u:Use) (c:Command):List Word:=⟨0,[],u.word⟩ :: (wN u.node c.Node++wN u.other c.Other++wN (decide (0 <= u.n)) c.N++wN (decide (0 <= u.at_)) c.At++wN (decide (0 <= u.by_)) c.By)
def zjw (b:Bundle):List UInt8:=[32,105,100,61]++keyT b.ID++[32,116,111,61]++dec b.Dest++[32,112,114,105,111,61]++dec b.Prio++[32,98,111,114,110,61]++dec b.Born++[32,108,105,102,101,61]++dec b.Life++[32,116,111,116,97,108,61]++dec b.Total++[32,100,97,116,97,61]++zfl b.Data
def wsB (b:Bundle):List Word:=[⟨0,[105,100],keyT b.ID⟩,⟨0,[116,111],dec b.Dest⟩,⟨0,[112,114,105,111],dec b.Prio⟩,⟨0,[98,111,114,110],dec b.Born⟩,⟨0,[108,105,102,101],dec b.Life⟩,⟨0,[116,111,116,97,108],dec b.Total⟩,⟨0,[100,97,116,97],b.Data⟩]
def zgl (u:Use) (c:Command):List UInt8:=zit u c++(if u.bndl = true then zjw c.Bundle else [])
def zjx (u:Use) (c:Command):List Word:=wsH u c++(if u.bndl = true then wsB c.Bundle else [])
structure Good (u:Use) (c:Command):Prop where
 word:u.word.length <= 7
 bare:zaW u.word = true
 node:u.node = true->0 <= c.Node/\c.Node <= 262144
 other:u.other = true->0 <= c.Other/\c.Other <= 262144
 n:0 <= u.n->0 <= c.N/\c.N <= 262144
 at':0 <= u.at_->0 <= c.At/\c.At <= 262144
 by':0 <= u.by_->0 <= c.By/\c.By <= 262144
 id:u.bndl = true->Zx c.Bundle.ID
 seq:0 <= c.Bundle.ID.Seq
 ok:u.bndl = true->okF c.Bundle
 data:u.bndl = true->c.Bundle.Data.length <= 1000
theorem zq1:∀ k,k < 15->1 <= k->(za2.getD k default).word.length <= 7/\zaW (za2.getD k default).word = true/\0 <= (za2.getD k default).low/\(za2.getD k default).n <= 262144/\(za2.getD k default).at_ <= 262144:=by
 intro k hk h1
 match k,hk,h1 with
 | 1,_,_ | 2,_,_ | 3,_,_ | 4,_,_ | 5,_,_ | 6,_,_ | 7,_,_ | 8,_,_ | 9,_,_ | 10,_,_ | 11,_,_ | 12,_,_ | 13,_,_ | 14,_,_=>decide
 | k + 15,h,_=>exact absurd h (by omega)
theorem zsS {c:Command} (h:Q6 c isN = 0) (hs:0 <= c.Bundle.ID.Seq):(1 <= c.Kind/\c.Kind <= 14)/\Good (Y9 c) c:=by
 unfold Q6 at h
 by_cases hk:1 <= c.Kind/\c.Kind <= 14
 rotate_left
 ·rw [if_neg hk] at h; cases h
 refine ⟨hk,?_⟩
 rw [if_pos hk] at h
 obtain ⟨w1,w2,w3,w4,w5⟩:=zq1 c.Kind.toNat (by omega) (by omega)
 have w6:=zqU c.Kind.toNat (by omega) (by omega)
 unfold Y9 at h ⊢
 generalize za2.getD c.Kind.toNat default = u at h w1 w2 w3 w4 w5 w6 ⊢
 unfold QQ at h
 by_cases hr:rg1 u c/\rg2 u c
 rotate_left
 ·rw [if_pos hr] at h; cases h
 rw [if_neg (fun k=>k hr)] at h
 by_cases hm:ms u c isN
 rotate_left
 ·rw [if_pos hm] at h; cases h
 rw [if_neg (fun k=>k hm)] at h
 by_cases hf:fm u c
 rotate_left
 ·rw [if_pos hf] at h; cases h
 rw [if_neg (fun k=>k hf)] at h
 obtain ⟨⟨r1,r2⟩,r3,r4,r5⟩:=hr
 unfold isN at r1 r2
 unfold wi at r3 r4 r5
 have hb:u.bndl = true->Zx c.Bundle.ID/\okF c.Bundle/\c.Bundle.Data.length <= 1000:=by
  intro hb
  rw [if_pos hb] at h
  unfold chkF at h
  by_cases g1:Zx c.Bundle.ID
  rotate_left
  ·rw [if_pos g1] at h; cases h
  rw [if_neg (fun k=>k g1)] at h
  by_cases g2:okF c.Bundle
  rotate_left
  ·rw [if_pos g2] at h; cases h
  rw [if_neg (fun k=>k g2)] at h
  refine ⟨g1,g2,?_⟩
  split at h
  ·cases h
  ·split at h
   ·cases h
   ·omega
 exact ⟨w1,w2,fun k=>by have:=r1 k; omega,fun k=>by have:=(r2 k).1; omega,fun k=>by omega,fun k=>by omega,fun k=>by omega,fun k=>(hb k).1,hs,fun k=>(hb k).2.1,fun k=>(hb k).2.2⟩
open Go Go.X Go.Eng Go.RowKit
def wB (b:BI):List Word:=wN b.used b.n
theorem ztN {w0:Word} {L:List BI} (hL:L.length <= 10) (h:∀ b ∈ L,b.used = true->0 <= b.n/\b.n <= 9223372036854775807) :
  Qq (σ:=(List Word) × Int) (ρ:=List Word) (fun (l_4,x_5) =>
   br (decide (x_5 < (L.length:Int)))
    ((idx L x_5).bind fun x_6 =>
    br x_6.used
     ((yu x_6.n).bind fun x_7 =>
     (app 40 l_4 ([x_7]:List Word)).bind fun x_8 =>
     (qg .i64 x_5 (1:Int)).bind fun x_9 =>
     some (.next (x_8,x_9)))
     ((qg .i64 x_5 (1:Int)).bind fun x_10 =>
     some (.next (l_4,x_10))))
    (some (.done l_4))) (([w0]:List Word),(0:Int)) = some (w0 :: L.flatMap wB):=by
 refine W.eq (zkF (fun s:List Word × Int=>0 <= s.2/\s.2 <= (L.length:Int)/\s.1 = w0 :: (L.take s.2.toNat).flatMap wB/\s.1.length <= 1 + s.2.toNat) (fun s=>L.length - s.2.toNat) ?_ ⟨Int.le_refl _,by simp,rfl,by simp⟩)
 rintro ⟨l,i⟩ ⟨h0,h1,hl,hn⟩
 dsimp only at h0 h1 hl hn ⊢
 refine yN (fun hi=>?_) fun hi=>Zp (by rw [hl,List.take_of_length_le (by omega)])
 refine zi5 h0 hi fun b hb=>?_
 have hstep:(L.take (i.toNat + 1)).flatMap wB = (L.take i.toNat).flatMap wB++wB b:=by rw [List.take_add_one,hb]; simp
 have hm:=h b (zvu hb)
 refine yC (fun e=>?_) fun e=>?_
 ·obtain ⟨a1,a2⟩:=hm e
  have e7:yu b.n = some ⟨0,[],dec b.n⟩:=by
   unfold yu
   rw [zc5 a1 a2]
   rfl
  refine yA e7 ?_
  refine zmC (by simp; omega) ?_
  refine zie fun j hj=>Q1 ⟨⟨by dsimp only; omega,by dsimp only; omega,?_,by simp; omega⟩,by dsimp only; omega⟩
  dsimp only
  rw [show j.toNat = i.toNat + 1 from by omega,hstep,hl]
  unfold wB wN
  rw [if_pos e]; rfl
 ·refine zie fun j hj=>Q1 ⟨⟨by dsimp only; omega,by dsimp only; omega,?_,by dsimp only; omega⟩,by dsimp only; omega⟩
  dsimp only
  rw [show j.toNat = i.toNat + 1 from by omega,hstep,hl]
  unfold wB wN
  rw [if_neg (by simp [e]),List.append_nil]
theorem zoC (k t:List UInt8):yv (k,t) = some ⟨0,k,t⟩:=rfl
theorem zbg (k:List UInt8) {n:Int} (h0:0 <= n) (h1:n <= 9223372036854775807):yd (k,n) = some ⟨0,k,dec n⟩:=by
 unfold yd
 show (strconv_Itoa n).bind _ = _
 rw [zc5 h0 h1]
 rfl
theorem zoD (u:Use) (c:Command):(wsH u c).length <= 6:=by
 have h:∀ g n,(wN g n).length <= 1:=fun g n=>by unfold wN; split <;> simp
 have h1:=h u.node c.Node
 have h2:=h u.other c.Other
 have h3:=h (decide (0 <= u.n)) c.N
 have h4:=h (decide (0 <= u.at_)) c.At
 have h5:=h (decide (0 <= u.by_)) c.By
 unfold wsH
 simp only [zvy,zvQ]
 omega
theorem ztO {c:Command} (hk:1 <= c.Kind/\c.Kind <= 14) (hg:Good (Y9 c) c):qq c = some ⟨0,zjx (Y9 c) c⟩:=by
 refine W.eq ?_
 unfold qq
 refine zom (by omega) (by omega) ?_
 refine yA (zm3 _ (by omega)) ?_
 unfold Y9 at hg ⊢
 generalize za2.getD c.Kind.toNat default = u at hg ⊢
 refine yA (a:=⟨0,[],u.word⟩) rfl ?_
 refine yA (ztN (w0:=⟨0,[],u.word⟩) (L:=[(⟨u.node,c.Node⟩:BI),(⟨u.other,c.Other⟩:BI),(⟨decide ((0:Int) <= u.n),c.N⟩:BI),(⟨decide ((0:Int) <= u.at_),c.At⟩:BI),(⟨decide ((0:Int) <= u.by_),c.By⟩:BI)]) (by simp) ?_) ?_
 ·intro b hb e
  simp only [List.mem_cons,List.not_mem_nil,or_false] at hb
  rcases hb with rfl | rfl | rfl | rfl | rfl
  ·have:=hg.node e; dsimp only; omega
  ·have:=hg.other e; dsimp only; omega
  ·have:=hg.n (of_decide_eq_true e); dsimp only; omega
  ·have:=hg.at' (of_decide_eq_true e); dsimp only; omega
  ·have:=hg.by' (of_decide_eq_true e); dsimp only; omega
 have eH:((⟨0,[],u.word⟩:Word) :: List.flatMap wB [(⟨u.node,c.Node⟩:BI),(⟨u.other,c.Other⟩:BI),(⟨decide ((0:Int) <= u.n),c.N⟩:BI),(⟨decide ((0:Int) <= u.at_),c.At⟩:BI),(⟨decide ((0:Int) <= u.by_),c.By⟩:BI)]) = wsH u c:=by
  unfold wsH
  simp [wB]
 rw [eH]
 have hl:=zoD u c
 unfold zjx
 refine yC (fun e=>?_) fun e=>zd (by rw [if_neg (by simp [e]),List.append_nil])
 obtain ⟨⟨d1,d2⟩,⟨p1,p2⟩,⟨b1,b2⟩,⟨l1,l2⟩,⟨t1,t2⟩⟩:=hg.ok e
 refine yA (zuL (hg.id e) hg.seq) ?_
 refine yA (zoC _ _) ?_
 refine yA (zbg _ (by omega) (by omega)) ?_
 refine yA (zbg _ (by omega) (by omega)) ?_
 refine yA (zbg _ (by omega) (by omega)) ?_
 refine yA (zbg _ (by omega) (by omega)) ?_
 refine yA (zbg _ (by omega) (by omega)) ?_
 refine yA (zoC _ _) ?_
 refine zmC (by simp; omega) ?_
 exact zd (by rw [if_pos e]; rfl)
theorem zq2 {b:Bundle} (hi:Zx b.ID) (hs:0 <= b.ID.Seq) (ho:okF b) (hd:b.Data.length <= 1000):zA b = some (zjw b)/\(zjw b).length <= 5000:=by
 obtain ⟨⟨d1,d2⟩,⟨p1,p2⟩,⟨b1,b2⟩,⟨l1,l2⟩,⟨t1,t2⟩⟩:=ho
 have k:=zlg hi hs
 have a1:=yg (n:=b.Dest) (by omega) (by omega)
 have a2:=yg (n:=b.Prio) (by omega) (by omega)
 have a3:=yg (n:=b.Born) (by omega) (by omega)
 have a4:=yg (n:=b.Life) (by omega) (by omega)
 have a5:=yg (n:=b.Total) (by omega) (by omega)
 have q:=zgi b.Data
 have L:(zjw b).length <= 5000:=by
  unfold zjw
  simp only [zvQ,zvy,zvC]
  omega
 refine ⟨W.eq ?_,L⟩
 unfold zA
 refine yA (ztM hi hs) ?_
 refine qn (by simp; omega) (qn (by simp; omega) ?_)
 refine yA (zir (by omega) (by omega)) (qn (by simp; omega) (qn (by simp; omega) ?_))
 refine yA (zir (by omega) (by omega)) (qn (by simp; omega) (qn (by simp; omega) ?_))
 refine yA (zir (by omega) (by omega)) (qn (by simp; omega) (qn (by simp; omega) ?_))
 refine yA (zir (by omega) (by omega)) (qn (by simp; omega) (qn (by simp; omega) ?_))
 refine yA (zir (by omega) (by omega)) (qn (by simp; omega) (qn (by simp; omega) ?_))
 refine yA (zqR (by omega)).eq (qn (by rw [show (if zaW b.Data = true then b.Data else Qi b.Data) = zfl b.Data from rfl]; simp; omega) ?_)
 exact zd (by unfold zjw zfl; rfl)
theorem zc7 (g:Bool) {n:Int} (h:g = true->0 <= n/\n <= 262144):(fld g n).length <= 21:=by
 unfold fld
 split
 ·rename_i e
  have:=yg (n:=n) (by have:=h e; omega) (by have:=h e; omega)
  simp only [zvy]; omega
 ·simp
theorem zli {β:Type} {g:Bool} {n:Int} {out:List UInt8} {f:List UInt8->Option β} {Q:β->Prop} (hg:g = true->0 <= n/\n <= 262144) (ho:out.length <= 1000) (k:W (f (out++fld g n)) Q) :
  W ((br g ((qa out ([32]:List UInt8)).bind fun x_4=>(zf n).bind fun x_5=>(qa x_4 x_5).bind fun x_6=>some x_6) (some out):Option (List UInt8)).bind f) Q:=by
 refine zH (R:=fun o=>o = out++fld g n) ?_ (fun a ha=>by subst ha; exact k)
 refine yC (fun e=>?_) fun e=>zd (by unfold fld; rw [if_neg (by simp [e]),List.append_nil])
 have hl:=yg (n:=n) (by have:=hg e; omega) (by have:=hg e; omega)
 refine qn (by simp; omega) ?_
 refine yA (zir (by have:=hg e; omega) (by have:=hg e; omega)) (qn (by simp; omega) (zd ?_))
 unfold fld
 rw [if_pos e]; simp
theorem ztP {c:Command} (hk:1 <= c.Kind/\c.Kind <= 14) (hg:Good (Y9 c) c):zY c = some (zgl (Y9 c) c)/\(zgl (Y9 c) c).length <= 6000:=by
 have hu:=zlf hk
 unfold Y9 at hg hu ⊢
 generalize za2.getD c.Kind.toNat default = u at hg hu ⊢
 have f1:=zc7 u.node hg.node
 have f2:=zc7 u.other hg.other
 have f3:=zc7 (decide (0 <= u.n)) (fun e=>hg.n (of_decide_eq_true e))
 have f4:=zc7 (decide (0 <= u.at_)) (fun e=>hg.at' (of_decide_eq_true e))
 have f5:=zc7 (decide (0 <= u.by_)) (fun e=>hg.by' (of_decide_eq_true e))
 have f0:=hg.word
 have hH:(zit u c).length <= 120:=by
  unfold zit
  simp only [zvQ]; omega
 have hR:(zgl u c).length <= 6000:=by
  unfold zgl
  split
  ·rename_i e
   have:=(zq2 (hg.id e) hg.seq (hg.ok e) (hg.data e)).2
   rw [zvQ]; omega
  ·simp; omega
 refine ⟨W.eq ?_,hR⟩
 unfold zY
 refine yA hu ?_
 show W ((br u.node ((qa u.word ([32]:List UInt8)).bind fun x_4=>(zf c.Node).bind fun x_5=>(qa x_4 x_5).bind fun x_6=>some x_6) (some u.word):Option (List UInt8)).bind _) _
 refine zli (g:=u.node) hg.node (by omega) ?_
 refine zli (g:=u.other) hg.other (by simp only [zvQ]; omega) ?_
 refine zli (g:=decide (0 <= u.n)) (fun e=>hg.n (of_decide_eq_true e)) (by simp only [zvQ]; omega) ?_
 refine zli (g:=decide (0 <= u.at_)) (fun e=>hg.at' (of_decide_eq_true e)) (by simp only [zvQ]; omega) ?_
 refine zli (g:=decide (0 <= u.by_)) (fun e=>hg.by' (of_decide_eq_true e)) (by simp only [zvQ]; omega) ?_
 change W ((br u.bndl ((zA c.Bundle).bind fun x_24=>(qa (zit u c) x_24).bind fun x_25=>some x_25) (some (zit u c)):Option (List UInt8)).bind fun out_26=>some out_26) _
 refine zH (R:=fun o=>o = zgl u c) ?_ (fun a ha=>zd ha)
 refine yC (fun e=>?_) fun e=>zd (by unfold zgl; rw [if_neg (by simp [e]),List.append_nil])
 obtain ⟨e1,e2⟩:=zq2 (hg.id e) hg.seq (hg.ok e) (hg.data e)
 refine yA e1 (qn (by omega) (zd ?_))
 unfold zgl
 rw [if_pos e]
theorem ztQ {k:List UInt8} (h:k ∈ ([[105,100],[116,111],[112,114,105,111],[98,111,114,110],[108,105,102,101],[116,111,116,97,108],[100,97,116,97]]:List (List UInt8))):y8 k = some true:=by
 simp only [List.mem_cons,List.not_mem_nil,or_false] at h
 refine W.eq ?_
 rcases h with rfl | rfl | rfl | rfl | rfl | rfl | rfl <;>
 ·unfold y8
  refine yA (a:=.inr ()) (zan.2 ⟨8,by kernel_rfl⟩) ?_
  exact ⟨true,rfl,rfl⟩
theorem zq3 (a b:List Word):Lib.joinTail [32] ((a++b).map wt) = Lib.joinTail [32] (a.map wt)++Lib.joinTail [32] (b.map wt):=by simp [Lib.joinTail]
theorem zc8 {g:Bool} {n:Int} (h:g = true->0 <= n/\n <= 262144):Lib.joinTail [32] ((wN g n).map wt) = fld g n:=by
 unfold wN fld
 split
 ·rename_i e
  show (List.map _ [wt _]).flatten = _
  have:wt ⟨0,[],dec n⟩ = dec n:=by unfold wt; rw [if_pos rfl]; exact Q7 (h e).1
  rw [this]; simp
 ·rfl
theorem zq4 {b:Bundle} (hi:Zx b.ID) (hs:0 <= b.ID.Seq) (ho:okF b):Lib.joinTail [32] ((wsB b).map wt) = zjw b:=by
 obtain ⟨⟨d1,d2⟩,⟨p1,p2⟩,⟨b1,b2⟩,⟨l1,l2⟩,⟨t1,t2⟩⟩:=ho
 unfold wsB zjw
 simp only [List.map_cons,List.map_nil,wt,Lib.joinTail,List.flatten_cons,List.flatten_nil,zq0 hi hs,Q7 (show 0 <= b.Dest by omega),Q7 p1,Q7 b1,Q7 (show 0 <= b.Life by omega),Q7 (show 0 <= b.Total by omega)]
 simp
theorem zq5 {u:Use} {c:Command} (hg:Good u c):Lib.join ((zjx u c).map wt) [32] = zgl u c:=by
 unfold zjx zgl wsH zit
 rw [List.cons_append,List.map_cons,Lib.join_cons]
 simp only [zq3]
 rw [zc8 hg.node,zc8 hg.other,zc8 (g:=decide (0 <= u.n)) (fun e=>hg.n (of_decide_eq_true e)),zc8 (g:=decide (0 <= u.at_)) (fun e=>hg.at' (of_decide_eq_true e)),zc8 (g:=decide (0 <= u.by_)) (fun e=>hg.by' (of_decide_eq_true e))]
 have hw:wt ⟨0,[],u.word⟩ = u.word:=by unfold wt; rw [if_pos rfl]; exact zjv hg.bare
 have hb:Lib.joinTail [32] ((if u.bndl = true then wsB c.Bundle else []).map wt) = if u.bndl = true then zjw c.Bundle else []:=by
  split
  ·rename_i e
   exact zq4 (hg.id e) hg.seq (hg.ok e)
  ·rfl
 rw [hw,hb]
 simp only [List.append_assoc]
theorem zsT {u:Use} {c:Command} (hg:Good u c):∀ w ∈ zjx u c,okW w:=by
 have hN:∀ (g:Bool) (n:Int),(g = true->0 <= n/\n <= 262144)->∀ w ∈ wN g n,okW w:=by
  intro g n h w hw
  unfold wN at hw
  split at hw
  ·rename_i e
   simp only [zvv] at hw
   subst hw
   have:=yg (n:=n) (by have:=h e; omega) (by have:=h e; omega)
   exact ⟨by dsimp only; omega,by simp,.inl rfl⟩
  ·cases hw
 intro w hw
 unfold zjx wsH at hw
 simp only [List.cons_append,List.mem_cons,List.mem_append] at hw
 rcases hw with rfl | ((((hw | hw) | hw) | hw) | hw) | hw
 ·have:=hg.word
  exact ⟨by dsimp only; omega,by simp,.inl rfl⟩
 ·exact hN _ _ hg.node w hw
 ·exact hN _ _ hg.other w hw
 ·exact hN _ _ (fun e=>hg.n (of_decide_eq_true e)) w hw
 ·exact hN _ _ (fun e=>hg.at' (of_decide_eq_true e)) w hw
 ·exact hN _ _ (fun e=>hg.by' (of_decide_eq_true e)) w hw
 ·split at hw
  rotate_left
  ·cases hw
  rename_i e
  obtain ⟨⟨d1,d2⟩,⟨p1,p2⟩,⟨b1,b2⟩,⟨l1,l2⟩,⟨t1,t2⟩⟩:=hg.ok e
  have k:=zlg (hg.id e) hg.seq
  have a1:=yg (n:=c.Bundle.Dest) (by omega) (by omega)
  have a2:=yg (n:=c.Bundle.Prio) (by omega) (by omega)
  have a3:=yg (n:=c.Bundle.Born) (by omega) (by omega)
  have a4:=yg (n:=c.Bundle.Life) (by omega) (by omega)
  have a5:=yg (n:=c.Bundle.Total) (by omega) (by omega)
  have a6:=hg.data e
  unfold wsB at hw
  simp only [List.mem_cons,List.not_mem_nil,or_false] at hw
  rcases hw with rfl | rfl | rfl | rfl | rfl | rfl | rfl <;> exact ⟨by dsimp only; omega,by simp,.inr (ztQ (by simp))⟩
theorem ztR (c:Command) (hs:0 <= c.Bundle.ID.Seq):∃ r,y9 c = some r/\zQ c = some r:=by
 obtain ⟨e,h1,h2,he⟩:=zsR ⟨[],[],[]⟩ c (by simp)
 by_cases h0:e = 0
 ·subst h0
  obtain ⟨hk,hg⟩:=zsS he.symm hs
  obtain ⟨r1,r2⟩:=ztP hk hg
  have hj:=zq5 hg
  have ht:=zuM (ws:=zjx (Y9 c) c) (by unfold zjx wsH; simp) (by
   have:=zoD (Y9 c) c
   unfold zjx
   rw [zvQ]
   split <;> simp [wsB] <;> omega) (zsT hg)
  rw [hj] at ht
  refine ⟨if 1000 < (zgl (Y9 c) c).length then ([],4) else (zgl (Y9 c) c++[10],0),W.eq ?_,W.eq ?_⟩
  ·unfold y9
   refine yA h1 ?_
   refine yC (fun h=>by simp at h) fun _=>?_
   refine yA (ztO hk hg) ?_
   refine zH ht fun r hr=>?_
   obtain ⟨a,b⟩:=r
   exact zd hr
  ·unfold zQ
   refine yA h2 ?_
   refine yC (fun h=>by simp at h) fun _=>?_
   refine yA r1 ?_
   refine yN (fun h=>zd (by rw [if_pos (by omega)])) fun h=>qn (by simp; omega) (zd (by rw [if_neg (by omega)]))
 ·refine ⟨([],e),W.eq ?_,W.eq ?_⟩
  ·unfold y9
   refine yA h1 ?_
   exact yC (fun h=>zd rfl) fun h=>absurd (by simpa using h) h0
  ·unfold zQ
   refine yA h2 ?_
   exact yC (fun h=>zd rfl) fun h=>absurd (by simpa using h) h0
open Go Go.X Go.Eng Go.RowKit
theorem zsU {n:Int} (h:fit (.int .u64 n)):0 <= n:=by
 have h:(Lit.int .u64 n).wf = true:=h
 simp only [Lit.wf,Bool.and_eq_true,decide_eq_true_eq] at h
 exact h.1
theorem zlj (s:Script) (c:Command) (h1:fit (y5 c)):zC (s,c) = some true:=by
 have hs:0 <= c.Bundle.ID.Seq:=by
  obtain ⟨_,_,_,_,_,_,_,h,_⟩:=h1
  exact zsU h
 refine W.eq ?_
 unfold zC
 have aw:W ((zU ()).bind fun x_4=>some x_4) fun r=>r = true:=zd rfl
 refine zH (zsJ s) fun b hb=>?_
 refine yC (fun _=>aw) fun e=>?_
 obtain ⟨l1,l2,l3⟩:=hb e
 refine yN (fun _=>aw) fun _=>?_
 obtain ⟨r,e1,e2⟩:=ztR c hs
 refine yA e1 (yA e2 ?_)
 refine yA (ztJ s l1 l2 l3) ?_
 obtain ⟨x,e3,e4⟩:=ztK s c (by omega)
 refine yA e3 (yA e4 ?_)
 refine yC (fun _=>?_) fun h=>by simp at h
 refine yC (fun _=>?_) fun h=>by simp at h
 exact yC (fun _=>aw) fun h=>by simp at h
