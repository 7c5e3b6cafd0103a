/- The functions of this seat as plain Lean, and that the program's are these. Printed by a program of the prover's own. -/
import Derived.Test.YtiddhiepmakopaaB2
set_option linter.unusedVariables false
set_option linter.unusedSimpArgs false
set_option maxRecDepth 100000
namespace Go.Ab
open Go.RowKit Go.Proofs.Try
def Zv (Yb:Nat):Nat × Nat:=(Zx Yb (fld Yb + 1) Yb 0)
theorem Z8h (x0:Nat):∀ (k x:Nat) (e:Nat),fld x < k→Nw x→800≤fld x→fld x≤1200→Nw (Zx x0 k x e).1∧800≤fld (Zx x0 k x e).1∧fld (Zx x0 k x e).1≤1200:=by
  intro k
  induction k with
  | zero=>intro x e hk;exact absurd hk (Nat.not_lt_zero _)
  | succ k ih =>
    intro x e hk hw hl hu
    rw [Zx]
    cases h:fcmp .geq .f64 x 4609434218613702656 with
    | false=>rw [cond_false];exact ⟨hw,hl,hu⟩
    | true =>
      have g:=XW hw h
      have w:=XY hw g
      rw [cond_true,XV hw (by omega)]
      exact ih _ _ (by omega) w.1 (by omega) (by omega)
theorem Z6O (x:Nat) (hw:Nw x) (hl:800≤fld x) (hu:fld x≤1200):Nw (Zv x).1∧800≤fld (Zv x).1∧fld (Zv x).1≤1200 :=
  Z8h x _ _ _ (Nat.lt_succ_self _) hw hl hu
def ZY (Yb:Nat):Nat→Nat→Nat→Nat × Nat
  | 0,_,_=>default
  | k + 1,Y5,Ym=>(cond (fcmp .lss .f64 Y5 4604930618986332160)
    (ZY Yb k (fop .mul .f64 Y5 4611686018427387904) (fop .sub .f64 Ym 4607182418800017408))
    (Y5,Ym))
def Z2N (Yb:Nat) (r:Nat × Nat):Ex × St:=((.exit 2),⟨.f .f64 r.1 :: .any :: .f .f64 0 :: .f .f64 r.2 :: an 41 [],[]⟩)
def Z5K (Yb:Nat) (Y5:Nat) (Ym:Nat):St:=⟨.f .f64 Y5 :: .any :: .f .f64 0 :: .f .f64 Ym :: an 41 [],[]⟩
theorem Z5L (Yb:Nat) (hp0:Nw Yb) (hp1:800≤fld Yb) (hp2:fld Yb≤1200):∀ (k:Nat) (Y5:Nat) (Ym:Nat) (Z3N:Nw Y5) (Z3O:800≤fld Y5) (Z3P:fld Y5≤1200) (hk:(1023 - fld Y5:Nat) < k),Lp prog 0 (sub (X0 f89) [1,1,1,0,0,0]) (Z5K Yb Y5 Ym) (Z2N Yb (ZY Yb k Y5 Ym)).1 (Z2N Yb (ZY Yb k Y5 Ym)).2:=by
 intro k
 induction k with
 | zero=>intro Y5 Ym Z3N Z3O Z3P hk;exact absurd hk (Nat.not_lt_zero _)
 | succ k ih =>
  intro Y5 Ym Z3N Z3O Z3P hk
  cases Ye:(fcmp .lss .f64 Y5 4604930618986332160) with
  | true =>
   have e:ZY Yb (k + 1) Y5 Ym=(ZY Yb k (fop .mul .f64 Y5 4611686018427387904) (fop .sub .f64 Ym 4607182418800017408)):=by simp only [ZY,Ye,cond_true]
   rw [e]
   exact Xo E0Ok Z1 [] (mR false [0,1,1,2,41]) [] (ih (fop .mul .f64 Y5 4611686018427387904) (fop .sub .f64 Ym 4607182418800017408) (show Nw (fop .mul .f64 Y5 4611686018427387904) from (by have g:=XX (by assumption) Ye;have w:=X1d (by assumption) g;rw [X1c (by assumption) (by omega)];exact w.1)) (show 800≤fld (fop .mul .f64 Y5 4611686018427387904) from (by have g:=XX (by assumption) Ye;have w:=X1d (by assumption) g;rw [X1c (by assumption) (by omega)];(rw [w.2];omega))) (show fld (fop .mul .f64 Y5 4611686018427387904)≤1200 from (by have g:=XX (by assumption) Ye;have w:=X1d (by assumption) g;rw [X1c (by assumption) (by omega)];(rw [w.2];omega))) (by have g:=XX (by assumption) Ye;have w:=X1d (by assumption) g;rw [X1c (by assumption) (by omega)];(rw [w.2];omega))) (sB Ye<|sN) (by kernel_rfl)
  | false =>
   have e:ZY Yb (k + 1) Y5 Ym=(Y5,Ym):=by simp only [ZY,Ye,cond_false]
   rw [e]
   exact outR (e:=(.exit 2)) E0Ok Z1 [] (mR false [0,1,1,2,41]) [] (sB Ye<|sN) (by kernel_rfl) (by intro h;cases h)
def Z2 (Yb:Nat):Nat × Nat:=(ZY Yb ((1023 - fld ((Zv Yb).1):Nat) + 1) ((Zv Yb).1) ((Zv Yb).2))
def ZO (Yb:Nat):Nat→Nat→Nat→Nat
  | 0,_,_=>default
  | k + 1,Yx,Yg=>(cond (fcmp .geq .f64 Yg 4607182418800017408)
    (ZO Yb k (fop .add .f64 (fop .quo .f64 4607182418800017408 Yg) (fop .mul .f64 (fop .mul .f64 (fop .quo .f64 (fop .sub .f64 ((Z2 Yb).1) 4607182418800017408) (fop .add .f64 ((Z2 Yb).1) 4607182418800017408)) (fop .quo .f64 (fop .sub .f64 ((Z2 Yb).1) 4607182418800017408) (fop .add .f64 ((Z2 Yb).1) 4607182418800017408))) Yx)) (fop .sub .f64 Yg 4611686018427387904))
    Yx)
def Z2O (Yb:Nat) (r:Nat):Ex × St:=((.exit 4),⟨.f .f64 ((Z2 Yb).1) :: .any :: .f .f64 0 :: .f .f64 ((Z2 Yb).2) :: .f .f64 (fop .quo .f64 (fop .sub .f64 ((Z2 Yb).1) 4607182418800017408) (fop .add .f64 ((Z2 Yb).1) 4607182418800017408)) :: .any :: .f .f64 r :: an 13 (.f .f64 ((Z2 Yb).1) :: .f .f64 (fop .sub .f64 ((Z2 Yb).1) 4607182418800017408) :: .f .f64 ((Z2 Yb).1) :: .f .f64 (fop .add .f64 ((Z2 Yb).1) 4607182418800017408) :: .f .f64 (fop .quo .f64 (fop .sub .f64 ((Z2 Yb).1) 4607182418800017408) (fop .add .f64 ((Z2 Yb).1) 4607182418800017408)) :: .f .f64 (fop .quo .f64 (fop .sub .f64 ((Z2 Yb).1) 4607182418800017408) (fop .add .f64 ((Z2 Yb).1) 4607182418800017408)) :: .f .f64 (fop .quo .f64 (fop .sub .f64 ((Z2 Yb).1) 4607182418800017408) (fop .add .f64 ((Z2 Yb).1) 4607182418800017408)) :: .f .f64 (fop .mul .f64 (fop .quo .f64 (fop .sub .f64 ((Z2 Yb).1) 4607182418800017408) (fop .add .f64 ((Z2 Yb).1) 4607182418800017408)) (fop .quo .f64 (fop .sub .f64 ((Z2 Yb).1) 4607182418800017408) (fop .add .f64 ((Z2 Yb).1) 4607182418800017408))) :: an 17 []),[]⟩)
def Z5M (Yb:Nat) (Yx:Nat) (Yg:Nat):St:=⟨.f .f64 ((Z2 Yb).1) :: .any :: .f .f64 0 :: .f .f64 ((Z2 Yb).2) :: .f .f64 (fop .quo .f64 (fop .sub .f64 ((Z2 Yb).1) 4607182418800017408) (fop .add .f64 ((Z2 Yb).1) 4607182418800017408)) :: .f .f64 (fop .mul .f64 (fop .quo .f64 (fop .sub .f64 ((Z2 Yb).1) 4607182418800017408) (fop .add .f64 ((Z2 Yb).1) 4607182418800017408)) (fop .quo .f64 (fop .sub .f64 ((Z2 Yb).1) 4607182418800017408) (fop .add .f64 ((Z2 Yb).1) 4607182418800017408))) :: .f .f64 Yx :: .f .f64 Yg :: an 12 (.f .f64 ((Z2 Yb).1) :: .f .f64 (fop .sub .f64 ((Z2 Yb).1) 4607182418800017408) :: .f .f64 ((Z2 Yb).1) :: .f .f64 (fop .add .f64 ((Z2 Yb).1) 4607182418800017408) :: .f .f64 (fop .quo .f64 (fop .sub .f64 ((Z2 Yb).1) 4607182418800017408) (fop .add .f64 ((Z2 Yb).1) 4607182418800017408)) :: .f .f64 (fop .quo .f64 (fop .sub .f64 ((Z2 Yb).1) 4607182418800017408) (fop .add .f64 ((Z2 Yb).1) 4607182418800017408)) :: .f .f64 (fop .quo .f64 (fop .sub .f64 ((Z2 Yb).1) 4607182418800017408) (fop .add .f64 ((Z2 Yb).1) 4607182418800017408)) :: .f .f64 (fop .mul .f64 (fop .quo .f64 (fop .sub .f64 ((Z2 Yb).1) 4607182418800017408) (fop .add .f64 ((Z2 Yb).1) 4607182418800017408)) (fop .quo .f64 (fop .sub .f64 ((Z2 Yb).1) 4607182418800017408) (fop .add .f64 ((Z2 Yb).1) 4607182418800017408))) :: an 17 []),[]⟩
def Z5i:List Bool:=(mR false [0,1,1,3,1,1,13,8,17])
theorem Z5N (Yb:Nat) (hp0:Nw Yb) (hp1:800≤fld Yb) (hp2:fld Yb≤1200):∀ (k:Nat) (Yx:Nat) (Yg:Nat) (Z3Q:Yg∈Z5r) (hk:kIx Yg + Yb < k),Lp prog 0 (sub (X0 f89) [1,1,1,1,1,1,1,0,1,0,0]) (Z5M Yb Yx Yg) (Z2O Yb (ZO Yb k Yx Yg)).1 (Z2O Yb (ZO Yb k Yx Yg)).2:=by
 intro k
 induction k with
 | zero=>intro Yx Yg Z3Q hk;exact absurd hk (Nat.not_lt_zero _)
 | succ k ih =>
  intro Yx Yg Z3Q hk
  cases Ye:(fcmp .geq .f64 Yg 4607182418800017408) with
  | true =>
   have e:ZO Yb (k + 1) Yx Yg=(ZO Yb k (fop .add .f64 (fop .quo .f64 4607182418800017408 Yg) (fop .mul .f64 (fop .mul .f64 (fop .quo .f64 (fop .sub .f64 ((Z2 Yb).1) 4607182418800017408) (fop .add .f64 ((Z2 Yb).1) 4607182418800017408)) (fop .quo .f64 (fop .sub .f64 ((Z2 Yb).1) 4607182418800017408) (fop .add .f64 ((Z2 Yb).1) 4607182418800017408))) Yx)) (fop .sub .f64 Yg 4611686018427387904)):=by simp only [ZO,Ye,cond_true]
   rw [e]
   exact Xo E0Ok Z1 [] (mR false [0,1,1,6,12,8,17]) [] (ih (fop .add .f64 (fop .quo .f64 4607182418800017408 Yg) (fop .mul .f64 (fop .mul .f64 (fop .quo .f64 (fop .sub .f64 ((Z2 Yb).1) 4607182418800017408) (fop .add .f64 ((Z2 Yb).1) 4607182418800017408)) (fop .quo .f64 (fop .sub .f64 ((Z2 Yb).1) 4607182418800017408) (fop .add .f64 ((Z2 Yb).1) 4607182418800017408))) Yx)) (fop .sub .f64 Yg 4611686018427387904) (show (fop .sub .f64 Yg 4611686018427387904)∈Z5r from (by exact (Z6x _ (by assumption) Ye).1)) (by (have q:=(Z6x _ (by assumption) Ye).2;omega))) (sB Ye<|sN) (by kernel_rfl)
  | false =>
   have e:ZO Yb (k + 1) Yx Yg=Yx:=by simp only [ZO,Ye,cond_false]
   rw [e]
   exact outR (e:=(.exit 4)) E0Ok Z1 [] Z5i [] (sB Ye<|sN) (by kernel_rfl) (by intro h;cases h)
def Z24 (Yb:Nat):Nat:=(ZO Yb (kIx 4627730092099895296 + Yb + 1) 0 4627730092099895296)
def Z1t (Yb:Nat):Nat:=(fop .add .f64 (fop .mul .f64 4611686018427387904 (fop .mul .f64 (fop .quo .f64 (fop .sub .f64 ((Z2 Yb).1) 4607182418800017408) (fop .add .f64 ((Z2 Yb).1) 4607182418800017408)) (Z24 Yb))) (fop .mul .f64 ((Z2 Yb).2) 4604418534313441775))
theorem Z6p (Yb:Nat) (hp0:Nw Yb) (hp1:800≤fld Yb) (hp2:fld Yb≤1200)  : Fn prog 89 [.f .f64 Yb] (.f .f64 (Z1t Yb)) []:=by
 refine fnS E0Ok Z1 (c:=X0 f89) [] (.f .f64 (fop .add .f64 (fop .mul .f64 4611686018427387904 (fop .mul .f64 (fop .quo .f64 (fop .sub .f64 ((Z2 Yb).1) 4607182418800017408) (fop .add .f64 ((Z2 Yb).1) 4607182418800017408)) (Z24 Yb))) (fop .mul .f64 ((Z2 Yb).2) 4604418534313441775))) [] func89 (sL (mR false [0,1,1,2,41]) 0 (X4 (Z2M Yb) (x:=(Zv Yb)) (Z5J Yb hp0 hp1 hp2 (fld Yb + 1) Yb 0 (show Nw Yb from (by assumption)) (show 800≤fld Yb from (by assumption)) (show fld Yb≤1200 from (by assumption)) (Nat.lt_succ_self _)) rfl)<|sL (mR false [0,1,1,2,41]) 0 (X4 (Z2N Yb) (x:=(Z2 Yb)) (Z5L Yb hp0 hp1 hp2 ((1023 - fld ((Zv Yb).1):Nat) + 1) ((Zv Yb).1) ((Zv Yb).2) (show Nw ((Zv Yb).1) from (by exact (Z6O Yb (by assumption) (by assumption) (by assumption)).1)) (show 800≤fld ((Zv Yb).1) from (by exact (Z6O Yb (by assumption) (by assumption) (by assumption)).2.1)) (show fld ((Zv Yb).1)≤1200 from (by exact (Z6O Yb (by assumption) (by assumption) (by assumption)).2.2)) (Nat.lt_succ_self _)) rfl)<|sL (mR false [0,1,1,6,12,8,17]) 0 (X4 (Z2O Yb) (x:=(Z24 Yb)) (Z5N Yb hp0 hp1 hp2 (kIx 4627730092099895296 + Yb + 1) 0 4627730092099895296 (show 4627730092099895296∈Z5r from (by decide)) (Nat.lt_succ_self _)) rfl)<|sK [] sN) rfl (by kernel_rfl) (by kernel_rfl) rfl ?_ ?_
 · rfl
 · rfl
theorem Z8u (x0 y0:Nat):∀ (k y:Nat) (e:Int),fld y < k→Nw y→0≤e→e + (fld y:Int)≤1200→800≤fld y→Zx x0 k y (X1 .f64 e)=((Zl y0 k y e).1,X1 .f64 (Zl y0 k y e).2)∧0≤(Zl y0 k y e).2∧(Zl y0 k y e).2≤400:=by
  intro k
  induction k with
  | zero=>intro y e hk;exact absurd hk (Nat.not_lt_zero _)
  | succ k ih =>
    intro y e hk hw he hu hf
    rw [Zl,Zx]
    cases h:fcmp .geq .f64 y 4609434218613702656 with
    | false=>rw [cond_false,cond_false];exact ⟨rfl,he,by simp only;omega⟩
    | true =>
      have g:=XW hw h
      have w:=XY hw g
      have o:=X6L e.toNat (by omega)
      rw [show ((e.toNat:Nat):Int)=e from by omega] at o
      rw [cond_true,cond_true,XV hw (by omega),o]
      exact ih _ _ (by omega) w.1 (by omega) (by omega) (by omega)
theorem Z8v (x0 y0:Nat):∀ (k y:Nat) (e:Int),1023 - fld y < k→Nw y→fld y≤1023→e≤1100→800≤e + (fld y:Int)→ZY x0 k y (X1 .f64 e)=((Zn y0 k y e).1,X1 .f64 (Zn y0 k y e).2):=by
  intro k
  induction k with
  | zero=>intro y e hk;exact absurd hk (Nat.not_lt_zero _)
  | succ k ih =>
    intro y e hk hw hl hu hb
    rw [Zn,ZY]
    cases h:fcmp .lss .f64 y 4604930618986332160 with
    | false=>rw [cond_false,cond_false]
    | true =>
      have g:=XX hw h
      have w:=X1d hw g
      have o:=X6M (1100 - e).toNat (by omega)
      rw [show 1100 - (((1100 - e).toNat:Nat):Int)=e from by omega,show 1099 - (((1100 - e).toNat:Nat):Int)=e - 1 from by omega] at o
      rw [cond_true,cond_true,X1c hw (by omega),o]
      exact ih _ _ (by omega) w.1 (by omega) (by omega) (by omega)
theorem Z8i (y:Nat) (hw:Nw y) (hl:800≤fld y) (hu:fld y≤1200):Zv y=((Zb y).1,X1 .f64 (Zb y).2)∧0≤(Zb y).2∧(Zb y).2≤400:=by
  have h:=Z8u y y (fld y + 1) y 0 (Nat.lt_succ_self _) hw (Int.le_refl 0) (by omega) hl
  rw [show X1 .f64 0=0 from by decide +kernel] at h
  exact h
theorem Z7O (y:Nat) (hw:Nw y) (hl:800≤fld y) (hu:fld y≤1200):Z2 y=((Z0 y).1,X1 .f64 (Z0 y).2):=by
  obtain ⟨h1,h2,h3⟩:=Z8i y hw hl hu
  obtain ⟨a,b,c⟩:=Z5o y hw
  unfold Z2
  rw [h1]
  exact Z8v y y (1023 - fld (Zb y).1 + 1) (Zb y).1 (Zb y).2 (Nat.lt_succ_self _) a c (by omega) (by omega)
theorem Z8c:∀ j:Nat,j < 14→fcmp .geq .f64 (X1 .f64 (2 * (j:Int) - 1)) 4607182418800017408=decide (2 * (j:Int) - 1 ≥ 1)∧(0 < j→fop .sub .f64 (X1 .f64 (2 * (j:Int) - 1)) 4611686018427387904=X1 .f64 (2 * ((j - 1:Nat):Int) - 1)):=by
  have h:(List.range 14).all (fun j=>(fcmp .geq .f64 (X1 .f64 (2 * (j:Int) - 1)) 4607182418800017408 == decide (2 * (j:Int) - 1 ≥ 1)) && (j == 0 || fop .sub .f64 (X1 .f64 (2 * (j:Int) - 1)) 4611686018427387904 == X1 .f64 (2 * ((j - 1:Nat):Int) - 1)))=true:=by decide +kernel
  intro j hj
  have q:=(List.all_eq_true.1 h) j (List.mem_range.2 hj)
  rw [Bool.and_eq_true,Bool.or_eq_true,beq_iff_eq,beq_iff_eq,beq_iff_eq] at q
  exact ⟨q.1,fun h0=>q.2.resolve_left (by omega)⟩
theorem Z8w (y:Nat) (hw:Nw y) (hl:800≤fld y) (hu:fld y≤1200):∀ (j:Nat),j < 14→∀ (m n q:Nat),j < m→j < n→ZO y m q (X1 .f64 (2 * (j:Int) - 1))=ZA y n q (2 * (j:Int) - 1):=by
  have e2:(Z2 y).1=(Z0 y).1:=by rw [Z7O y hw hl hu]
  intro j
  induction j with
  | zero =>
    intro hj m n q hm hn
    obtain ⟨m,rfl⟩:∃ k,m=k + 1:=⟨m - 1,by omega⟩
    obtain ⟨n,rfl⟩:∃ k,n=k + 1:=⟨n - 1,by omega⟩
    rw [ZO,ZA,(Z8c 0 hj).1,decide_eq_false (by omega),cond_false,cond_false]
  | succ j ih =>
    intro hj m n q hm hn
    obtain ⟨m,rfl⟩:∃ k,m=k + 1:=⟨m - 1,by omega⟩
    obtain ⟨n,rfl⟩:∃ k,n=k + 1:=⟨n - 1,by omega⟩
    have g:=Z8c (j + 1) hj
    have g2:=g.2 (by omega)
    rw [Nat.add_sub_cancel] at g2
    rw [ZO,ZA,g.1,decide_eq_true (by omega),cond_true,cond_true,g2,e2,show 2 * (((j + 1:Nat)):Int) - 1 - 2=2 * (j:Int) - 1 from by omega]
    exact ih (by omega) m n _ (by omega) (by omega)
theorem Z8j (y:Nat) (hw:Nw y) (hl:800≤fld y) (hu:fld y≤1200):Z24 y=Z1h y:=by
  have h:=Z8w y hw hl hu 13 (by omega) (kIx 4627730092099895296 + y + 1) ((25 + 1:Int).toNat + y + 1) 0 (by rw [show kIx 4627730092099895296=13 from by decide];omega) (by omega)
  rw [show X1 .f64 (2 * ((13:Nat):Int) - 1)=4627730092099895296 from by decide +kernel] at h
  exact h
theorem Z5S (y:Nat) (hw:Nw y) (hl:800≤fld y) (hu:fld y≤1200):Z1t y=fop .add .f64 (fop .mul .f64 4611686018427387904 (fop .mul .f64 (fop .quo .f64 (fop .sub .f64 ((Z0 y).1) 4607182418800017408) (fop .add .f64 ((Z0 y).1) 4607182418800017408)) (Z1h y))) (fop .mul .f64 (X1 .f64 ((Z0 y).2)) 4604418534313441775):=by
  unfold Z1t
  rw [Z8j y hw hl hu,Z7O y hw hl hu]
theorem Z7l {x:Nat} (h0:fcmp .eql .f32 x 0=false) (h1:fcmp .lss .f32 x 0=false) (h3:fcmp .eql .f32 (fop .sub .f32 x x) 0=true):Xu .f64 .f32 (Z1t (fcv .f32 .f64 x))=true:=by
  obtain ⟨a,b,c⟩:=X46 (X2f h0 h1 h3) h3
  obtain ⟨r,r1,r2,r3⟩:=Z7g _ a b c
  rw [Z5S _ a b c]
  exact X4r r1 (by grind) (by grind)
def Zd (Yb:Nat):Nat:=(cond (fcmp .eql .f32 Yb 0)
  (fcv .f64 .f32 (Z1a (-1)))
  (cond (fcmp .lss .f32 Yb 0)
    (fcv .f64 .f32 (ZN))
    (cond (fcmp .neq .f32 Yb Yb)
      (fcv .f64 .f32 (ZN))
      (cond (Z12 Yb)
        (fcv .f64 .f32 (Z1t (fcv .f32 .f64 Yb)))
        Yb))))
theorem Z6P (Yb:Nat)   : Fn prog 37 [.f .f32 Yb] (.f .f32 (Zd Yb)) []:=by
 cases h0:(fcmp .eql .f32 Yb 0) with
 | true =>
  have y0:Xu .f64 .f32 (Z1a (-1))=true:=(by decide +kernel)
  have hv:Zd Yb=(fcv .f64 .f32 (Z1a (-1))):=by unfold Zd;rw [h0,cond_true]
  refine fnS E0Ok Z1 (c:=X0 f37) [] (.f .f32 (fcv .f64 .f32 (Z1a (-1)))) [] func37 (sB h0<|sF (Z4O (-1))<|sC y0<|sK [] sN) rfl (by kernel_rfl) (by kernel_rfl) rfl ?_ ?_
  · rw [hv]
  · rfl
 | false =>
  have p {a C} (s:Scr a C):=sB h0<|s
  cases h1:(fcmp .lss .f32 Yb 0) with
  | true =>
   have y0:Xu .f64 .f32 (ZN)=true:=by clear p;exact (by decide +kernel)
   have hv:Zd Yb=(fcv .f64 .f32 (ZN)):=by unfold Zd;rw [h0,cond_false,h1,cond_true]
   refine fnS E0Ok Z1 (c:=X0 f37) [] (.f .f32 (fcv .f64 .f32 (ZN))) [] func37 (p (sB h1<|sB h1<|sB h1<|sB h1<|sB (show true=true from rfl)<|sF (Z4N )<|sC y0<|sK [] sN)) rfl (by kernel_rfl) (by kernel_rfl) rfl ?_ ?_
   · rw [hv]
   · rfl
  | false =>
   have q {a C} (s:Scr a C):=p (sB h1<|sB h1<|sB h1<|sB h1<|s)
   clear p
   cases h2:(fcmp .neq .f32 Yb Yb) with
   | true =>
    have y0:Xu .f64 .f32 (ZN)=true:=by clear q;exact (by decide +kernel)
    have hv:Zd Yb=(fcv .f64 .f32 (ZN)):=by unfold Zd;rw [h0,cond_false,h1,cond_false,h2,cond_true]
    refine fnS E0Ok Z1 (c:=X0 f37) [] (.f .f32 (fcv .f64 .f32 (ZN))) [] func37 (q (sB h2<|sF (Z4N )<|sC y0<|sK [] sN)) rfl (by kernel_rfl) (by kernel_rfl) rfl ?_ ?_
    · rw [hv]
    · rfl
   | false =>
    have p {a C} (s:Scr a C):=q (sB h2<|sF (Z4e Yb)<|s)
    clear q
    cases h3:(Z12 Yb) with
    | true =>
     have y0:Nw (fcv .f32 .f64 Yb):=by clear p;exact (by exact (X46 (X2f h0 h1 h3) h3).1)
     have y1:800≤fld (fcv .f32 .f64 Yb):=by clear p;exact (by exact (X46 (X2f h0 h1 h3) h3).2.1)
     have y2:fld (fcv .f32 .f64 Yb)≤1200:=by clear p;exact (by exact (X46 (X2f h0 h1 h3) h3).2.2)
     have y3:Xu .f64 .f32 (Z1t (fcv .f32 .f64 Yb))=true:=by clear p;exact (by exact Z7l h0 h1 h3)
     have hv:Zd Yb=(fcv .f64 .f32 (Z1t (fcv .f32 .f64 Yb))):=by unfold Zd;rw [h0,cond_false,h1,cond_false,h2,cond_false,h3,cond_true]
     refine fnS E0Ok Z1 (c:=X0 f37) [] (.f .f32 (fcv .f64 .f32 (Z1t (fcv .f32 .f64 Yb)))) [] func37 (p (sB' h3<|sC (XU Yb)<|sF (Z6p (fcv .f32 .f64 Yb) y0 y1 y2)<|sC y3<|sK [] sN)) rfl (by kernel_rfl) (by kernel_rfl) rfl ?_ ?_
     · rw [hv]
     · rfl
    | false =>
     have hv:Zd Yb=Yb:=by unfold Zd;rw [h0,cond_false,h1,cond_false,h2,cond_false,h3,cond_false]
     refine fnS E0Ok Z1 (c:=X0 f37) [] (.f .f32 Yb) [] func37 (p (sB' h3<|sK [] sN)) rfl (by kernel_rfl) (by kernel_rfl) rfl ?_ ?_
     · rw [hv]
     · rfl
theorem Z8A {x:Nat} (h:Nw (fcv .f32 .f64 x)):fcmp .neq .f64 (fcv .f32 .f64 x) (fcv .f32 .f64 x)=false∧fcmp .lss .f64 (fcv .f32 .f64 x) 0=false∧fcmp .eql .f64 (fcv .f32 .f64 x) 0=false:=by
  have hv:=X20 h
  have z:Vl .f64 0 0:=by unfold Vl;decide +kernel
  have hp:=X53 h hv ((fld (fcv .f32 .f64 x):Int) - 1023) (by omega)
  have hp2:=Xj ((fld (fcv .f32 .f64 x):Int) - 1023)
  refine ⟨?_,?_,?_⟩
  · have:=eqlV hv hv
    have e:fcmp .neq .f64 (fcv .f32 .f64 x) (fcv .f32 .f64 x)=!(fcmp .eql .f64 (fcv .f32 .f64 x) (fcv .f32 .f64 x)):=rfl
    rw [e,this,decide_eq_true rfl];rfl
  · rw [lssV hv z];exact decide_eq_false (by grind)
  · rw [eqlV hv z];exact decide_eq_false (by grind)
theorem Z4Y (x:Nat) (hx:x < 4294967296∨Z12 x=true):Zd x=Zf x:=by
  unfold Zf Z1D
  have hf:=X2b x
  have r0:FloatKind.f32.format.read 0 = .number false 0 (-149):=by decide +kernel
  cases hr:Ieee.single.read x with
  | nan s t =>
    rw [hr] at hf
    have hf:fcv .f32 .f64 x=Xh .f64:=hf
    have a0:fcmp .eql .f32 x 0=false:=by show ((Ieee.single.read x).order (FloatKind.f32.format.read 0) == some .eq)=false;rw [hr];rfl
    have a1:fcmp .lss .f32 x 0=false:=by show ((Ieee.single.read x).order (FloatKind.f32.format.read 0) == some .lt)=false;rw [hr];rfl
    have a2:fcmp .neq .f32 x x=true:=by show ((Ieee.single.read x).order (Ieee.single.read x) != some .eq)=true;rw [hr];rfl
    have e:Zd x=fcv .f64 .f32 ZN:=by unfold Zd;rw [a0,cond_false,a1,cond_false,a2,cond_true]
    have e2:Z7 (fcv .f32 .f64 x)=ZN:=by
      unfold Z7
      rw [hf,show fcmp .neq .f64 (Xh .f64) (Xh .f64)=true from by decide +kernel,cond_true]
    rw [e,e2]
  | infinity s =>
    rw [hr] at hf
    cases s with
    | true =>
      have hf:fcv .f32 .f64 x=18442240474082181120:=hf
      have a0:fcmp .eql .f32 x 0=false:=by show ((Ieee.single.read x).order (FloatKind.f32.format.read 0) == some .eq)=false;rw [hr,r0];rfl
      have a1:fcmp .lss .f32 x 0=true:=by show ((Ieee.single.read x).order (FloatKind.f32.format.read 0) == some .lt)=true;rw [hr,r0];rfl
      have e:Zd x=fcv .f64 .f32 ZN:=by unfold Zd;rw [a0,cond_false,a1,cond_true]
      have e2:Z7 (fcv .f32 .f64 x)=ZN:=by
        unfold Z7
        rw [hf,show fcmp .neq .f64 18442240474082181120 18442240474082181120=false from by decide +kernel,cond_false,show fcmp .lss .f64 18442240474082181120 0=true from by decide +kernel,cond_true]
      rw [e,e2]
    | false =>
      have hf:fcv .f32 .f64 x=9218868437227405312:=hf
      have hx:x < 4294967296:=by
        refine hx.elim id fun hx => ?_
        exfalso
        have hs:(FloatKind.f32.format.read x).sum (FloatKind.f32.format.read x).opposite=none:=by
          have hr':FloatKind.f32.format.read x = .infinity false:=hr
          rw [hr'];rfl
        exact X7j hx (X4J hs)
      have hxe:x=2139095040:=by
        have hs:Ieee.single.signWeight=2147483648:=by decide +kernel
        have hb:Ieee.single.binade=8388608:=by decide +kernel
        have hi:Ieee.single.infRung=2139095040:=by decide +kernel
        unfold Ieee.Format.read at hr
        rw [hs,hb,hi] at hr
        simp only at hr
        split at hr
        · cases hr
        · split at hr
          · cases hr
          · split at hr
            · rename_i q
              simp only [Ieee.Datum.infinity.injEq,beq_eq_false_iff_ne] at hr
              omega
            · cases hr
      subst hxe
      decide +kernel
  | number s m e =>
    have hv:Vl .f32 x (sg s * ((m:Rat) * (2:Rat) ^ e)):=by show vl (Ieee.single.read x)=_;rw [hr];rfl
    generalize sg s * ((m:Rat) * (2:Rat) ^ e)=v at hv
    have z:Vl .f32 0 0:=by unfold Vl;decide +kernel
    have z6:Vl .f64 0 0:=by unfold Vl;decide +kernel
    have hw:=X3f hv
    have n0:fcmp .neq .f64 (fcv .f32 .f64 x) (fcv .f32 .f64 x)=false:=by
      have e:fcmp .neq .f64 (fcv .f32 .f64 x) (fcv .f32 .f64 x)=!(fcmp .eql .f64 (fcv .f32 .f64 x) (fcv .f32 .f64 x)):=rfl
      rw [e,eqlV hw hw,decide_eq_true rfl];rfl
    have n2:fcmp .neq .f32 x x=false:=by
      have e:fcmp .neq .f32 x x=!(fcmp .eql .f32 x x):=rfl
      rw [e,eqlV hv hv,decide_eq_true rfl];rfl
    have i3:Z12 x=true:=by
      unfold Z12
      rw [eqlV (X7l hv) z];rfl
    have tri:v < 0∨v=0∨0 < v:=by grind
    rcases tri with h | h | h
    · have a0:fcmp .eql .f32 x 0=false:=by rw [eqlV hv z];exact decide_eq_false (by grind)
      have a1:fcmp .lss .f32 x 0=true:=by rw [lssV hv z];exact decide_eq_true h
      have b1:fcmp .lss .f64 (fcv .f32 .f64 x) 0=true:=by rw [lssV hw z6];exact decide_eq_true h
      have e:Zd x=fcv .f64 .f32 ZN:=by unfold Zd;rw [a0,cond_false,a1,cond_true]
      have e2:Z7 (fcv .f32 .f64 x)=ZN:=by unfold Z7;rw [n0,cond_false,b1,cond_true]
      rw [e,e2]
    · have a0:fcmp .eql .f32 x 0=true:=by rw [eqlV hv z];exact decide_eq_true h
      have b1:fcmp .lss .f64 (fcv .f32 .f64 x) 0=false:=by rw [lssV hw z6];exact decide_eq_false (by grind)
      have b2:fcmp .eql .f64 (fcv .f32 .f64 x) 0=true:=by rw [eqlV hw z6];exact decide_eq_true h
      have e:Zd x=fcv .f64 .f32 (Z1a (-1)):=by unfold Zd;rw [a0,cond_true]
      have e2:Z7 (fcv .f32 .f64 x)=Z1a (-1):=by unfold Z7;rw [n0,cond_false,b1,cond_false,b2,cond_true]
      rw [e,e2]
    · have a0:fcmp .eql .f32 x 0=false:=by rw [eqlV hv z];exact decide_eq_false (by grind)
      have a1:fcmp .lss .f32 x 0=false:=by rw [lssV hv z];exact decide_eq_false (by grind)
      have b1:fcmp .lss .f64 (fcv .f32 .f64 x) 0=false:=by rw [lssV hw z6];exact decide_eq_false (by grind)
      have b2:fcmp .eql .f64 (fcv .f32 .f64 x) 0=false:=by rw [eqlV hw z6];exact decide_eq_false (by grind)
      have b3:ZF (fcv .f32 .f64 x) 1=false:=by
        refine Bool.eq_false_iff.2 fun hc => ?_
        have:=(X3J hc).2
        rw [hr] at this;cases this
      obtain ⟨c1,c2,c3⟩:=X46 (X2f a0 a1 i3) i3
      have e:Zd x=fcv .f64 .f32 (Z1t (fcv .f32 .f64 x)):=by unfold Zd;rw [a0,cond_false,a1,cond_false,n2,cond_false,i3,cond_true]
      rw [e,Z5d n0 b1 b2 b3,Z5S _ c1 c2 c3]
def Z15 (Yb:Nat):Nat→Nat→Nat→Nat
  | 0,_,_=>default
  | k + 1,Yn,Yg=>(cond (fcmp .geq .f64 Yg 4607182418800017408)
    (Z15 Yb k (fop .add .f64 4607182418800017408 (fop .quo .f64 (fop .mul .f64 (fop .quo .f64 Yb 4643211215818981376) Yn) Yg)) (fop .sub .f64 Yg 4607182418800017408))
    Yn)
def Z3l (Yb:Nat) (r:Nat):Ex × St:=((.exit 1),⟨.f .f64 Yb :: .any :: .f .f64 0 :: .any :: .f .f64 r :: .any :: .b (fcmp .gtr .f64 Yb 4641240890982006784) :: .f .f64 Yb :: .b (fcmp .gtr .f64 Yb 4641240890982006784) :: .any :: .b (fcmp .lss .f64 Yb 13864612927836782592) :: .f .f64 Yb :: .b (fcmp .lss .f64 Yb 13864612927836782592) :: .f .f64 Yb :: .f .f64 (fop .quo .f64 Yb 4643211215818981376) :: an 17 [],[]⟩)
def Z6q (Yb:Nat) (Yn:Nat) (Yg:Nat):St:=⟨.f .f64 Yb :: .any :: .f .f64 0 :: .f .f64 (fop .quo .f64 Yb 4643211215818981376) :: .f .f64 Yn :: .f .f64 Yg :: .b (fcmp .gtr .f64 Yb 4641240890982006784) :: .f .f64 Yb :: .b (fcmp .gtr .f64 Yb 4641240890982006784) :: .any :: .b (fcmp .lss .f64 Yb 13864612927836782592) :: .f .f64 Yb :: .b (fcmp .lss .f64 Yb 13864612927836782592) :: .f .f64 Yb :: .f .f64 (fop .quo .f64 Yb 4643211215818981376) :: an 17 [],[]⟩
def Z63:List Bool:=(mR false [0,1,1,1,1,1,1,3,1,5,17])
theorem Z6r (Yb:Nat)  : ∀ (k:Nat) (Yn:Nat) (Yg:Nat) (Z4m:Yg∈X2B) (hk:eIx Yg + Yb < k),Lp prog 0 (sub (X0 f118) [1,1,1,1,0,1,0,0]) (Z6q Yb Yn Yg) (Z3l Yb (Z15 Yb k Yn Yg)).1 (Z3l Yb (Z15 Yb k Yn Yg)).2:=by
 intro k
 induction k with
 | zero=>intro Yn Yg Z4m hk;exact absurd hk (Nat.not_lt_zero _)
 | succ k ih =>
  intro Yn Yg Z4m hk
  cases Ye:(fcmp .geq .f64 Yg 4607182418800017408) with
  | true =>
   have e:Z15 Yb (k + 1) Yn Yg=(Z15 Yb k (fop .add .f64 4607182418800017408 (fop .quo .f64 (fop .mul .f64 (fop .quo .f64 Yb 4643211215818981376) Yn) Yg)) (fop .sub .f64 Yg 4607182418800017408)):=by simp only [Z15,Ye,cond_true]
   rw [e]
   exact Xo E0Ok Z1 [] (mR false [0,1,1,7,1,5,17]) [] (ih (fop .add .f64 4607182418800017408 (fop .quo .f64 (fop .mul .f64 (fop .quo .f64 Yb 4643211215818981376) Yn) Yg)) (fop .sub .f64 Yg 4607182418800017408) (show (fop .sub .f64 Yg 4607182418800017408)∈X2B from (by exact (X3w _ (by assumption) Ye).1)) (by (have q:=(X3w _ (by assumption) Ye).2;omega))) (sB Ye<|sN) (by kernel_rfl)
  | false =>
   have e:Z15 Yb (k + 1) Yn Yg=Yn:=by simp only [Z15,Ye,cond_false]
   rw [e]
   exact outR (e:=(.exit 1)) E0Ok Z1 [] Z63 [] (sB Ye<|sN) (by kernel_rfl) (by intro h;cases h)
def Z2l (Yb:Nat):Nat:=(Z15 Yb (eIx 4622945017495814144 + Yb + 1) 4607182418800017408 4622945017495814144)
def Z1e (Yb:Nat):Nat→Nat→Int→Nat
  | 0,_,_=>default
  | k + 1,Yn,Yl=>(cond (decide (Yl < 8))
    (Z1e Yb k (fop .mul .f64 Yn Yn) (Yl + 1))
    Yn)
def Z3m (Yb:Nat) (r:Nat):Ex × St:=((.exit 3),⟨.f .f64 Yb :: .any :: .f .f64 0 :: .any :: .f .f64 r :: .any :: .b (fcmp .gtr .f64 Yb 4641240890982006784) :: .f .f64 Yb :: .b (fcmp .gtr .f64 Yb 4641240890982006784) :: .any :: .b (fcmp .lss .f64 Yb 13864612927836782592) :: .f .f64 Yb :: .b (fcmp .lss .f64 Yb 13864612927836782592) :: .f .f64 Yb :: .f .f64 (fop .quo .f64 Yb 4643211215818981376) :: an 17 [],[]⟩)
def Z6s (Yb:Nat) (Yn:Nat) (Yl:Int):St:=⟨.f .f64 Yb :: .any :: .f .f64 0 :: .any :: .f .f64 Yn :: .any :: .b (fcmp .gtr .f64 Yb 4641240890982006784) :: .f .f64 Yb :: .b (fcmp .gtr .f64 Yb 4641240890982006784) :: .any :: .b (fcmp .lss .f64 Yb 13864612927836782592) :: .f .f64 Yb :: .b (fcmp .lss .f64 Yb 13864612927836782592) :: .f .f64 Yb :: .f .f64 (fop .quo .f64 Yb 4643211215818981376) :: an 10 (.i .i64 Yl :: an 6 []),[]⟩
def Z4n:List Bool:=(mR false [0,1,1,1,1,1,1,3,1,5,10,1,6])
def Z64:List Bool:=(mR false [0,1,1,1,1,1,1,3,1,5,17])
theorem Z6t (Yb:Nat)  : ∀ (k:Nat) (Yn:Nat) (Yl:Int) (Z4o:0≤Yl) (Z4p:0≤Yl) (Z4q:Yl≤8) (hk:(8 - Yl:Int).toNat + Yb < k),Lp prog 0 (sub (X0 f118) [1,1,1,1,1,0,1,0,0]) (Z6s Yb Yn Yl) (Z3m Yb (Z1e Yb k Yn Yl)).1 (Z3m Yb (Z1e Yb k Yn Yl)).2:=by
 intro k
 induction k with
 | zero=>intro Yn Yl Z4o Z4p Z4q hk;exact absurd hk (Nat.not_lt_zero _)
 | succ k ih =>
  intro Yn Yl Z4o Z4p Z4q hk
  cases Ye:(decide (Yl < 8)) with
  | true =>
   have Yt:=odt Ye
   have Y9:(-9223372036854775808:Int)≤(Yl + 1):=(by omega)
   have Yz:(Yl + 1)≤(9223372036854775807:Int):=(by omega)
   have e:Z1e Yb (k + 1) Yn Yl=(Z1e Yb k (fop .mul .f64 Yn Yn) (Yl + 1)):=by simp only [Z1e,Ye,cond_true]
   rw [e]
   exact Xo E0Ok Z1 [] Z4n [] (ih (fop .mul .f64 Yn Yn) (Yl + 1) (show 0≤(Yl + 1) from (by omega)) (show 0≤(Yl + 1) from (by omega)) (show (Yl + 1)≤8 from (by assumption)) (by omega)) (sB Ye<|sI (Yl + 1) Y9 Yz<|sN) (by kernel_rfl)
  | false =>
   have Yt:=odf Ye
   have e:Z1e Yb (k + 1) Yn Yl=Yn:=by simp only [Z1e,Ye,cond_false]
   rw [e]
   exact outR (e:=(.exit 3)) E0Ok Z1 [] Z64 [] (sB Ye<|sN) (by kernel_rfl) (by intro h;cases h)
def Z1M (Yb:Nat):Nat:=(Z1e Yb ((8 - 0:Int).toNat + Yb + 1) (Z2l Yb) 0)
def Z1u (Yb:Nat):Nat:=(cond (fcmp .gtr .f64 Yb 4641240890982006784)
  (Z1a 1)
  (cond (fcmp .lss .f64 Yb 13864612927836782592)
    0
    (Z1M Yb)))
theorem Z7m (Yb:Nat)   : Fn prog 118 [.f .f64 Yb] (.f .f64 (Z1u Yb)) []:=by
 cases h0:(fcmp .gtr .f64 Yb 4641240890982006784) with
 | true =>
  have hv:Z1u Yb=(Z1a 1):=by unfold Z1u;rw [h0,cond_true]
  refine fnS E0Ok Z1 (c:=X0 f118) [] (.f .f64 (Z1a 1)) [] func118 (sB h0<|sF (Z4O 1)<|sK [] sN) rfl (by kernel_rfl) (by kernel_rfl) rfl ?_ ?_
  · rw [hv]
  · rfl
 | false =>
  have p {a C} (s:Scr a C):=sB h0<|s
  cases h1:(fcmp .lss .f64 Yb 13864612927836782592) with
  | true =>
   have hv:Z1u Yb=0:=by unfold Z1u;rw [h0,cond_false,h1,cond_true]
   refine fnS E0Ok Z1 (c:=X0 f118) [] (.f .f64 0) [] func118 (p (sB h1<|sK [] sN)) rfl (by kernel_rfl) (by kernel_rfl) rfl ?_ ?_
   · rw [hv]
   · rfl
  | false =>
   have hv:Z1u Yb=(Z1M Yb):=by unfold Z1u;rw [h0,cond_false,h1,cond_false]
   refine fnS E0Ok Z1 (c:=X0 f118) [] (.f .f64 (Z1M Yb)) [] func118 (p (sB h1<|sL (mR false [0,1,1,7,1,5,17]) 0 (X4 (Z3l Yb) (x:=(Z2l Yb)) (Z6r Yb (eIx 4622945017495814144 + Yb + 1) 4607182418800017408 4622945017495814144 (show 4622945017495814144∈X2B from (by decide +kernel)) (Nat.lt_succ_self _)) rfl)<|sL Z4n 0 (X4 (Z3m Yb) (x:=(Z1M Yb)) (Z6t Yb ((8 - 0:Int).toNat + Yb + 1) (Z2l Yb) 0 (show 0≤0 from (by decide +kernel)) (show 0≤0 from (by decide +kernel)) (show 0≤8 from (by decide +kernel)) (Nat.lt_succ_self _)) rfl)<|sK [] sN)) rfl (by kernel_rfl) (by kernel_rfl) rfl ?_ ?_
   · rw [hv]
   · rfl
theorem Z8x (y:Nat):∀ (j:Nat),j < 13→∀ (m n p:Nat),j < m→j < n→Z15 y m p (X1 .f64 (j:Int))=ZB y n p (j:Int):=by
  intro j
  induction j with
  | zero =>
    intro hj m n p hm hn
    obtain ⟨m,rfl⟩:∃ k,m=k + 1:=⟨m - 1,by omega⟩
    obtain ⟨n,rfl⟩:∃ k,n=k + 1:=⟨n - 1,by omega⟩
    rw [Z15,ZB,(eTab 0 hj).1,decide_eq_false (by omega),cond_false,cond_false]
  | succ j ih =>
    intro hj m n p hm hn
    obtain ⟨m,rfl⟩:∃ k,m=k + 1:=⟨m - 1,by omega⟩
    obtain ⟨n,rfl⟩:∃ k,n=k + 1:=⟨n - 1,by omega⟩
    have g:=eTab (j + 1) hj
    have g2:=g.2.1 (by omega)
    rw [Nat.add_sub_cancel] at g2
    rw [Z15,ZB,g.1,decide_eq_true (by omega),cond_true,cond_true,g2,show ((j + 1:Nat):Int) - 1=(j:Int) from by omega]
    exact ih (by omega) m n _ (by omega) (by omega)
theorem Z8y (y:Nat):∀ (m p:Nat) (k:Int),Z1e y m p k=ZJ y m p k:=by
  intro m
  induction m with
  | zero=>intro p k;rfl
  | succ m ih=>intro p k;rw [Z1e,ZJ,ih]
theorem Z8q (y:Nat):Z1M y=Z1r y:=by
  have h:Z2l y=Z23 y:=by
    have h:=Z8x y 12 (by omega) (eIx 4622945017495814144 + y + 1) ((12:Int).toNat + y + 1) 4607182418800017408 (by rw [show eIx 4622945017495814144=12 from by decide +kernel];omega) (by omega)
    rw [show X1 .f64 ((12:Nat):Int)=4622945017495814144 from by decide +kernel] at h
    exact h
  unfold Z1M
  rw [h,Z8y]
  rfl
theorem Z79 {x:Nat} (h:X1f x):Z1u (fcv .f32 .f64 x)=Zz (fcv .f32 .f64 x):=by
  rcases h with ⟨r,h,h1,h2⟩ | rfl | rfl | rfl
  · obtain ⟨c1,c2,c3⟩:=Z7L (X3f h) h1 h2
    rw [(Z6v (X3f h) h1 h2).1]
    unfold Z1u
    rw [c2,cond_false,c3,cond_false,Z8q]
  · decide +kernel
  · decide +kernel
  · decide +kernel
def Z2g (Yb:Nat):Nat:=(Z1u (fcv .f32 .f64 Yb))
theorem Z7P (Yb:Nat)   : Fn prog 102 [.f .f32 Yb] (.f .f64 (Z2g Yb)) []:=by
 refine fnS E0Ok Z1 (c:=X0 f102) [] (.f .f64 (Z1u (fcv .f32 .f64 Yb))) [] func102 (sC (XU Yb)<|sF (Z7m (fcv .f32 .f64 Yb))<|sK [] sN) rfl (by kernel_rfl) (by kernel_rfl) rfl ?_ ?_
 · rfl
 · rfl
theorem Z87 {x:Nat} (h:X1f x):Xu .f64 .f32 (Z2g x)=true:=by
  unfold Z2g
  rw [Z79 h]
  exact Z6w h
def Z1n (Yb:Nat):Nat:=(fcv .f64 .f32 (Z2g Yb))
theorem Z6Q (Yb:Nat) (hp0:X1f Yb)  : Fn prog 54 [.f .f32 Yb] (.f .f32 (Z1n Yb)) []:=by
 have y0:Xu .f64 .f32 (Z2g Yb)=true:=(by exact Z87 hp0)
 refine fnS E0Ok Z1 (c:=X0 f54) [] (.f .f32 (fcv .f64 .f32 (Z2g Yb))) [] func54 (sF (Z7P Yb)<|sC y0<|sK [] sN) rfl (by kernel_rfl) (by kernel_rfl) rfl ?_ ?_
 · rfl
 · rfl
theorem Z6c {x:Nat} (h:X1f x):Z1n x=Zp x:=by
  unfold Z1n Z2g Zp Z1D
  rw [Z79 h]
def Z1i (Y0:Gm):Nat→Int→(List (List Int))→(List (List Int))
  | 0,_,_=>default
  | k + 1,Y5,Yy=>(cond (decide (Y5 < (Y0.Tr.length:Int)))
    (Z1i Y0 k (Y5 + 1) (Yy ++ [(([]:List Int) ++ (Y0.Tr.getD Y5.toNat default))]))
    Yy)
def Z3e (Y0:Gm) (r:(List (List Int))):Ex × St:=((.exit 0),⟨.agg [.sl (Y0.Pq.map Gv.c), .sl (Y0.Tr.map (cL (cI .i64)))] :: .ptr 0 0 0 :: .ptr 1 0 0 :: .ptr 2 0 0 :: .any :: .any :: .any :: .ptr 0 0 0 :: .sl (Y0.Pq.map Gv.c) :: .own 3 :: .agg [.own 3, .nils] :: .ptr 0 0 1 :: .sl (Y0.Tr.map (cL (cI .i64))) :: an 15 [],[.box 35 [.sl (Y0.Pq.map Gv.c), .sl (Y0.Tr.map (cL (cI .i64)))], .box 35 [.nils, .nils], .box 35 [.own 3, .own 4], .vec 62 3 (([]:List (List AV)) ++ (Y0.Pq.map Gv.c)) false, .nest 79 (r.map fun l=>l.map (cI .i64)) false]⟩)
def Z3f (Y0:Gm) (Y5:Int) (Yy:(List (List Int))):St:=⟨.agg [.sl (Y0.Pq.map Gv.c), .sl (Y0.Tr.map (cL (cI .i64)))] :: .ptr 0 0 0 :: .ptr 1 0 0 :: .ptr 3 0 0 :: .any :: .any :: .any :: .ptr 0 0 0 :: .sl (Y0.Pq.map Gv.c) :: .own 2 :: .agg [.own 2, .nils] :: .ptr 0 0 1 :: .sl (Y0.Tr.map (cL (cI .i64))) :: .i .i64 (Y0.Tr.length:Int) :: .i .i64 Y5 :: an 13 [],[.box 35 [.sl (Y0.Pq.map Gv.c), .sl (Y0.Tr.map (cL (cI .i64)))], .box 35 [.nils, .nils], .vec 62 3 (([]:List (List AV)) ++ (Y0.Pq.map Gv.c)) false, .box 35 [.own 2, .own 4], .nest 79 (Yy.map fun l=>l.map (cI .i64)) false]⟩
theorem Z6d (Y0:Gm) (hp0:Y0.Pq.length≤1073741824) (hp1:Y0.Tr.length≤1073741824) (hp2:∀ t∈Y0.Tr,t.length≤1073741824) (hp3:X7 Y0.Pq.length Y0.Tr):∀ (k:Nat) (Y5:Int) (Yy:(List (List Int))) (Z2P:0≤Y5) (Z4f:(Yy.length:Int)=Y5) (hk:((Y0.Tr.length:Int) - Y5).toNat < k),Lp prog 0 (sub (X0 f103) [1,1,0,1,0,0]) (Z3f Y0 Y5 Yy) (Z3e Y0 (Z1i Y0 k Y5 Yy)).1 (Z3e Y0 (Z1i Y0 k Y5 Yy)).2:=by
 intro k
 induction k with
 | zero=>intro Y5 Yy Z2P Z4f hk;exact absurd hk (Nat.not_lt_zero _)
 | succ k ih =>
  intro Y5 Yy Z2P Z4f hk
  cases Ye:(decide (Y5 < (Y0.Tr.length:Int))) with
  | true =>
   have Yt:=odt Ye
   have Y9:(0:Int)≤Y5:=(by assumption)
   have Yz:Y5 < (Y0.Tr.length:Int):=(by assumption)
   have YA:([]:List Int).length + (Y0.Tr.getD Y5.toNat default).length≤1073741824:=(by simp_all<;>omega)
   have YD:Yy.length + [(([]:List Int) ++ (Y0.Tr.getD Y5.toNat default))].length≤1073741824:=(by simp_all<;>omega)
   have YG:(-9223372036854775808:Int)≤(Y5 + 1):=(by omega)
   have YM:(Y5 + 1)≤(9223372036854775807:Int):=(by omega)
   have e:Z1i Y0 (k + 1) Y5 Yy=(Z1i Y0 k (Y5 + 1) (Yy ++ [(([]:List Int) ++ (Y0.Tr.getD Y5.toNat default))])):=by simp only [Z1i,Ye,cond_true]
   rw [e]
   exact X1O E0Ok Z1 [] (mR false [0,4,3,8,13]) [0,1,2,3,4] (⟨.agg [.sl (Y0.Pq.map Gv.c), .sl (Y0.Tr.map (cL (cI .i64)))] :: .ptr 0 0 0 :: .ptr 1 0 0 :: .ptr 3 0 0 :: .any :: .any :: .any :: .ptr 0 0 0 :: .sl (Y0.Pq.map Gv.c) :: .own 2 :: .agg [.own 2, .nils] :: .ptr 0 0 1 :: .sl (Y0.Tr.map (cL (cI .i64))) :: .i .i64 (Y0.Tr.length:Int) :: .i .i64 (Y5 + 1) :: an 13 [],[.box 35 [.sl (Y0.Pq.map Gv.c), .sl (Y0.Tr.map (cL (cI .i64)))], .box 35 [.nils, .nils], .vec 62 3 (([]:List (List AV)) ++ (Y0.Pq.map Gv.c)) false, .box 35 [.own 2, .own 4], .nest 79 ((Yy.map fun l=>l.map (cI .i64)) ++ [(([]:List (List AV)) ++ ((Y0.Tr.getD Y5.toNat default).map (cI .i64)))]) false]⟩) (sB Ye<|sG (cL (cI .i64)) Y0.Tr Y5 Y9 Yz<|sK [6,6]<|sC (show ((Y0.Tr.getD Y5.toNat default).map (cI .i64))≠[] from (by have q:=(X7.at hp3 Z2P (odt (by assumption))).1;have q2:(Y0.Tr.getD Y5.toNat default)≠[]:=(by intro hq;rw [hq] at q;simp at q);simpa using q2))<|sC (show ([]:List (List AV)).length + ((Y0.Tr.getD Y5.toNat default).map (cI .i64)).length≤1073741824 from (by simpa using YA))<|sC (show ((Y0.Tr.getD Y5.toNat default).map (cI .i64)).all (fun cs=>cs.length == 1 && cs.all isS)=true from (X3Y (fun _=>rfl)))<|sC (show (Yy.map fun l=>l.map (cI .i64)).length + [(([]:List (List AV)) ++ ((Y0.Tr.getD Y5.toNat default).map (cI .i64)))].length≤1073741824 from (by simpa using YD))<|sI (Y5 + 1) YG YM<|sN) (by kernel_rfl) (by simp [Z3f,Gv.c,cL,cI]) (ih (Y5 + 1) (Yy ++ [(([]:List Int) ++ (Y0.Tr.getD Y5.toNat default))]) (show 0≤(Y5 + 1) from (by omega)) (show ((Yy ++ [(([]:List Int) ++ (Y0.Tr.getD Y5.toNat default))]).length:Int)=(Y5 + 1) from (by simp_all<;>omega)) (by omega))
  | false =>
   have Yt:=odf Ye
   have e:Z1i Y0 (k + 1) Y5 Yy=Yy:=by simp only [Z1i,Ye,cond_false]
   rw [e]
   exact outR (e:=(.exit 0)) E0Ok Z1 [] (mR false [0,4,3,6,15]) [0,1,3,2,4] (sB Ye<|sN) (by kernel_rfl) (by intro h;cases h)
def Z2c (Y0:Gm):(List (List Int)):=(Z1i Y0 (((Y0.Tr.length:Int) - 0).toNat + 1) 0 ([]:List (List Int)))
def Z2p (Y0:Gm):Gm:=(⟨(([]:List Gv) ++ Y0.Pq),(Z2c Y0)⟩:Gm)
theorem Z7a (Y0:Gm) (hp0:Y0.Pq.length≤1073741824) (hp1:Y0.Tr.length≤1073741824) (hp2:∀ t∈Y0.Tr,t.length≤1073741824) (hp3:X7 Y0.Pq.length Y0.Tr)  : Fn prog 103 [.agg [.sl (Y0.Pq.map Gv.c), .sl (Y0.Tr.map (cL (cI .i64)))]] (.agg [.own 0, .own 1]) [.vec 62 3 (((Z2p Y0).Pq).map Gv.c) false, .nest 79 (((Z2p Y0).Tr).map fun l=>l.map (cI .i64)) false]:=by
 have y0:([]:List Gv).length + Y0.Pq.length≤1073741824:=(by simp_all<;>omega)
 refine fnS E0Ok Z1 (c:=X0 f103) [] (.agg [.own 0, .own 1]) [.vec 62 3 (([]:List (List AV)) ++ (Y0.Pq.map Gv.c)) false, .nest 79 ((Z2c Y0).map fun l=>l.map (cI .i64)) false] func103 (sC (show ([]:List (List AV)).length + (Y0.Pq.map Gv.c).length≤1073741824 from (by simpa using y0))<|sC (show (Y0.Pq.map Gv.c).all (fun cs=>cs.length == 3 && cs.all isS)=true from (X3Y (fun _=>rfl)))<|sZ (cL (cI .i64)) Y0.Tr<|sL (mR false [0,4,3,8,13]) 4 (Lp.nil (st:=⟨.agg [.sl (Y0.Pq.map Gv.c), .sl (Y0.Tr.map (cL (cI .i64)))] :: .ptr 0 0 0 :: .ptr 1 0 0 :: .ptr 3 0 0 :: .any :: .any :: .any :: .ptr 0 0 0 :: .sl (Y0.Pq.map Gv.c) :: .own 2 :: .agg [.own 2, .nils] :: .ptr 0 0 1 :: .sl (Y0.Tr.map (cL (cI .i64))) :: .i .i64 (Y0.Tr.length:Int) :: .i .i64 0 :: an 13 [],[.box 35 [.sl (Y0.Pq.map Gv.c), .sl (Y0.Tr.map (cL (cI .i64)))], .box 35 [.nils, .nils], .vec 62 3 (([]:List (List AV)) ++ (Y0.Pq.map Gv.c)) false, .box 35 [.own 2, .nils]]⟩) (st2:=⟨.agg [.sl (Y0.Pq.map Gv.c), .sl (Y0.Tr.map (cL (cI .i64)))] :: .ptr 0 0 0 :: .ptr 1 0 0 :: .ptr 3 0 0 :: .any :: .any :: .any :: .ptr 0 0 0 :: .sl (Y0.Pq.map Gv.c) :: .own 2 :: .agg [.own 2, .nils] :: .ptr 0 0 1 :: .sl (Y0.Tr.map (cL (cI .i64))) :: .i .i64 (Y0.Tr.length:Int) :: .i .i64 0 :: an 13 [],[.box 35 [.sl (Y0.Pq.map Gv.c), .sl (Y0.Tr.map (cL (cI .i64)))], .box 35 [.nils, .nils], .vec 62 3 (([]:List (List AV)) ++ (Y0.Pq.map Gv.c)) false, .box 35 [.own 2, .own 4], .nest 79 [] false]⟩) (ps:=[(.row 3 1, .nest 79 [] false)]) rfl (X2y (st2:=⟨.agg [.sl (Y0.Pq.map Gv.c), .sl (Y0.Tr.map (cL (cI .i64)))] :: .ptr 0 0 0 :: .ptr 1 0 0 :: .ptr 3 0 0 :: .any :: .any :: .any :: .ptr 0 0 0 :: .sl (Y0.Pq.map Gv.c) :: .own 2 :: .agg [.own 2, .nils] :: .ptr 0 0 1 :: .sl (Y0.Tr.map (cL (cI .i64))) :: .i .i64 (Y0.Tr.length:Int) :: .i .i64 0 :: an 13 [],[.box 35 [.sl (Y0.Pq.map Gv.c), .sl (Y0.Tr.map (cL (cI .i64)))], .box 35 [.nils, .nils], .vec 62 3 (([]:List (List AV)) ++ (Y0.Pq.map Gv.c)) false, .box 35 [.own 2, .own 4], .nest 79 [] false]⟩) (X4 (Z3e Y0) (x:=(Z2c Y0)) (Z6d Y0 hp0 hp1 hp2 hp3 (((Y0.Tr.length:Int) - 0).toNat + 1) 0 ([]:List (List Int)) (show 0≤0 from (by omega)) (show (([]:List (List Int)).length:Int)=0 from (by simp)) (Nat.lt_succ_self _)) rfl) (by simp [Z3f,Gv.c,cL,cI])))<|sK [3,4] sN) rfl (by kernel_rfl) (by kernel_rfl) rfl ?_ ?_
 · rfl
 · simp [Z2p,Gv.c]
@[simp] theorem Z7U (m:Gm):Z2p m=m:=by
  unfold Z2p Z2c
  rw [X5M (f:=fun i=>(m.Tr.getD i.toNat default)) (n:=(m.Tr.length:Int)) (lo:=Z1i m) (fun k i r=>rfl) _ _ _ (Nat.lt_succ_self _)]
  simp [X3t]
theorem Z7b (Y0:Gm) (hp0:Y0.Pq.length≤1073741824) (hp1:Y0.Tr.length≤1073741824) (hp2:∀ t∈Y0.Tr,t.length≤1073741824) (hp3:X7 Y0.Pq.length Y0.Tr):Fn prog 103 [.agg [.sl (Y0.Pq.map Gv.c), .sl (Y0.Tr.map (cL (cI .i64)))]] (.agg [.own 0, .own 1]) [.vec 62 3 (Y0.Pq.map Gv.c) false, .nest 79 (Y0.Tr.map fun l=>l.map (cI .i64)) false]:=by
 simpa only [Z7U] using Z7a  Y0 hp0 hp1 hp2 hp3
def Z1q (Y1:Gv) (Yc:Gv):Gv:=(⟨(fop .sub .f32 Y1.X Yc.X),(fop .sub .f32 Y1.Y Yc.Y),(fop .sub .f32 Y1.Z Yc.Z)⟩:Gv)
theorem Z6e (Y1:Gv) (Yc:Gv)   : Fn prog 59 [.agg [.f .f32 Y1.X, .f .f32 Y1.Y, .f .f32 Y1.Z], .agg [.f .f32 Yc.X, .f .f32 Yc.Y, .f .f32 Yc.Z]] (.agg [.f .f32 ((Z1q Y1 Yc).X), .f .f32 ((Z1q Y1 Yc).Y), .f .f32 ((Z1q Y1 Yc).Z)]) []:=by
 refine fnS E0Ok Z1 (c:=X0 f59) [] (.agg [.f .f32 (fop .sub .f32 Y1.X Yc.X), .f .f32 (fop .sub .f32 Y1.Y Yc.Y), .f .f32 (fop .sub .f32 Y1.Z Yc.Z)]) [] func59 (sK [] sN) rfl (by kernel_rfl) (by kernel_rfl) rfl ?_ ?_
 · rfl
 · rfl
def ZU (YE:Gv) (YQ:Gv) (YW:Nat):Gv:=(ZD YQ (Z10 (Z1q YE YQ) YW))
theorem Z65 (YE:Gv) (YQ:Gv) (YW:Nat)   : Fn prog 56 [.agg [.f .f32 YE.X, .f .f32 YE.Y, .f .f32 YE.Z], .ref [.f .f32 YQ.X, .f .f32 YQ.Y, .f .f32 YQ.Z] 0, .ref [.f .f32 YW] 0] (.agg [.f .f32 ((ZU YE YQ YW).X), .f .f32 ((ZU YE YQ YW).Y), .f .f32 ((ZU YE YQ YW).Z)]) []:=by
 refine fnS E0Ok Z1 (c:=X0 f56) [] (.agg [.f .f32 ((ZD YQ (Z10 (Z1q YE YQ) YW)).X), .f .f32 ((ZD YQ (Z10 (Z1q YE YQ) YW)).Y), .f .f32 ((ZD YQ (Z10 (Z1q YE YQ) YW)).Z)]) [] func56 (sK [6,6]<|sF (Z6e YE YQ)<|sF (Z4y (Z1q YE YQ) YW)<|sF (Z4J YQ (Z10 (Z1q YE YQ) YW))<|sK [] sN) rfl (by kernel_rfl) (by kernel_rfl) rfl ?_ ?_
 · rfl
 · rfl
def Z6 (Y0:Gm) (change_1_c0:Gv) (change_1_c1:Nat):Nat→Int→(List Gv)→(List Gv)
  | 0,_,_=>default
  | k + 1,Y5,Yj=>(cond (decide (Y5 < (Y0.Pq.length:Int)))
    (Z6 Y0 change_1_c0 change_1_c1 k (Y5 + 1) (Yj.set Y5.toNat (ZU (Yj.getD Y5.toNat default) change_1_c0 change_1_c1)))
    Yj)
def Z1v (Y0:Gm) (change_1_c0:Gv) (change_1_c1:Nat) (r:(List Gv)):Ex × St:=((.exit 0),⟨.agg [.sl (Y0.Pq.map Gv.c), .sl (Y0.Tr.map (cL (cI .i64)))] :: .any :: .ptr 0 0 0 :: .any :: .ptr 1 0 0 :: .b false :: .ptr 2 0 0 :: .any :: .any :: .agg [.sl (Y0.Pq.map Gv.c), .sl (Y0.Tr.map (cL (cI .i64)))] :: .b (Zt Y0) :: .b (!(Zt Y0)) :: .any :: .agg [.sl (Y0.Pq.map Gv.c), .sl (Y0.Tr.map (cL (cI .i64)))] :: .agg [.own 3, .own 4] :: .ptr 2 0 0 :: .own 3 :: an 15 [],[.box 35 [.sl (Y0.Pq.map Gv.c), .sl (Y0.Tr.map (cL (cI .i64)))], .box 35 [.nils, .nils], .box 35 [.own 3, .own 4], .vec 62 3 (r.map Gv.c) false, .nest 79 (Y0.Tr.map fun l=>l.map (cI .i64)) false]⟩)
def Z1Y (Y0:Gm) (change_1_c0:Gv) (change_1_c1:Nat) (Y5:Int) (Yj:(List Gv)):St:=⟨.agg [.sl (Y0.Pq.map Gv.c), .sl (Y0.Tr.map (cL (cI .i64)))] :: .fn 56 [.ref [.f .f32 change_1_c0.X, .f .f32 change_1_c0.Y, .f .f32 change_1_c0.Z] 0, .ref [.f .f32 change_1_c1] 0] :: .ptr 0 0 0 :: .any :: .ptr 1 0 0 :: .b false :: .ptr 4 0 0 :: .any :: .any :: .agg [.sl (Y0.Pq.map Gv.c), .sl (Y0.Tr.map (cL (cI .i64)))] :: .b (Zt Y0) :: .b (!(Zt Y0)) :: .any :: .agg [.sl (Y0.Pq.map Gv.c), .sl (Y0.Tr.map (cL (cI .i64)))] :: .agg [.own 2, .own 3] :: .ptr 4 0 0 :: .own 2 :: .i .i64 (Y0.Pq.length:Int) :: .i .i64 Y5 :: an 13 [],[.box 35 [.sl (Y0.Pq.map Gv.c), .sl (Y0.Tr.map (cL (cI .i64)))], .box 35 [.nils, .nils], .vec 62 3 (Yj.map Gv.c) false, .nest 79 (Y0.Tr.map fun l=>l.map (cI .i64)) false, .box 35 [.own 2, .own 3]]⟩
def Z2t:List Bool:=(mR false [0,1,1,1,1,3,2,3,1,4,15])
theorem Z2y (Y0:Gm) (change_1_c0:Gv) (change_1_c1:Nat) (hp0:Y0.Pq.length≤1073741824) (hp1:Y0.Tr.length≤1073741824) (hp2:∀ t∈Y0.Tr,t.length≤1073741824) (Z5j:(Zt Y0)=true):∀ (k:Nat) (Y5:Int) (Yj:(List Gv)) (Z1P:0≤Y5) (Z1Q:Yj.length=Y0.Pq.length) (hk:((Y0.Pq.length:Int) - Y5).toNat < k),Lp prog 0 (sub (X0 f55) [1,1,1,0,1,0,0]) (Z1Y Y0 change_1_c0 change_1_c1 Y5 Yj) (Z1v Y0 change_1_c0 change_1_c1 (Z6 Y0 change_1_c0 change_1_c1 k Y5 Yj)).1 (Z1v Y0 change_1_c0 change_1_c1 (Z6 Y0 change_1_c0 change_1_c1 k Y5 Yj)).2:=by
 intro k
 induction k with
 | zero=>intro Y5 Yj Z1P Z1Q hk;exact absurd hk (Nat.not_lt_zero _)
 | succ k ih =>
  intro Y5 Yj Z1P Z1Q hk
  cases Ye:(decide (Y5 < (Y0.Pq.length:Int))) with
  | true =>
   have Yt:=odt Ye
   have Y9:(0:Int)≤Y5:=(by assumption)
   have Yz:Y5 < (Yj.length:Int):=(by omega)
   have YA:Y5.toNat < Yj.length:=(by omega)
   have YD:(-9223372036854775808:Int)≤(Y5 + 1):=(by omega)
   have YG:(Y5 + 1)≤(9223372036854775807:Int):=(by omega)
   have e:Z6 Y0 change_1_c0 change_1_c1 (k + 1) Y5 Yj=(Z6 Y0 change_1_c0 change_1_c1 k (Y5 + 1) (Yj.set Y5.toNat (ZU (Yj.getD Y5.toNat default) change_1_c0 change_1_c1))):=by simp only [Z6,Ye,cond_true]
   rw [e]
   exact X1O E0Ok Z1 [] (mR false [0,3,1,3,2,3,1,6,13]) [0,1,2,3,4] (⟨.agg [.sl (Y0.Pq.map Gv.c), .sl (Y0.Tr.map (cL (cI .i64)))] :: .fn 56 [.ref [.f .f32 change_1_c0.X, .f .f32 change_1_c0.Y, .f .f32 change_1_c0.Z] 0, .ref [.f .f32 change_1_c1] 0] :: .ptr 0 0 0 :: .any :: .ptr 1 0 0 :: .b false :: .ptr 4 0 0 :: .any :: .any :: .agg [.sl (Y0.Pq.map Gv.c), .sl (Y0.Tr.map (cL (cI .i64)))] :: .b (Zt Y0) :: .b (!(Zt Y0)) :: .any :: .agg [.sl (Y0.Pq.map Gv.c), .sl (Y0.Tr.map (cL (cI .i64)))] :: .agg [.own 2, .own 3] :: .ptr 4 0 0 :: .own 2 :: .i .i64 (Y0.Pq.length:Int) :: .i .i64 (Y5 + 1) :: an 13 [],[.box 35 [.sl (Y0.Pq.map Gv.c), .sl (Y0.Tr.map (cL (cI .i64)))], .box 35 [.nils, .nils], .vec 62 3 ((Yj.map Gv.c).set Y5.toNat [.f .f32 ((ZU (Yj.getD Y5.toNat default) change_1_c0 change_1_c1).X), .f .f32 ((ZU (Yj.getD Y5.toNat default) change_1_c0 change_1_c1).Y), .f .f32 ((ZU (Yj.getD Y5.toNat default) change_1_c0 change_1_c1).Z)]) false, .nest 79 (Y0.Tr.map fun l=>l.map (cI .i64)) false, .box 35 [.own 2, .own 3]]⟩) (sB Ye<|sX Gv.c Yj Y5 Y9 Yz<|sV Gv.c Yj Y5.toNat YA<|sK [6,6]<|sF (Z65 (Yj.getD Y5.toNat default) change_1_c0 change_1_c1)<|sX Gv.c Yj Y5 Y9 Yz<|sC (X45 (c:=Gv.c) (l:=Yj) YA)<|sI (Y5 + 1) YD YG<|sN) (by kernel_rfl) (by simp [Z1Y,List.map_set,Gv.c]) (ih (Y5 + 1) (Yj.set Y5.toNat (ZU (Yj.getD Y5.toNat default) change_1_c0 change_1_c1)) (show 0≤(Y5 + 1) from (by omega)) (show (Yj.set Y5.toNat (ZU (Yj.getD Y5.toNat default) change_1_c0 change_1_c1)).length=Y0.Pq.length from (by simp_all<;>omega)) (by omega))
  | false =>
   have Yt:=odf Ye
   have e:Z6 Y0 change_1_c0 change_1_c1 (k + 1) Y5 Yj=Yj:=by simp only [Z6,Ye,cond_false]
   rw [e]
   exact outR (e:=(.exit 0)) E0Ok Z1 [] Z2t [0,1,4,2,3] (sB Ye<|sN) (by kernel_rfl) (by intro h;cases h)
theorem Z2u (Y0:Gm) (change_1_c0:Gv) (change_1_c1:Nat):∀ (k:Nat) (Y5:Int) (Yj:(List Gv)) (hk:((Y0.Pq.length:Int) - Y5).toNat < k),(Z6 Y0 change_1_c0 change_1_c1 k Y5 Yj).length=Yj.length:=by
  intro k
  induction k with
  | zero=>intro Y5 Yj hk;exact absurd hk (Nat.not_lt_zero _)
  | succ k ih =>
    intro Y5 Yj hk
    cases Ye:(decide (Y5 < (Y0.Pq.length:Int))) with
    | true =>
      have e:Z6 Y0 change_1_c0 change_1_c1 (k + 1) Y5 Yj=(Z6 Y0 change_1_c0 change_1_c1 k (Y5 + 1) (Yj.set Y5.toNat (ZU (Yj.getD Y5.toNat default) change_1_c0 change_1_c1))):=by simp only [Z6,Ye,cond_true]
      rw [e,ih (Y5 + 1) (Yj.set Y5.toNat (ZU (Yj.getD Y5.toNat default) change_1_c0 change_1_c1)) (by simp_all<;>omega)];simp
    | false =>
      have e:Z6 Y0 change_1_c0 change_1_c1 (k + 1) Y5 Yj=Yj:=by simp only [Z6,Ye,cond_false]
      first | (rw [e];done) | (rw [e];rfl)
def ZM (Y0:Gm) (change_1_c0:Gv) (change_1_c1:Nat):(List Gv):=(Z6 Y0 change_1_c0 change_1_c1 (((Y0.Pq.length:Int) - 0).toNat + 1) 0 Y0.Pq)
@[simp] theorem Z4Q (Y0:Gm) (change_1_c0:Gv) (change_1_c1:Nat):(ZM Y0 change_1_c0 change_1_c1).length=(Y0.Pq:(List Gv)).length:=Z2u Y0 change_1_c0 change_1_c1 (((Y0.Pq.length:Int) - 0).toNat + 1) 0 Y0.Pq (by exact Nat.lt_succ_self _)
def Zg (Y0:Gm) (change_1_c0:Gv) (change_1_c1:Nat):Gm × Bool:=(cond (Zt Y0)
  ((⟨(ZM Y0 change_1_c0 change_1_c1),Y0.Tr⟩:Gm),true)
  ((⟨([]:List Gv),([]:List (List Int))⟩:Gm),false))
theorem Z2T (Y0:Gm) (change_1_c0:Gv) (change_1_c1:Nat) (hp0:Y0.Pq.length≤1073741824) (hp1:Y0.Tr.length≤1073741824) (hp2:∀ t∈Y0.Tr,t.length≤1073741824)  : Fn prog 55 [.agg [.sl (Y0.Pq.map Gv.c), .sl (Y0.Tr.map (cL (cI .i64)))], .fn 56 [.ref [.f .f32 change_1_c0.X, .f .f32 change_1_c0.Y, .f .f32 change_1_c0.Z] 0, .ref [.f .f32 change_1_c1] 0]] (.tup [.agg [.own 0, .own 1], .b ((Zg Y0 change_1_c0 change_1_c1).2)]) [.vec 62 3 (((Zg Y0 change_1_c0 change_1_c1).1.Pq).map Gv.c) false, .nest 79 (((Zg Y0 change_1_c0 change_1_c1).1.Tr).map fun l=>l.map (cI .i64)) false]:=by
 have p {a C} (s:Scr a C):=sF (Z4X Y0 hp0 hp1 hp2)<|s
 cases h0:(Zt Y0) with
 | true =>
  have y0:X7 Y0.Pq.length Y0.Tr:=by clear p;exact (by exact Z55 _ (by rw [← Z2x];assumption))
  refine fnS E0Ok Z1 (c:=X0 f55) [] (.tup [.agg [.own 0, .own 1], .b true]) [.vec 62 3 ((ZM Y0 change_1_c0 change_1_c1).map Gv.c) false, .nest 79 (Y0.Tr.map fun l=>l.map (cI .i64)) false] func55 (p (sB' h0<|sF (Z7b Y0 hp0 hp1 hp2 y0)<|sZ Gv.c Y0.Pq<|sL (mR false [0,3,1,3,2,3,1,6,13]) 5 (X4 (Z1v Y0 change_1_c0 change_1_c1) (x:=(ZM Y0 change_1_c0 change_1_c1)) (Z2y Y0 change_1_c0 change_1_c1 hp0 hp1 hp2 h0 (((Y0.Pq.length:Int) - 0).toNat + 1) 0 Y0.Pq (show 0≤0 from (by omega)) (show Y0.Pq.length=Y0.Pq.length from (by simp)) (Nat.lt_succ_self _)) rfl)<|sK [3,4] sN)) rfl (by kernel_rfl) (by kernel_rfl) rfl ?_ ?_
  · simp only [Zg,h0,cond_true]
  · simp [Zg,h0]
 | false =>
  refine fnS E0Ok Z1 (c:=X0 f55) [(.row 1 0, .vec 62 3 [] false),(.row 1 1, .nest 79 [] false)] (.tup [.agg [.own 0, .own 1], .b false]) [.vec 62 3 [] false, .nest 79 [] false] func55 (p (sB' h0<|sK [2,3] sN)) rfl (by kernel_rfl) (by kernel_rfl) rfl ?_ ?_
  · simp only [Zg,h0,cond_false]
  · simp [Zg,h0,Gv.c,cL,cI]
theorem Z8d (m:Gm) (h:(Zu m).2=true):Zr m=true:=by
  unfold Zu at h
  rw [Z2x] at h
  cases hm:Zr m with
  | true=>rfl
  | false=>rw [hm] at h;cases h
theorem Z7V (a b:Nat):X1f (fop .quo .f32 (Zd (fop .quo .f32 a b)) 1077936128):=by
  rw [Z4Y _ (.inl (X3K _ _ _))]
  exact Z4P _
def Z1f (Y0:Gm) (Y4:Nat):Gm × Bool:=(Zg Y0 ((Zu Y0).1) (Z1n (fop .quo .f32 (Zd (fop .quo .f32 Y4 (Zy Y0))) 1077936128)))
def Z3 (Y0:Gm) (Y4:Nat):Gm × Bool:=(cond (Zu Y0).2
  (cond (Z1l Y4)
    (cond (Z1l (Zy Y0))
      (cond (Z12 (Z1n (fop .quo .f32 (Zd (fop .quo .f32 Y4 (Zy Y0))) 1077936128)))
        ((Z1f Y0 Y4).1,(Z1f Y0 Y4).2)
        ((⟨([]:List Gv),([]:List (List Int))⟩:Gm),false))
      ((⟨([]:List Gv),([]:List (List Int))⟩:Gm),false))
    ((⟨([]:List Gv),([]:List (List Int))⟩:Gm),false))
  ((⟨([]:List Gv),([]:List (List Int))⟩:Gm),false))
theorem Z4r (m:Gm) (v:Nat):(Z3 m v).1.Pq.length≤m.Pq.length:=by
  unfold Z3 Z1f Zg
  cases (Zu m).2<;>cases Z1l v<;>cases Z1l (Zy m)<;>(try (simp;done))<;>cases Z12 (Z1n (fop .quo .f32 (Zd (fop .quo .f32 v (Zy m))) 1077936128))<;>cases Zt m<;>simp
theorem Z4s (m:Gm) (v:Nat):(Z3 m v).1.Tr.length≤m.Tr.length:=by
  unfold Z3 Z1f Zg
  cases (Zu m).2<;>cases Z1l v<;>cases Z1l (Zy m)<;>(try (simp;done))<;>cases Z12 (Z1n (fop .quo .f32 (Zd (fop .quo .f32 v (Zy m))) 1077936128))<;>cases Zt m<;>simp
theorem Z33 (m:Gm) (v:Nat):∀ t∈(Z3 m v).1.Tr,t∈m.Tr:=by
  unfold Z3 Z1f Zg
  cases (Zu m).2<;>cases Z1l v<;>cases Z1l (Zy m)<;>(try (simp;done))<;>cases Z12 (Z1n (fop .quo .f32 (Zd (fop .quo .f32 v (Zy m))) 1077936128))<;>cases Zt m<;>simp
theorem Z4L (Y0:Gm) (Y4:Nat) (hp0:Y0.Pq.length≤1073741824) (hp1:Y0.Tr.length≤1073741824) (hp2:∀ t∈Y0.Tr,t.length≤1073741824)  : Fn prog 15 [.agg [.sl (Y0.Pq.map Gv.c), .sl (Y0.Tr.map (cL (cI .i64)))], .f .f32 Y4] (.tup [.agg [.own 0, .own 1], .b ((Z3 Y0 Y4).2)]) [.vec 62 3 (((Z3 Y0 Y4).1.Pq).map Gv.c) false, .nest 79 (((Z3 Y0 Y4).1.Tr).map fun l=>l.map (cI .i64)) false]:=by
 have p {a C} (s:Scr a C):=sF (Z78 Y0 hp0 hp1 hp2)<|s
 cases h0:(Zu Y0).2 with
 | true =>
  have q {a C} (s:Scr a C):=p (sB' h0<|sB' h0<|sF (Z5R Y4)<|sB' h0<|sB' h0<|s)
  clear p
  cases h1:(Z1l Y4) with
  | true =>
   have y0:X7 Y0.Pq.length Y0.Tr:=by clear q;exact (by exact Z55 _ (Z8d _ (by assumption)))
   have p {a C} (s:Scr a C):=q (sB' h1<|sB' h1<|sF (Z58 Y0 hp0 hp1 hp2 y0)<|sB' h1<|sF (Z5R (Zy Y0))<|sB' h1<|sB' h1<|s)
   clear q
   cases h2:(Z1l (Zy Y0)) with
   | true =>
    have y1:X1f (fop .quo .f32 (Zd (fop .quo .f32 Y4 (Zy Y0))) 1077936128):=by clear p;exact (by exact Z7V _ _)
    have q {a C} (s:Scr a C):=p (sB' h2<|sF (Z58 Y0 hp0 hp1 hp2 y0)<|sF (Z6P (fop .quo .f32 Y4 (Zy Y0)))<|sF (Z6Q (fop .quo .f32 (Zd (fop .quo .f32 Y4 (Zy Y0))) 1077936128) y1)<|sF (Z4e (Z1n (fop .quo .f32 (Zd (fop .quo .f32 Y4 (Zy Y0))) 1077936128)))<|s)
    clear p
    cases h3:(Z12 (Z1n (fop .quo .f32 (Zd (fop .quo .f32 Y4 (Zy Y0))) 1077936128))) with
    | true =>
     refine fnS E0Ok Z1 (c:=X0 f15) [] (.tup [.agg [.own 0, .own 1], .b ((Z1f Y0 Y4).2)]) [.vec 62 3 (((Z1f Y0 Y4).1.Pq).map Gv.c) false, .nest 79 (((Z1f Y0 Y4).1.Tr).map fun l=>l.map (cI .i64)) false] func15 (q (sB' h3<|sF (Z2T Y0 ((Zu Y0).1) (Z1n (fop .quo .f32 (Zd (fop .quo .f32 Y4 (Zy Y0))) 1077936128)) hp0 hp1 hp2)<|sK [4,5] sN)) rfl (by kernel_rfl) (by kernel_rfl) rfl ?_ ?_
     · simp only [Z3,h0,h1,h2,h3,cond_true]
     · simp [Z3,h0,h1,h2,h3]
    | false =>
     refine fnS E0Ok Z1 (c:=X0 f15) [(.row 1 0, .vec 62 3 [] false),(.row 1 1, .nest 79 [] false)] (.tup [.agg [.own 0, .own 1], .b false]) [.vec 62 3 [] false, .nest 79 [] false] func15 (q (sB' h3<|sK [4,5] sN)) rfl (by kernel_rfl) (by kernel_rfl) rfl ?_ ?_
     · simp only [Z3,h0,h1,h2,h3,cond_true,cond_false]
     · simp [Z3,h0,h1,h2,h3,Gv.c,cL,cI]
   | false =>
    refine fnS E0Ok Z1 (c:=X0 f15) [(.row 1 0, .vec 62 3 [] false),(.row 1 1, .nest 79 [] false)] (.tup [.agg [.own 0, .own 1], .b false]) [.vec 62 3 [] false, .nest 79 [] false] func15 (p (sB' h2<|sK [3,4] sN)) rfl (by kernel_rfl) (by kernel_rfl) rfl ?_ ?_
    · simp only [Z3,h0,h1,h2,cond_true,cond_false]
    · simp [Z3,h0,h1,h2,Gv.c,cL,cI]
  | false =>
   refine fnS E0Ok Z1 (c:=X0 f15) [(.row 1 0, .vec 62 3 [] false),(.row 1 1, .nest 79 [] false)] (.tup [.agg [.own 0, .own 1], .b false]) [.vec 62 3 [] false, .nest 79 [] false] func15 (q (sB' h1<|sB' h1<|sB' h1<|sB' h1<|sB' h1<|sB (show true=true from rfl)<|sK [3,4] sN)) rfl (by kernel_rfl) (by kernel_rfl) rfl ?_ ?_
   · simp only [Z3,h0,h1,cond_true,cond_false]
   · simp [Z3,h0,h1,Gv.c,cL,cI]
 | false =>
  refine fnS E0Ok Z1 (c:=X0 f15) [(.row 1 0, .vec 62 3 [] false),(.row 1 1, .nest 79 [] false)] (.tup [.agg [.own 0, .own 1], .b false]) [.vec 62 3 [] false, .nest 79 [] false] func15 (p (sB' h0<|sB' h0<|sB' h0<|sB' h0<|sB (show true=true from rfl)<|sB (show true=true from rfl)<|sB (show true=true from rfl)<|sB (show true=true from rfl)<|sB (show true=true from rfl)<|sB (show true=true from rfl)<|sK [3,4] sN)) rfl (by kernel_rfl) (by kernel_rfl) rfl ?_ ?_
  · simp only [Z3,h0,cond_false]
  · simp [Z3,h0,Gv.c,cL,cI]
theorem Z7Q (m:Gm):Zy m=Z4 m:=by
  have lo:∀ k s i,Z17 m k s i=ZS m k s i:=by
    intro k
    induction k with
    | zero=>intros;rfl
    | succ k ih=>intro s i;simp only [Z17,ZS,ih];rfl
  unfold Zy Z4 Z2b Z1T
  exact lo _ _ _
theorem Z8k (l:List Gv):Z1O l=Z1G l:=by
  have lo:∀ k i a b c,Z1p l k i a b c=Z1m l k i a b c:=by
    intro k
    induction k with
    | zero=>intros;rfl
    | succ k ih=>intro i a b c;simp only [Z1p,Z1m,ih];rfl
  unfold Z1O Z1G Z1B Z1y
  rw [lo]
theorem Z8r (m:Gm) (v:Nat):∀ (k:Nat) (i:Int) (r:List Gv),r.length=m.Pq.length→Z6 m (Za m) (Zp (fop .quo .f32 (Zf (fop .quo .f32 v (Z4 m))) 1077936128)) k i r=Zs m v k i r:=by
  intro k
  induction k with
  | zero=>intros;rfl
  | succ k ih =>
    intro i r hr
    rw [Z6,Zs,hr]
    cases decide (i < (m.Pq.length:Int)) with
    | false=>rfl
    | true=>rw [cond_true,cond_true,ih _ _ (by simp [hr])];rfl
theorem Z8e (m:Gm) (h:Zr m=true) (h0:m.Pq.length=0):Zc (Z4 m)=false:=by
  have ht:m.Tr=[]:=by
    cases hts:m.Tr with
    | nil=>rfl
    | cons t l =>
      exfalso
      have q:=(Z8t m h).2.2 t (by rw [hts];exact List.mem_cons_self)
      obtain ⟨a,b,c,-,q,-⟩:=q
      omega
  have hv:Z4 m=0:=by
    unfold Z4 Z1T
    rw [ZS,ht];rfl
  rw [hv];decide +kernel
theorem Z7F (m:Gm) (v:Nat):Z3 m v=Z8 m v:=by
  unfold Z3 Z8
  have e1:∀ x,Z1l x=Zc x:=fun x=>rfl
  have e2:∀ x,Z12 x=ZL x:=fun x=>rfl
  rw [e1,e1,Z7Q,Z4Y _ (.inl (X3K _ _ _)),Z6c (Z4P _),e2]
  cases hm:Zr m with
  | false =>
    have hc:(Zu m).2=false:=by unfold Zu;rw [Z2x,hm];rfl
    rw [hc];rfl
  | true =>
    by_cases h0:m.Pq.length=0
    · have hc:(Zu m).2=false:=by unfold Zu;rw [Z2x,hm,show ((m.Pq.length:Int) == 0)=true from by rw [h0];rfl];rfl
      rw [hc,Z8e m hm h0]
      cases Zc v<;>rfl
    · have hl:((m.Pq.length:Int) == 0)=false:=by rw [beq_eq_false_iff_ne];omega
      have hc:Zu m=(Za m,true):=by
        unfold Zu
        rw [Z2x,hm,hl,Z8k];rfl
      rw [hc]
      cases Zc v with
      | false=>rfl
      | true =>
        cases Zc (Z4 m) with
        | false=>rfl
        | true =>
          cases ZL (Zp (fop .quo .f32 (Zf (fop .quo .f32 v (Z4 m))) 1077936128)) with
          | false=>rfl
          | true =>
            simp only [cond_true,Z1f,Zg,ZM,Z1N,Z2x,hm,hc,Z7Q,Z4Y _ (.inl (X3K _ _ _)),Z6c (Z4P _)]
            rw [Z8r m v _ _ _ rfl]
def ZZ (Y1:Nat) (Yc:Nat):Bool:=(cond (fcmp .neq .f64 Y1 Y1)
  (fcmp .neq .f64 Yc Yc)
  (cond (fcmp .neq .f64 Yc Yc)
    false
    (cond (fcmp .eql .f64 Y1 0)
      (cond (fcmp .eql .f64 Yc 0)
        ((fcmp .gtr .f64 (fop .quo .f64 4607182418800017408 Y1) 0) == (fcmp .gtr .f64 (fop .quo .f64 4607182418800017408 Yc) 0))
        (fcmp .eql .f64 Y1 Yc))
      (fcmp .eql .f64 Y1 Yc))))
theorem Z3Z (Y1:Nat) (Yc:Nat)   : Fn prog 11 [.f .f64 Y1, .f .f64 Yc] (.b (ZZ Y1 Yc)) []:=by
 cases h0:(fcmp .neq .f64 Y1 Y1) with
 | true =>
  refine fnS E0Ok Z1 (c:=X0 f11) [] (.b (fcmp .neq .f64 Yc Yc)) [] func11 (sB h0<|sB h0<|sB h0<|sB h0<|sB (show true=true from rfl)<|sB h0<|sB h0<|sB h0<|sB h0<|sK [] sN) rfl (by kernel_rfl) (by kernel_rfl) rfl ?_ ?_
  · simp only [ZZ,h0,cond_true]
  · rfl
 | false =>
  have p {a C} (s:Scr a C):=sB h0<|sB h0<|sB h0<|sB h0<|s
  cases h1:(fcmp .neq .f64 Yc Yc) with
  | true =>
   refine fnS E0Ok Z1 (c:=X0 f11) [] (.b false) [] func11 (p (sB h1<|sB h0<|sB h0<|sB h0<|sB h0<|sK [] sN)) rfl (by kernel_rfl) (by kernel_rfl) rfl ?_ ?_
   · simp only [ZZ,h0,h1,cond_true,cond_false]
   · rfl
  | false =>
   have q {a C} (s:Scr a C):=p (sB h1<|s)
   clear p
   cases h2:(fcmp .eql .f64 Y1 0) with
   | true =>
    have p {a C} (s:Scr a C):=q (sB h2<|sB h2<|sB h2<|s)
    clear q
    cases h3:(fcmp .eql .f64 Yc 0) with
    | true =>
     refine fnS E0Ok Z1 (c:=X0 f11) [] (.b ((fcmp .gtr .f64 (fop .quo .f64 4607182418800017408 Y1) 0) == (fcmp .gtr .f64 (fop .quo .f64 4607182418800017408 Yc) 0))) [] func11 (p (sB h3<|sK [] sN)) rfl (by kernel_rfl) (by kernel_rfl) rfl ?_ ?_
     · simp only [ZZ,h0,h1,h2,h3,cond_true,cond_false]
     · rfl
    | false =>
     refine fnS E0Ok Z1 (c:=X0 f11) [] (.b (fcmp .eql .f64 Y1 Yc)) [] func11 (p (sB h3<|sK [] sN)) rfl (by kernel_rfl) (by kernel_rfl) rfl ?_ ?_
     · simp only [ZZ,h0,h1,h2,h3,cond_true,cond_false]
     · rfl
   | false =>
    refine fnS E0Ok Z1 (c:=X0 f11) [] (.b (fcmp .eql .f64 Y1 Yc)) [] func11 (q (sB h2<|sB h2<|sB h2<|sB (show false=false from rfl)<|sK [] sN)) rfl (by kernel_rfl) (by kernel_rfl) rfl ?_ ?_
    · simp only [ZZ,h0,h1,h2,cond_false]
    · rfl
theorem Z7u (x:Nat):ZZ x x=true:=by
  unfold ZZ
  cases h:fcmp .neq .f64 x x
  · simp only [cond_false]
    have h2:fcmp .eql .f64 x x=true:=by
      unfold fcmp at h ⊢
      simpa using h
    cases fcmp .eql .f64 x 0<;>simp [h2]
  · rfl
def Z1w (Y1:Gv) (Yc:Gv):Bool:=(cond (ZZ (fcv .f32 .f64 Y1.X) (fcv .f32 .f64 Yc.X))
  (cond (ZZ (fcv .f32 .f64 Y1.Y) (fcv .f32 .f64 Yc.Y))
    (cond (ZZ (fcv .f32 .f64 Y1.Z) (fcv .f32 .f64 Yc.Z))
      true
      false)
    false)
  false)
theorem Z7c (Y1:Gv) (Yc:Gv)   : Fn prog 104 [.agg [.f .f32 Y1.X, .f .f32 Y1.Y, .f .f32 Y1.Z], .agg [.f .f32 Yc.X, .f .f32 Yc.Y, .f .f32 Yc.Z]] (.b (Z1w Y1 Yc)) []:=by
 have p {a C} (s:Scr a C):=sC (XU Y1.X)<|sC (XU Yc.X)<|sF (Z3Z (fcv .f32 .f64 Y1.X) (fcv .f32 .f64 Yc.X))<|s
 cases h0:(ZZ (fcv .f32 .f64 Y1.X) (fcv .f32 .f64 Yc.X)) with
 | true =>
  have q {a C} (s:Scr a C):=p (sB' h0<|sC (XU Y1.Y)<|sC (XU Yc.Y)<|sF (Z3Z (fcv .f32 .f64 Y1.Y) (fcv .f32 .f64 Yc.Y))<|s)
  clear p
  cases h1:(ZZ (fcv .f32 .f64 Y1.Y) (fcv .f32 .f64 Yc.Y)) with
  | true =>
   have p {a C} (s:Scr a C):=q (sB' h1<|sC (XU Y1.Z)<|sC (XU Yc.Z)<|sF (Z3Z (fcv .f32 .f64 Y1.Z) (fcv .f32 .f64 Yc.Z))<|s)
   clear q
   cases h2:(ZZ (fcv .f32 .f64 Y1.Z) (fcv .f32 .f64 Yc.Z)) with
   | true =>
    refine fnS E0Ok Z1 (c:=X0 f104) [] (.b true) [] func104 (p (sB' h2<|sK [] sN)) rfl (by kernel_rfl) (by kernel_rfl) rfl ?_ ?_
    · simp only [Z1w,h0,h1,h2,cond_true]
    · rfl
   | false =>
    refine fnS E0Ok Z1 (c:=X0 f104) [] (.b false) [] func104 (p (sB' h2<|sK [] sN)) rfl (by kernel_rfl) (by kernel_rfl) rfl ?_ ?_
    · simp only [Z1w,h0,h1,h2,cond_true,cond_false]
    · rfl
  | false =>
   refine fnS E0Ok Z1 (c:=X0 f104) [] (.b false) [] func104 (q (sB' h1<|sK [] sN)) rfl (by kernel_rfl) (by kernel_rfl) rfl ?_ ?_
   · simp only [Z1w,h0,h1,cond_true,cond_false]
   · rfl
 | false =>
  refine fnS E0Ok Z1 (c:=X0 f104) [] (.b false) [] func104 (p (sB' h0<|sK [] sN)) rfl (by kernel_rfl) (by kernel_rfl) rfl ?_ ?_
  · simp only [Z1w,h0,cond_false]
  · rfl
theorem Z7G (a:Gv):Z1w a a=true:=by
  simp [Z1w,Z7u]
def ZV (Y1:(List Gv)) (Yc:(List Gv)):Nat→Int→(Unit) ⊕ (Unit)
  | 0,_ => .inl default
  | k + 1,Y2=>(cond (decide (Y2 < (Y1.length:Int)))
    (cond (Z1w (Y1.getD Y2.toNat default) (Yc.getD Y2.toNat default))
      (ZV Y1 Yc k (Y2 + 1))
      (.inl ()))
    (.inr ()))
def Z2m (Y1:(List Gv)) (Yc:(List Gv)):(Unit) ⊕ (Unit)→Ex × St
  | .inl r=>(.ret,⟨an 4 (.b false :: an 22 []),[]⟩)
  | .inr r=>((.exit 0),⟨.sl (Y1.map Gv.c) :: .sl (Yc.map Gv.c) :: an 4 (.sl (Y1.map Gv.c) :: .i .i64 (Y1.length:Int) :: .sl (Yc.map Gv.c) :: .i .i64 (Yc.length:Int) :: .b ((Y1.length:Int) != (Yc.length:Int)) :: an 16 []),[]⟩)
def Z66 (Y1:(List Gv)) (Yc:(List Gv)) (Y2:Int):St:=⟨.sl (Y1.map Gv.c) :: .sl (Yc.map Gv.c) :: .any :: .any :: .any :: .i .i64 Y2 :: .sl (Y1.map Gv.c) :: .i .i64 (Y1.length:Int) :: .sl (Yc.map Gv.c) :: .i .i64 (Yc.length:Int) :: .b ((Y1.length:Int) != (Yc.length:Int)) :: an 16 [],[]⟩
theorem Z4t (Y1:(List Gv)) (Yc:(List Gv)) (hp0:Y1.length≤1073741824) (hp1:Yc.length≤1073741824) (Z84:((Y1.length:Int) != (Yc.length:Int))=false):∀ (k:Nat) (Y2:Int) (Z46:0≤Y2) (hk:((Y1.length:Int) - Y2).toNat < k),Lp prog 0 (sub (X0 f60) [1,1,0,1,0,0]) (Z66 Y1 Yc Y2) (Z2m Y1 Yc (ZV Y1 Yc k Y2)).1 (Z2m Y1 Yc (ZV Y1 Yc k Y2)).2:=by
 intro k
 induction k with
 | zero=>intro Y2 Z46 hk;exact absurd hk (Nat.not_lt_zero _)
 | succ k ih =>
  intro Y2 Z46 hk
  have p {a C} (s:Scr a C):=sZ Gv.c Y1<|s
  cases Ye:(decide (Y2 < (Y1.length:Int))) with
  | true =>
   have Yt:=odt Ye
   have Y9:(0:Int)≤Y2:=by clear p;exact (by assumption)
   have Yz:Y2 < (Y1.length:Int):=by clear p;exact (by assumption)
   have YA:Y2 < (Yc.length:Int):=by clear p;exact (by simp_all<;>omega)
   have q {a C} (s:Scr a C):=p (sB Ye<|sK [8,8]<|sG Gv.c Y1 Y2 Y9 Yz<|sG Gv.c Yc Y2 Y9 YA<|sF (Z7c (Y1.getD Y2.toNat default) (Yc.getD Y2.toNat default))<|s)
   clear p
   cases Yw:(Z1w (Y1.getD Y2.toNat default) (Yc.getD Y2.toNat default)) with
   | true =>
    have YD:(-9223372036854775808:Int)≤(Y2 + 1):=by clear q;exact (by omega)
    have YG:(Y2 + 1)≤(9223372036854775807:Int):=by clear q;exact (by omega)
    have e:ZV Y1 Yc (k + 1) Y2=(ZV Y1 Yc k (Y2 + 1)):=by simp only [ZV,Ye,Yw,cond_true]
    rw [e]
    exact Xo E0Ok Z1 [] (mR false [0,2,3,6,16]) [] (ih (Y2 + 1) (show 0≤(Y2 + 1) from (by omega)) (by omega)) (q (sB' Yw<|sI (Y2 + 1) YD YG<|sN)) (by kernel_rfl)
   | false =>
    have e:ZV Y1 Yc (k + 1) Y2=(.inl ()):=by simp only [ZV,Ye,Yw,cond_true,cond_false]
    rw [e]
    exact outR (e := .ret) E0Ok Z1 [] (mR false [4,1,22]) [] (q (sB' Yw<|sN)) (by kernel_rfl) (by intro h;cases h)
  | false =>
   have Yt:=odf Ye
   have e:ZV Y1 Yc (k + 1) Y2=(.inr ()):=by simp only [ZV,Ye,cond_false]
   rw [e]
   exact outR (e:=(.exit 0)) E0Ok Z1 [] (mR false [0,2,4,5,16]) [] (p (sB Ye<|sN)) (by kernel_rfl) (by intro h;cases h)
def Z1Z (Y1:(List Gv)) (Yc:(List Gv)):(Unit) ⊕ (Unit):=(ZV Y1 Yc (((Y1.length:Int) - 0).toNat + 1) 0)
def Z1E (Y1:(List Gv)) (Yc:(List Gv)):Bool:=(cond ((Y1.length:Int) != (Yc.length:Int))
  false
  (match (Z1Z Y1 Yc) with
    | .inl r2=>false
    | .inr r2=>true))
theorem Z6R (Y1:(List Gv)) (Yc:(List Gv)) (hp0:Y1.length≤1073741824) (hp1:Yc.length≤1073741824)  : Fn prog 60 [.sl (Y1.map Gv.c), .sl (Yc.map Gv.c)] (.b (Z1E Y1 Yc)) []:=by
 have p {a C} (s:Scr a C):=sZ Gv.c Y1<|sZ Gv.c Yc<|s
 cases h0:((Y1.length:Int) != (Yc.length:Int)) with
 | true =>
  have gh0:=bne_iff_ne.1 h0
  refine fnS E0Ok Z1 (c:=X0 f60) [] (.b false) [] func60 (p (sB h0<|sK [] sN)) rfl (by kernel_rfl) (by kernel_rfl) rfl ?_ ?_
  · simp only [Z1E,h0,cond_true]
  · rfl
 | false =>
  have gh0:=bne_eq_false_iff_eq.1 h0
  have q {a C} (s:Scr a C):=p (sB h0<|s)
  clear p
  cases h1:(Z1Z Y1 Yc) with
  | inl r2 =>
   refine fnS E0Ok Z1 (c:=X0 f60) [] (.b false) [] func60 (q (sL (mR false [0,2,3,6,16]) 0 (X4 (Z2m Y1 Yc) (x:=(Z1Z Y1 Yc)) (Z4t Y1 Yc hp0 hp1 h0 (((Y1.length:Int) - 0).toNat + 1) 0 (show 0≤0 from (by omega)) (Nat.lt_succ_self _)) h1)<|sK [] sN)) rfl (by kernel_rfl) (by kernel_rfl) rfl ?_ ?_
   · simp only [Z1E,h0,h1,cond_false]
   · rfl
  | inr r2 =>
   refine fnS E0Ok Z1 (c:=X0 f60) [] (.b true) [] func60 (q (sL (mR false [0,2,3,6,16]) 0 (X4 (Z2m Y1 Yc) (x:=(Z1Z Y1 Yc)) (Z4t Y1 Yc hp0 hp1 h0 (((Y1.length:Int) - 0).toNat + 1) 0 (show 0≤0 from (by omega)) (Nat.lt_succ_self _)) h1)<|sK [] sN)) rfl (by kernel_rfl) (by kernel_rfl) rfl ?_ ?_
   · simp only [Z1E,h0,h1,cond_false]
   · rfl
theorem Z7n (a:List Gv):Z1E a a=true:=by
  unfold Z1E Z1Z
  rw [X7u (a:=a) (p:=fun v=>Z1w v v) (lo:=ZV a a) (x:=()) (y:=()) (fun k i=>rfl) (fun v _=>Z7G v) _ _ (Int.le_refl 0) (Nat.lt_succ_self _)]
  simp
def ZQ (Y1:(List Int)) (Yc:(List Int)):Nat→Int→(Unit) ⊕ (Unit)
  | 0,_ => .inl default
  | k + 1,Y2=>(cond (decide (Y2 < (Y1.length:Int)))
    (cond ((Y1.getD Y2.toNat default) != (Yc.getD Y2.toNat default))
      (.inl ())
      (ZQ Y1 Yc k (Y2 + 1)))
    (.inr ()))
def Z2q (Y1:(List Int)) (Yc:(List Int)):(Unit) ⊕ (Unit)→Ex × St
  | .inl r=>(.ret,⟨an 4 (.b false :: an 21 []),[]⟩)
  | .inr r=>((.exit 0),⟨.sl (Y1.map (cI .i64)) :: .sl (Yc.map (cI .i64)) :: an 4 (.sl (Y1.map (cI .i64)) :: .i .i64 (Y1.length:Int) :: .sl (Yc.map (cI .i64)) :: .i .i64 (Yc.length:Int) :: .b ((Y1.length:Int) != (Yc.length:Int)) :: an 15 []),[]⟩)
def Z6f (Y1:(List Int)) (Yc:(List Int)) (Y2:Int):St:=⟨.sl (Y1.map (cI .i64)) :: .sl (Yc.map (cI .i64)) :: .any :: .any :: .any :: .i .i64 Y2 :: .sl (Y1.map (cI .i64)) :: .i .i64 (Y1.length:Int) :: .sl (Yc.map (cI .i64)) :: .i .i64 (Yc.length:Int) :: .b ((Y1.length:Int) != (Yc.length:Int)) :: an 15 [],[]⟩
theorem Z4A (Y1:(List Int)) (Yc:(List Int)) (hp0:Y1.length≤1073741824) (hp1:Yc.length≤1073741824) (Z88:((Y1.length:Int) != (Yc.length:Int))=false):∀ (k:Nat) (Y2:Int) (Z4g:0≤Y2) (hk:((Y1.length:Int) - Y2).toNat < k),Lp prog 0 (sub (X0 f70) [1,1,0,1,0,0]) (Z6f Y1 Yc Y2) (Z2q Y1 Yc (ZQ Y1 Yc k Y2)).1 (Z2q Y1 Yc (ZQ Y1 Yc k Y2)).2:=by
 intro k
 induction k with
 | zero=>intro Y2 Z4g hk;exact absurd hk (Nat.not_lt_zero _)
 | succ k ih =>
  intro Y2 Z4g hk
  have p {a C} (s:Scr a C):=sZ (cI .i64) Y1<|s
  cases Ye:(decide (Y2 < (Y1.length:Int))) with
  | true =>
   have Yt:=odt Ye
   have Y9:(0:Int)≤Y2:=by clear p;exact (by assumption)
   have Yz:Y2 < (Y1.length:Int):=by clear p;exact (by assumption)
   have YA:Y2 < (Yc.length:Int):=by clear p;exact (by simp_all<;>omega)
   have q {a C} (s:Scr a C):=p (sB Ye<|sK [8,8]<|sG (cI .i64) Y1 Y2 Y9 Yz<|sG (cI .i64) Yc Y2 Y9 YA<|s)
   clear p
   cases Yw:((Y1.getD Y2.toNat default) != (Yc.getD Y2.toNat default)) with
   | true =>
    have YN:=bne_iff_ne.1 Yw
    have e:ZQ Y1 Yc (k + 1) Y2=(.inl ()):=by simp only [ZQ,Ye,Yw,cond_true]
    rw [e]
    exact outR (e := .ret) E0Ok Z1 [] (mR false [4,1,21]) [] (q (sB Yw<|sN)) (by kernel_rfl) (by intro h;cases h)
   | false =>
    have YN:=bne_eq_false_iff_eq.1 Yw
    have YD:(-9223372036854775808:Int)≤(Y2 + 1):=by clear q;exact (by omega)
    have YG:(Y2 + 1)≤(9223372036854775807:Int):=by clear q;exact (by omega)
    have e:ZQ Y1 Yc (k + 1) Y2=(ZQ Y1 Yc k (Y2 + 1)):=by simp only [ZQ,Ye,Yw,cond_true,cond_false]
    rw [e]
    exact Xo E0Ok Z1 [] (mR false [0,2,3,6,15]) [] (ih (Y2 + 1) (show 0≤(Y2 + 1) from (by omega)) (by omega)) (q (sB Yw<|sI (Y2 + 1) YD YG<|sN)) (by kernel_rfl)
  | false =>
   have Yt:=odf Ye
   have e:ZQ Y1 Yc (k + 1) Y2=(.inr ()):=by simp only [ZQ,Ye,cond_false]
   rw [e]
   exact outR (e:=(.exit 0)) E0Ok Z1 [] (mR false [0,2,4,5,15]) [] (p (sB Ye<|sN)) (by kernel_rfl) (by intro h;cases h)
def Z21 (Y1:(List Int)) (Yc:(List Int)):(Unit) ⊕ (Unit):=(ZQ Y1 Yc (((Y1.length:Int) - 0).toNat + 1) 0)
def Z1x (Y1:(List Int)) (Yc:(List Int)):Bool:=(cond ((Y1.length:Int) != (Yc.length:Int))
  false
  (match (Z21 Y1 Yc) with
    | .inl r2=>false
    | .inr r2=>true))
theorem Z7d (Y1:(List Int)) (Yc:(List Int)) (hp0:Y1.length≤1073741824) (hp1:Yc.length≤1073741824)  : Fn prog 70 [.sl (Y1.map (cI .i64)), .sl (Yc.map (cI .i64))] (.b (Z1x Y1 Yc)) []:=by
 have p {a C} (s:Scr a C):=sZ (cI .i64) Y1<|sZ (cI .i64) Yc<|s
 cases h0:((Y1.length:Int) != (Yc.length:Int)) with
 | true =>
  have gh0:=bne_iff_ne.1 h0
  refine fnS E0Ok Z1 (c:=X0 f70) [] (.b false) [] func70 (p (sB h0<|sK [] sN)) rfl (by kernel_rfl) (by kernel_rfl) rfl ?_ ?_
  · simp only [Z1x,h0,cond_true]
  · rfl
 | false =>
  have gh0:=bne_eq_false_iff_eq.1 h0
  have q {a C} (s:Scr a C):=p (sB h0<|s)
  clear p
  cases h1:(Z21 Y1 Yc) with
  | inl r2 =>
   refine fnS E0Ok Z1 (c:=X0 f70) [] (.b false) [] func70 (q (sL (mR false [0,2,3,6,15]) 0 (X4 (Z2q Y1 Yc) (x:=(Z21 Y1 Yc)) (Z4A Y1 Yc hp0 hp1 h0 (((Y1.length:Int) - 0).toNat + 1) 0 (show 0≤0 from (by omega)) (Nat.lt_succ_self _)) h1)<|sK [] sN)) rfl (by kernel_rfl) (by kernel_rfl) rfl ?_ ?_
   · simp only [Z1x,h0,h1,cond_false]
   · rfl
  | inr r2 =>
   refine fnS E0Ok Z1 (c:=X0 f70) [] (.b true) [] func70 (q (sL (mR false [0,2,3,6,15]) 0 (X4 (Z2q Y1 Yc) (x:=(Z21 Y1 Yc)) (Z4A Y1 Yc hp0 hp1 h0 (((Y1.length:Int) - 0).toNat + 1) 0 (show 0≤0 from (by omega)) (Nat.lt_succ_self _)) h1)<|sK [] sN)) rfl (by kernel_rfl) (by kernel_rfl) rfl ?_ ?_
   · simp only [Z1x,h0,h1,cond_false]
   · rfl
theorem Z7H (a:List Int):Z1x a a=true:=by
  unfold Z1x Z21
  rw [X2c (a:=a) (p:=fun v => !(v != v)) (lo:=ZQ a a) (x:=()) (y:=()) (fun k i=>by rw [ZQ];cases (a.getD i.toNat default != a.getD i.toNat default)<;>rfl)]
  rw [show (a.all fun v => !(v != v))=true from by rw [List.all_eq_true];intro v _;simp]
  simp
def ZW (Y1:(List (List Int))) (Yc:(List (List Int))):Nat→Int→(Unit) ⊕ (Unit)
  | 0,_ => .inl default
  | k + 1,Y2=>(cond (decide (Y2 < (Y1.length:Int)))
    (cond (Z1x (Y1.getD Y2.toNat default) (Yc.getD Y2.toNat default))
      (ZW Y1 Yc k (Y2 + 1))
      (.inl ()))
    (.inr ()))
def Z2n (Y1:(List (List Int))) (Yc:(List (List Int))):(Unit) ⊕ (Unit)→Ex × St
  | .inl r=>(.ret,⟨an 4 (.b false :: an 22 []),[]⟩)
  | .inr r=>((.exit 0),⟨.sl (Y1.map (cL (cI .i64))) :: .sl (Yc.map (cL (cI .i64))) :: an 4 (.sl (Y1.map (cL (cI .i64))) :: .i .i64 (Y1.length:Int) :: .sl (Yc.map (cL (cI .i64))) :: .i .i64 (Yc.length:Int) :: .b ((Y1.length:Int) != (Yc.length:Int)) :: an 16 []),[]⟩)
def Z67 (Y1:(List (List Int))) (Yc:(List (List Int))) (Y2:Int):St:=⟨.sl (Y1.map (cL (cI .i64))) :: .sl (Yc.map (cL (cI .i64))) :: .any :: .any :: .any :: .i .i64 Y2 :: .sl (Y1.map (cL (cI .i64))) :: .i .i64 (Y1.length:Int) :: .sl (Yc.map (cL (cI .i64))) :: .i .i64 (Yc.length:Int) :: .b ((Y1.length:Int) != (Yc.length:Int)) :: an 16 [],[]⟩
theorem Z4u (Y1:(List (List Int))) (Yc:(List (List Int))) (hp0:Y1.length≤1073741824) (hp1:∀ t∈Y1,t.length≤1073741824) (hp2:Yc.length≤1073741824) (hp3:∀ t∈Yc,t.length≤1073741824) (Z85:((Y1.length:Int) != (Yc.length:Int))=false):∀ (k:Nat) (Y2:Int) (Z47:0≤Y2) (hk:((Y1.length:Int) - Y2).toNat < k),Lp prog 0 (sub (X0 f23) [1,1,0,1,0,0]) (Z67 Y1 Yc Y2) (Z2n Y1 Yc (ZW Y1 Yc k Y2)).1 (Z2n Y1 Yc (ZW Y1 Yc k Y2)).2:=by
 intro k
 induction k with
 | zero=>intro Y2 Z47 hk;exact absurd hk (Nat.not_lt_zero _)
 | succ k ih =>
  intro Y2 Z47 hk
  have p {a C} (s:Scr a C):=sZ (cL (cI .i64)) Y1<|s
  cases Ye:(decide (Y2 < (Y1.length:Int))) with
  | true =>
   have Yt:=odt Ye
   have Y9:(0:Int)≤Y2:=by clear p;exact (by assumption)
   have Yz:Y2 < (Y1.length:Int):=by clear p;exact (by assumption)
   have YA:Y2 < (Yc.length:Int):=by clear p;exact (by simp_all<;>omega)
   have YD:(Y1.getD Y2.toNat default).length≤1073741824:=by clear p;exact (by simp_all<;>omega)
   have YG:(Yc.getD Y2.toNat default).length≤1073741824:=by clear p;exact (by simp_all<;>omega)
   have q {a C} (s:Scr a C):=p (sB Ye<|sK [8,8]<|sG (cL (cI .i64)) Y1 Y2 Y9 Yz<|sG (cL (cI .i64)) Yc Y2 Y9 YA<|sF (Z7d (Y1.getD Y2.toNat default) (Yc.getD Y2.toNat default) YD YG)<|s)
   clear p
   cases Yw:(Z1x (Y1.getD Y2.toNat default) (Yc.getD Y2.toNat default)) with
   | true =>
    have YM:(-9223372036854775808:Int)≤(Y2 + 1):=by clear q;exact (by omega)
    have YU:(Y2 + 1)≤(9223372036854775807:Int):=by clear q;exact (by omega)
    have e:ZW Y1 Yc (k + 1) Y2=(ZW Y1 Yc k (Y2 + 1)):=by simp only [ZW,Ye,Yw,cond_true]
    rw [e]
    exact Xo E0Ok Z1 [] (mR false [0,2,3,6,16]) [] (ih (Y2 + 1) (show 0≤(Y2 + 1) from (by omega)) (by omega)) (q (sB' Yw<|sI (Y2 + 1) YM YU<|sN)) (by kernel_rfl)
   | false =>
    have e:ZW Y1 Yc (k + 1) Y2=(.inl ()):=by simp only [ZW,Ye,Yw,cond_true,cond_false]
    rw [e]
    exact outR (e := .ret) E0Ok Z1 [] (mR false [4,1,22]) [] (q (sB' Yw<|sN)) (by kernel_rfl) (by intro h;cases h)
  | false =>
   have Yt:=odf Ye
   have e:ZW Y1 Yc (k + 1) Y2=(.inr ()):=by simp only [ZW,Ye,cond_false]
   rw [e]
   exact outR (e:=(.exit 0)) E0Ok Z1 [] (mR false [0,2,4,5,16]) [] (p (sB Ye<|sN)) (by kernel_rfl) (by intro h;cases h)
def Z20 (Y1:(List (List Int))) (Yc:(List (List Int))):(Unit) ⊕ (Unit):=(ZW Y1 Yc (((Y1.length:Int) - 0).toNat + 1) 0)
def Z1F (Y1:(List (List Int))) (Yc:(List (List Int))):Bool:=(cond ((Y1.length:Int) != (Yc.length:Int))
  false
  (match (Z20 Y1 Yc) with
    | .inl r2=>false
    | .inr r2=>true))
theorem Z6S (Y1:(List (List Int))) (Yc:(List (List Int))) (hp0:Y1.length≤1073741824) (hp1:∀ t∈Y1,t.length≤1073741824) (hp2:Yc.length≤1073741824) (hp3:∀ t∈Yc,t.length≤1073741824)  : Fn prog 23 [.sl (Y1.map (cL (cI .i64))), .sl (Yc.map (cL (cI .i64)))] (.b (Z1F Y1 Yc)) []:=by
 have p {a C} (s:Scr a C):=sZ (cL (cI .i64)) Y1<|sZ (cL (cI .i64)) Yc<|s
 cases h0:((Y1.length:Int) != (Yc.length:Int)) with
 | true =>
  have gh0:=bne_iff_ne.1 h0
  refine fnS E0Ok Z1 (c:=X0 f23) [] (.b false) [] func23 (p (sB h0<|sK [] sN)) rfl (by kernel_rfl) (by kernel_rfl) rfl ?_ ?_
  · simp only [Z1F,h0,cond_true]
  · rfl
 | false =>
  have gh0:=bne_eq_false_iff_eq.1 h0
  have q {a C} (s:Scr a C):=p (sB h0<|s)
  clear p
  cases h1:(Z20 Y1 Yc) with
  | inl r2 =>
   refine fnS E0Ok Z1 (c:=X0 f23) [] (.b false) [] func23 (q (sL (mR false [0,2,3,6,16]) 0 (X4 (Z2n Y1 Yc) (x:=(Z20 Y1 Yc)) (Z4u Y1 Yc hp0 hp1 hp2 hp3 h0 (((Y1.length:Int) - 0).toNat + 1) 0 (show 0≤0 from (by omega)) (Nat.lt_succ_self _)) h1)<|sK [] sN)) rfl (by kernel_rfl) (by kernel_rfl) rfl ?_ ?_
   · simp only [Z1F,h0,h1,cond_false]
   · rfl
  | inr r2 =>
   refine fnS E0Ok Z1 (c:=X0 f23) [] (.b true) [] func23 (q (sL (mR false [0,2,3,6,16]) 0 (X4 (Z2n Y1 Yc) (x:=(Z20 Y1 Yc)) (Z4u Y1 Yc hp0 hp1 hp2 hp3 h0 (((Y1.length:Int) - 0).toNat + 1) 0 (show 0≤0 from (by omega)) (Nat.lt_succ_self _)) h1)<|sK [] sN)) rfl (by kernel_rfl) (by kernel_rfl) rfl ?_ ?_
   · simp only [Z1F,h0,h1,cond_false]
   · rfl
theorem Z7o (a:List (List Int)):Z1F a a=true:=by
  unfold Z1F Z20
  rw [X2c (a:=a) (p:=fun v=>Z1x v v) (lo:=ZW a a) (x:=()) (y:=()) (fun k i=>rfl)]
  rw [show (a.all fun v=>Z1x v v)=true from by rw [List.all_eq_true];intro v _;exact Z7H v]
  simp
def Z1I (Y1:Gm) (Yc:Gm):Bool:=(cond (Z1E Y1.Pq Yc.Pq)
  (cond (Z1F Y1.Tr Yc.Tr)
    true
    false)
  false)
theorem Z3V (Y1:Gm) (Yc:Gm) (hp0:Y1.Pq.length≤1073741824) (hp1:Y1.Tr.length≤1073741824) (hp2:∀ t∈Y1.Tr,t.length≤1073741824) (hp3:Yc.Pq.length≤1073741824) (hp4:Yc.Tr.length≤1073741824) (hp5:∀ t∈Yc.Tr,t.length≤1073741824)  : Fn prog 16 [.agg [.sl (Y1.Pq.map Gv.c), .sl (Y1.Tr.map (cL (cI .i64)))], .agg [.sl (Yc.Pq.map Gv.c), .sl (Yc.Tr.map (cL (cI .i64)))]] (.b (Z1I Y1 Yc)) []:=by
 have p {a C} (s:Scr a C):=sF (Z6R Y1.Pq Yc.Pq hp0 hp3)<|s
 cases h0:(Z1E Y1.Pq Yc.Pq) with
 | true =>
  have q {a C} (s:Scr a C):=p (sB' h0<|sF (Z6S Y1.Tr Yc.Tr hp1 hp2 hp4 hp5)<|s)
  clear p
  cases h1:(Z1F Y1.Tr Yc.Tr) with
  | true =>
   refine fnS E0Ok Z1 (c:=X0 f16) [] (.b true) [] func16 (q (sB' h1<|sK [] sN)) rfl (by kernel_rfl) (by kernel_rfl) rfl ?_ ?_
   · simp only [Z1I,h0,h1,cond_true]
   · rfl
  | false =>
   refine fnS E0Ok Z1 (c:=X0 f16) [] (.b false) [] func16 (q (sB' h1<|sK [] sN)) rfl (by kernel_rfl) (by kernel_rfl) rfl ?_ ?_
   · simp only [Z1I,h0,h1,cond_true,cond_false]
   · rfl
 | false =>
  refine fnS E0Ok Z1 (c:=X0 f16) [] (.b false) [] func16 (p (sB' h0<|sK [] sN)) rfl (by kernel_rfl) (by kernel_rfl) rfl ?_ ?_
  · simp only [Z1I,h0,cond_false]
  · rfl
end Go.Ab
