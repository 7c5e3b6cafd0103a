/- The functions of this seat as plain Lean, and that the program's are these. Printed by a program of the prover's own. -/
import Derived.Test.YtpndflbllggeiaaGreatB2
set_option linter.unusedVariables false
set_option linter.unusedSimpArgs false
set_option maxRecDepth 100000
namespace Go.Ab
open Go.RowKit Go.Proofs.Tryz
def Z5q (Yi:Gm):(List (List Int)):=(Z3a Yi (((Yi.Pq.length:Int) - 0).toNat + 1) 0 ([]:List (List Int)))
def Zc (Yi:Gm):(List (List Int)):=(Z5q Yi)
theorem ZiS (m:Gm) (i:Int) (r:List Bool):Z2q m i r=((r.set (IntKind.wrap .i64 (IntKind.wrap .i64 (Z3M ((m.Tr.getD i.toNat default).getD 0 default) ((m.Tr.getD i.toNat default).getD 1 default) * (m.Pq.length:Int)) + Z3N ((m.Tr.getD i.toNat default).getD 0 default) ((m.Tr.getD i.toNat default).getD 1 default))).toNat true).set (IntKind.wrap .i64 (IntKind.wrap .i64 (Z3M ((m.Tr.getD i.toNat default).getD 1 default) ((m.Tr.getD i.toNat default).getD 2 default) * (m.Pq.length:Int)) + Z3N ((m.Tr.getD i.toNat default).getD 1 default) ((m.Tr.getD i.toNat default).getD 2 default))).toNat true).set (IntKind.wrap .i64 (IntKind.wrap .i64 (Z3M ((m.Tr.getD i.toNat default).getD 2 default) ((m.Tr.getD i.toNat default).getD 0 default) * (m.Pq.length:Int)) + Z3N ((m.Tr.getD i.toNat default).getD 2 default) ((m.Tr.getD i.toNat default).getD 0 default))).toNat true:=by
  have one:∀ (r0:List Bool) (k:Nat) (x:Int) (s:List Bool),x < 3→Z14 m i r0 (k + 1) x s=Z14 m i r0 k (x + 1) (s.set (IntKind.wrap .i64 (IntKind.wrap .i64 (Z1F m i x * (m.Pq.length:Int)) + Z1Y m i x)).toNat true):=by
    intro r0 k x s hx
    rw [Z14,decide_eq_true hx,cond_true]
  unfold Z2q
  show Z14 m i r 4 0 r=_
  rw [one r 3 0 r (by omega),one r 2 (0 + 1) _ (by omega),one r 1 (0 + 1 + 1) _ (by omega),Z14]
  show cond (decide ((3:Int) < 3)) _ _=_
  rw [decide_eq_false (by omega),cond_false]
  rfl
theorem ZiT (m:Gm) (ok:OkE m.Pq.length m.Tr) {a b:Int} (ha:0≤a) (hab:a < b) (hb:b < (m.Pq.length:Int)):∀ (k:Nat) (i:Nat) (r:List Bool),i≤m.Tr.length→((m.Tr.length:Int) - i).toNat < k→r.length=(IntKind.wrap .i64 ((m.Pq.length:Int) * (m.Pq.length:Int))).toNat →
    (Z1p m k i r).getD (IntKind.wrap .i64 (IntKind.wrap .i64 (a * (m.Pq.length:Int)) + b)).toNat default=(r.getD (IntKind.wrap .i64 (IntKind.wrap .i64 (a * (m.Pq.length:Int)) + b)).toNat default || (m.Tr.drop i).any fun t=>tHas t a b):=by
  intro k
  induction k with
  | zero=>intro i r _ hk;exact absurd hk (Nat.not_lt_zero _)
  | succ k ih =>
    intro i r hle hk hr
    rw [Z1p]
    by_cases hi:(i:Int) < (m.Tr.length:Int)
    · have hn:i < m.Tr.length:=by omega
      rw [decide_eq_true hi,cond_true]
      have:=ih (i + 1) (Z2q m i r) (by omega) (by omega) (by rw [Zbm];exact hr)
      rw [show ((i:Int) + 1)=((i + 1:Nat):Int) from by omega,this,ZiS,List.drop_eq_getElem_cons hn,List.any_cons]
      have hg:m.Tr.getD ((i:Nat):Int).toNat default=m.Tr[i]:=by rw [show ((i:Nat):Int).toNat=i from by omega,List.getD_eq_getElem?_getD,List.getElem?_eq_getElem hn];rfl
      obtain ⟨x,y,z,ht,r1,r2,r3,n1,n2,n3⟩:=ok.2.2 _ (List.getElem_mem hn)
      have h64:(m.Pq.length:Int)≤64:=by have:=ok.1;omega
      rw [hg,ht]
      simp only [List.getD_cons_zero,List.getD_cons_succ]
      rw [X3F h64 (Zdg z x) (Zc5 r3 r1) (Zc6 r3 r1) ha hab hb (by simpa using hr),X3F h64 (Zdg y z) (Zc5 r2 r3) (Zc6 r2 r3) ha hab hb (by simpa using hr),X3F h64 (Zdg x y) (Zc5 r1 r2) (Zc6 r1 r2) ha hab hb hr]
      have hT:=X3X n1 n2 n3 hab
      unfold tE at hT
      simp only [List.getD_cons_zero,List.getD_cons_succ,List.mem_cons,List.not_mem_nil,or_false] at hT
      generalize r.getD (IntKind.wrap .i64 (IntKind.wrap .i64 (a * (m.Pq.length:Int)) + b)).toNat default=q
      generalize ((m.Tr.drop (i + 1)).any fun t=>tHas t a b)=q2
      have hB:tHas [x,y,z] a b=(decide ((⟨a,b⟩:Gedge)=mkE x y) || (decide ((⟨a,b⟩:Gedge)=mkE y z) || decide ((⟨a,b⟩:Gedge)=mkE z x))):=by
        rw [Bool.eq_iff_iff,← hT];simp only [Bool.or_eq_true,decide_eq_true_eq]
      rw [hB]
      cases decide ((⟨a,b⟩:Gedge)=mkE x y)<;>cases decide ((⟨a,b⟩:Gedge)=mkE y z)<;>cases decide ((⟨a,b⟩:Gedge)=mkE z x)<;>cases q<;>cases q2<;>rfl
    · rw [decide_eq_false hi,cond_false,List.drop_eq_nil_of_le (by omega)];simp
theorem Zj0 (m:Gm) (ok:OkE m.Pq.length m.Tr) {a b:Int} (ha:0≤a) (hab:a < b) (hb:b < (m.Pq.length:Int)) :
    (ZW m).getD (IntKind.wrap .i64 (IntKind.wrap .i64 (a * (m.Pq.length:Int)) + b)).toNat default=m.Tr.any fun t=>tHas t a b:=by
  unfold ZW
  have:=ZiT m ok ha hab hb (((m.Tr.length:Int) - 0).toNat + 1) 0 (List.replicate (IntKind.wrap .i64 ((m.Pq.length:Int) * (m.Pq.length:Int))).toNat false) (Nat.zero_le _) (by omega) (by simp)
  rw [List.drop_zero] at this
  refine this.trans ?_
  rw [List.getD_eq_getElem?_getD,List.getElem?_replicate]
  split<;>simp
theorem ZcL (m:Gm) (ok:OkE m.Pq.length m.Tr):Zc m=(edgL m.Pq.length m.Tr).map e2:=by
  rw [X7s]
  unfold Zc Z5q
  refine X76 (n:=m.Pq.length) (p:=fun a b=>m.Tr.any fun t=>tHas t a b) (g:=fun a b=>e2 ⟨a,b⟩) (lo:=Z3a m) (li:=Z3z m) (fun k a r=>rfl) (fun a r ha => ?_) _ 0 (Nat.zero_le _) (by omega)
  unfold Z3z
  have hf:=X4w (n:=(m.Pq.length:Int)) (f:=fun b => !((ZW m).getD ((IntKind.wrap .i64 ((IntKind.wrap .i64 ((a:Int) * (m.Pq.length:Int))) + b)).toNat) default)) (g:=fun b => [(a:Int),b]) (lo:=Z1q m a r) (fun k i r'=>by
    rw [Z1q]
    cases ((ZW m).getD ((IntKind.wrap .i64 ((IntKind.wrap .i64 ((a:Int) * (m.Pq.length:Int))) + i)).toNat) default)<;>rfl) (((m.Pq.length:Int) - ((a:Int) + 1)).toNat + 1) ((a:Int) + 1) r (Nat.lt_succ_self _)
  rw [hf,show ((m.Pq.length:Int) - ((a:Int) + 1)).toNat=m.Pq.length - (a + 1) from by omega]
  congr 1
  have hfc:((List.range (m.Pq.length - (a + 1))).filter fun (j:Nat) => !(!((ZW m).getD ((IntKind.wrap .i64 ((IntKind.wrap .i64 ((a:Int) * (m.Pq.length:Int))) + ((a:Int) + 1 + (j:Int)))).toNat) default)))=(List.range (m.Pq.length - (a + 1))).filter fun (j:Nat)=>m.Tr.any fun t=>tHas t a ((a:Int) + 1 + j):=by
    refine List.filter_congr fun j hj => ?_
    rw [List.mem_range] at hj
    rw [Bool.not_not,Zj0 m ok (by omega) (by omega) (by omega)]
  rw [hfc]
  rfl
theorem Zhw (m:Gm) (ok:OkE m.Pq.length m.Tr):(Zc m).length≤4096:=by
  rw [ZcL m ok,List.length_map];exact X2W ok
theorem Z5C (m:Gm) (ok:OkE m.Pq.length m.Tr) {i:Int} (h0:0≤i) (hi:i < ((Zc m).length:Int)) :
    ((Zc m).getD i.toNat default).length=2∧0≤((Zc m).getD i.toNat default).getD 0 default∧((Zc m).getD i.toNat default).getD 0 default < ((Zc m).getD i.toNat default).getD 1 default∧((Zc m).getD i.toNat default).getD 1 default < (m.Pq.length:Int)∧(m.Pq.length:Int)≤64∧((Zc m).length:Int)≤4096:=by
  have hl:=Zhw m ok
  have h64:=ok.1
  rw [ZcL m ok] at hi hl ⊢
  rw [List.length_map] at hi hl
  have hn:i.toNat < (edgL m.Pq.length m.Tr).length:=by omega
  have hg:((edgL m.Pq.length m.Tr).map e2).getD i.toNat default=e2 (edgL m.Pq.length m.Tr)[i.toNat]:=by rw [List.getD_eq_getElem?_getD,List.getElem?_map,List.getElem?_eq_getElem hn];rfl
  have hb:=X4e (List.getElem_mem hn)
  rw [hg,List.length_map]
  exact ⟨rfl,hb.1,hb.2.1,hb.2.2,by omega,by omega⟩
theorem Zgh (Yi:Gm) (hp0:Yi.Pq.length≤1073741824) (hp1:Yi.Tr.length≤1073741824) (hp2:∀ t∈Yi.Tr,t.length≤1073741824) (hp3:OkE Yi.Pq.length Yi.Tr)  : Fn prog 137 [.ref (Gm.c Yi) 0] (.own 0) [.nest 49 ((Zc Yi).map fun l=>l.map (cI .i64)) false]:=by
 have y0:(0:Int)≤(IntKind.wrap .i64 ((Yi.Pq.length:Int) * (Yi.Pq.length:Int))):=(by (have q2:=ixN hp3.1;omega))
 have y1:((IntKind.wrap .i64 ((Yi.Pq.length:Int) * (Yi.Pq.length:Int))):Int)≤2147483648:=(by (have q2:=ixN hp3.1;omega))
 refine fnS E0Ok Z7 (c:=X0 f137) [] (.own 0) [.nest 49 ((Z5q Yi).map fun l=>l.map (cI .i64)) false] func137 (sZ Gv.c Yi.Pq<|sW .i64 ((Yi.Pq.length:Int) * (Yi.Pq.length:Int))<|sC (show (IntKind.wrap .i64 ((Yi.Pq.length:Int) * (Yi.Pq.length:Int)))=(IntKind.wrap .i64 ((Yi.Pq.length:Int) * (Yi.Pq.length:Int))) from rfl)<|sC y0<|sC y1<|sL (mR false [0,1,1,4,7,9,69]) 1 (Xk (st2:=⟨.ref (Gm.c Yi) 0 :: .any :: .nils :: .i .i64 (Yi.Pq.length:Int) :: .own 0 :: .i .i64 0 :: an 7 (.ref (Gm.c Yi) 0 :: .ref (Gm.c Yi) 0 :: .ref (Gm.c Yi) 0 :: .sl (Yi.Pq.map Gv.c) :: .i .i64 (Yi.Pq.length:Int) :: .i .i64 (Yi.Pq.length:Int) :: .i .i64 (Yi.Pq.length:Int) :: .i .i64 (IntKind.wrap .i64 ((Yi.Pq.length:Int) * (Yi.Pq.length:Int))) :: .own 0 :: an 69 []),[.vec 4 1 (List.replicate (Int.toNat (IntKind.wrap .i64 ((Yi.Pq.length:Int) * (Yi.Pq.length:Int)))) [.b false]) false]⟩) (X1 (Z7u Yi) (x:=(ZW Yi)) (Zes Yi hp0 hp1 hp2 hp3 (((Yi.Tr.length:Int) - 0).toNat + 1) 0 (List.replicate (IntKind.wrap .i64 ((Yi.Pq.length:Int) * (Yi.Pq.length:Int))).toNat false) (show 0≤0 from (by omega)) (show (List.replicate (IntKind.wrap .i64 ((Yi.Pq.length:Int) * (Yi.Pq.length:Int))).toNat false).length=(IntKind.wrap .i64 ((Yi.Pq.length:Int) * (Yi.Pq.length:Int))).toNat from (by simp)) (Nat.lt_succ_self _)) rfl) (by simp [ZaQ,cB]))<|sL (mR false [0,1,1,3,5,2,1,9,69]) 2 (Xk (st2:=⟨.ref (Gm.c Yi) 0 :: .any :: .nils :: .i .i64 (Yi.Pq.length:Int) :: .own 0 :: an 5 (.own 1 :: .i .i64 0 :: .any :: .ref (Gm.c Yi) 0 :: .ref (Gm.c Yi) 0 :: .ref (Gm.c Yi) 0 :: .sl (Yi.Pq.map Gv.c) :: .i .i64 (Yi.Pq.length:Int) :: .i .i64 (Yi.Pq.length:Int) :: .i .i64 (Yi.Pq.length:Int) :: .i .i64 (IntKind.wrap .i64 ((Yi.Pq.length:Int) * (Yi.Pq.length:Int))) :: .own 0 :: an 69 []),[.vec 4 1 ((ZW Yi).map cB) false, .nest 49 [] false]⟩) (X1 (Z7w Yi) (x:=(Z5q Yi)) (Zeu Yi hp0 hp1 hp2 hp3 (((Yi.Pq.length:Int) - 0).toNat + 1) 0 ([]:List (List Int)) (show 0≤0 from (by omega)) (show (([]:List (List Int)).length:Int)≤64 * 0 from (by simp)) (Nat.lt_succ_self _)) rfl) (by simp [ZaS,cL,cI]))<|sK [1] sN) rfl (by kernel_rfl) (by kernel_rfl) rfl ?_ ?_
 · rfl
 · simp [Zc]
def Z2F (YB:(List Int)) (n_1:Int):Nat→Int→(Unit) ⊕ (Unit)
  | 0,_ => .inl default
  | k + 1,Yk=>(cond (decide (Yk < (YB.length:Int)))
    (cond ((YB.getD Yk.toNat default) == n_1)
      (.inl ())
      (Z2F YB n_1 k (Yk + 1)))
    (.inr ()))
def Z6w (YB:(List Int)) (n_1:Int):(Unit) ⊕ (Unit)→Ex × St
  | .inl r=>(.ret,⟨an 4 (.b true :: an 13 []),[]⟩)
  | .inr r=>((.exit 0),⟨an 18 [],[]⟩)
def ZfR (YB:(List Int)) (n_1:Int) (Yk:Int):St:=⟨.sl (YB.map (cI .i64)) :: .i .i64 n_1 :: .any :: .any :: .any :: .i .i64 Yk :: an 12 [],[]⟩
theorem Zc7 (YB:(List Int)) (n_1:Int) (hp0:YB.length≤1073741824):∀ (k:Nat) (Yk:Int) (ZaT:0≤Yk) (hk:((YB.length:Int) - Yk).toNat < k),Lp prog 0 (sub (X0 f127) [1,0,1,0,0]) (ZfR YB n_1 Yk) (Z6w YB n_1 (Z2F YB n_1 k Yk)).1 (Z6w YB n_1 (Z2F YB n_1 k Yk)).2:=by
 intro k
 induction k with
 | zero=>intro Yk ZaT hk;exact absurd hk (Nat.not_lt_zero _)
 | succ k ih =>
  intro Yk ZaT hk
  have p {a C} (s:Scr a C):=sZ (cI .i64) YB<|s
  cases Yv:(decide (Yk < (YB.length:Int))) with
  | true =>
   have YI:=odt Yv
   have YT:(0:Int)≤Yk:=by clear p;exact (by assumption)
   have YV:Yk < (YB.length:Int):=by clear p;exact (by assumption)
   have q {a C} (s:Scr a C):=p (sB Yv<|sG (cI .i64) YB Yk YT YV<|s)
   clear p
   cases YF:((YB.getD Yk.toNat default) == n_1) with
   | true =>
    have Y1i:=eq_of_beq YF
    have e:Z2F YB n_1 (k + 1) Yk=(.inl ()):=by simp only [Z2F,Yv,YF,cond_true]
    rw [e]
    exact outR (e := .ret) E0Ok Z7 [] (mR false [4,1,13]) [] (q (sB YF<|sN)) (by kernel_rfl) (by intro h;cases h)
   | false =>
    have Y1i:=ne_of_beq_false YF
    have YX:(-9223372036854775808:Int)≤(Yk + 1):=by clear q;exact (by omega)
    have YZ:(Yk + 1)≤(9223372036854775807:Int):=by clear q;exact (by omega)
    have e:Z2F YB n_1 (k + 1) Yk=(Z2F YB n_1 k (Yk + 1)):=by simp only [Z2F,Yv,YF,cond_true,cond_false]
    rw [e]
    exact X8 E0Ok Z7 [] (mR false [0,2,3,1,12]) [] (ih (Yk + 1) (show 0≤(Yk + 1) from (by omega)) (by omega)) (q (sB YF<|sI (Yk + 1) YX YZ<|sN)) (by kernel_rfl)
  | false =>
   have YI:=odf Yv
   have e:Z2F YB n_1 (k + 1) Yk=(.inr ()):=by simp only [Z2F,Yv,cond_false]
   rw [e]
   exact outR (e:=(.exit 0)) E0Ok Z7 [] (mR false [18]) [] (p (sB Yv<|sN)) (by kernel_rfl) (by intro h;cases h)
def Z53 (YB:(List Int)) (n_1:Int):(Unit) ⊕ (Unit):=(Z2F YB n_1 (((YB.length:Int) - 0).toNat + 1) 0)
def Z20 (YB:(List Int)) (n_1:Int):Bool:=(match (Z53 YB n_1) with
  | .inl r1=>true
  | .inr r1=>false)
theorem ZdN (YB:(List Int)) (n_1:Int) (hp0:YB.length≤1073741824)  : Fn prog 127 [.sl (YB.map (cI .i64)), .i .i64 n_1] (.b (Z20 YB n_1)) []:=by
 cases h0:(Z53 YB n_1) with
 | inl r1 =>
  refine fnS E0Ok Z7 (c:=X0 f127) [] (.b true) [] func127 (sL (mR false [0,2,3,1,12]) 0 (X1 (Z6w YB n_1) (x:=(Z53 YB n_1)) (Zc7 YB n_1 hp0 (((YB.length:Int) - 0).toNat + 1) 0 (show 0≤0 from (by omega)) (Nat.lt_succ_self _)) h0)<|sK [] sN) rfl (by kernel_rfl) (by kernel_rfl) rfl ?_ ?_
  · simp only [Z20,h0]
  · rfl
 | inr r1 =>
  refine fnS E0Ok Z7 (c:=X0 f127) [] (.b false) [] func127 (sL (mR false [0,2,3,1,12]) 0 (X1 (Z6w YB n_1) (x:=(Z53 YB n_1)) (Zc7 YB n_1 hp0 (((YB.length:Int) - 0).toNat + 1) 0 (show 0≤0 from (by omega)) (Nat.lt_succ_self _)) h0)<|sK [] sN) rfl (by kernel_rfl) (by kernel_rfl) rfl ?_ ?_
  · simp only [Z20,h0]
  · rfl
def Z1r (YY:(List Int)) (i_1:Int) (j_2:Int):Nat→Int→(Int) ⊕ (Unit)
  | 0,_ => .inl default
  | k + 1,Y1=>(cond (decide (Y1 < (YY.length:Int)))
    (cond ((YY.getD Y1.toNat default) != i_1)
      (cond ((YY.getD Y1.toNat default) != j_2)
        (.inl (YY.getD Y1.toNat default))
        (Z1r YY i_1 j_2 k (Y1 + 1)))
      (Z1r YY i_1 j_2 k (Y1 + 1)))
    (.inr ()))
def Z5X (YY:(List Int)) (i_1:Int) (j_2:Int):(Int) ⊕ (Unit)→Ex × St
  | .inl r=>(.ret,⟨an 6 (.i .i64 r :: an 35 []),[]⟩)
  | .inr r=>((.exit 0),⟨.sl (YY.map (cI .i64)) :: .i .i64 i_1 :: .i .i64 j_2 :: an 5 (.sl (YY.map (cI .i64)) :: .i .i64 i_1 :: .b (Z20 YY i_1) :: .b (!(Z20 YY i_1)) :: .b (!(Z20 YY i_1)) :: .sl (YY.map (cI .i64)) :: .i .i64 j_2 :: .b (Z20 YY j_2) :: .b (!(Z20 YY j_2)) :: .b (!(Z20 YY j_2)) :: .sl (YY.map (cI .i64)) :: an 23 []),[]⟩)
def Zev (YY:(List Int)) (i_1:Int) (j_2:Int) (Y1:Int):St:=⟨.sl (YY.map (cI .i64)) :: .i .i64 i_1 :: .i .i64 j_2 :: an 5 (.sl (YY.map (cI .i64)) :: .i .i64 i_1 :: .b (Z20 YY i_1) :: .b (!(Z20 YY i_1)) :: .b (!(Z20 YY i_1)) :: .sl (YY.map (cI .i64)) :: .i .i64 j_2 :: .b (Z20 YY j_2) :: .b (!(Z20 YY j_2)) :: .b (!(Z20 YY j_2)) :: .sl (YY.map (cI .i64)) :: .i .i64 (YY.length:Int) :: .i .i64 Y1 :: an 21 []),[]⟩
theorem ZaU (YY:(List Int)) (i_1:Int) (j_2:Int) (hp0:YY.length≤1073741824):∀ (k:Nat) (Y1:Int) (Z9l:0≤Y1) (hk:((YY.length:Int) - Y1).toNat < k),Lp prog 0 (sub (X0 f138) [1,1,0,1,0,0]) (Zev YY i_1 j_2 Y1) (Z5X YY i_1 j_2 (Z1r YY i_1 j_2 k Y1)).1 (Z5X YY i_1 j_2 (Z1r YY i_1 j_2 k Y1)).2:=by
 intro k
 induction k with
 | zero=>intro Y1 Z9l hk;exact absurd hk (Nat.not_lt_zero _)
 | succ k ih =>
  intro Y1 Z9l hk
  cases Yv:(decide (Y1 < (YY.length:Int))) with
  | true =>
   have YI:=odt Yv
   have YT:(0:Int)≤Y1:=(by assumption)
   have YV:Y1 < (YY.length:Int):=(by assumption)
   have p {a C} (s:Scr a C):=sB Yv<|sG (cI .i64) YY Y1 YT YV<|s
   cases YF:((YY.getD Y1.toNat default) != i_1) with
   | true =>
    have Y1i:=bne_iff_ne.1 YF
    have q {a C} (s:Scr a C):=p (sB YF<|sB YF<|sB YF<|sG (cI .i64) YY Y1 YT YV<|sB YF<|sB YF<|sB YF<|sB YF<|s)
    clear p
    cases h_2:((YY.getD Y1.toNat default) != j_2) with
    | true =>
     have Y1A:=bne_iff_ne.1 h_2
     have e:Z1r YY i_1 j_2 (k + 1) Y1=(.inl (YY.getD Y1.toNat default)):=by simp only [Z1r,Yv,YF,h_2,cond_true]
     rw [e]
     exact outR (e := .ret) E0Ok Z7 [] (mR false [6,1,35]) [] (q (sB h_2<|sG (cI .i64) YY Y1 YT YV<|sN)) (by kernel_rfl) (by intro h;cases h)
    | false =>
     have Y1A:=bne_eq_false_iff_eq.1 h_2
     have YX:(-9223372036854775808:Int)≤(Y1 + 1):=by clear q;exact (by omega)
     have YZ:(Y1 + 1)≤(9223372036854775807:Int):=by clear q;exact (by omega)
     have e:Z1r YY i_1 j_2 (k + 1) Y1=(Z1r YY i_1 j_2 k (Y1 + 1)):=by simp only [Z1r,Yv,YF,h_2,cond_true,cond_false]
     rw [e]
     exact X8 E0Ok Z7 [] (mR false [0,3,5,13,21]) [] (ih (Y1 + 1) (show 0≤(Y1 + 1) from (by omega)) (by omega)) (q (sB h_2<|sI (Y1 + 1) YX YZ<|sN)) (by kernel_rfl)
   | false =>
    have Y1i:=bne_eq_false_iff_eq.1 YF
    have YX:(-9223372036854775808:Int)≤(Y1 + 1):=by clear p;exact (by omega)
    have YZ:(Y1 + 1)≤(9223372036854775807:Int):=by clear p;exact (by omega)
    have e:Z1r YY i_1 j_2 (k + 1) Y1=(Z1r YY i_1 j_2 k (Y1 + 1)):=by simp only [Z1r,Yv,YF,cond_true,cond_false]
    rw [e]
    exact X8 E0Ok Z7 [] (mR false [0,3,5,13,21]) [] (ih (Y1 + 1) (show 0≤(Y1 + 1) from (by omega)) (by omega)) (p (sB YF<|sB YF<|sB YF<|sB YF<|sB YF<|sB YF<|sB YF<|sB (show false=false from rfl)<|sI (Y1 + 1) YX YZ<|sN)) (by kernel_rfl)
  | false =>
   have YI:=odf Yv
   have e:Z1r YY i_1 j_2 (k + 1) Y1=(.inr ()):=by simp only [Z1r,Yv,cond_false]
   rw [e]
   exact outR (e:=(.exit 0)) E0Ok Z7 [] (mR false [0,3,5,11,23]) [] (sB Yv<|sN) (by kernel_rfl) (by intro h;cases h)
def Z4S (YY:(List Int)) (i_1:Int) (j_2:Int):(Int) ⊕ (Unit):=(Z1r YY i_1 j_2 (((YY.length:Int) - 0).toNat + 1) 0)
def Z3P (YY:(List Int)) (i_1:Int) (j_2:Int):Int:=(cond (Z20 YY i_1)
  (cond (Z20 YY j_2)
    (match (Z4S YY i_1 j_2) with
      | .inl r3=>r3
      | .inr r3=>(-1))
    (-1))
  (-1))
theorem ZhJ {x y z a b:Int} (n1:x≠y) (n2:y≠z) (n3:x≠z) (hab:a≠b):Z3P [x,y,z] a b=if tHas [x,y,z] a b=true then thd [x,y,z] a b else -1:=by
  have hs:∀ c:Int,Z20 [x,y,z] c=(x == c || (y == c || z == c)):=by
    intro c
    unfold Z20 Z53
    show (match Z2F [x,y,z] c 4 0 with | .inl r1=>true | .inr r1=>false)=_
    simp only [Z2F,List.length_cons,List.length_nil]
    cases h1:(x == c)<;>cases h2:(y == c)<;>cases h3:(z == c)<;>simp [h1,h2,h3]
  unfold Z3P
  rw [hs,hs]
  by_cases hh:tHas [x,y,z] a b=true
  · rw [if_pos hh]
    have hq:=hh
    unfold tHas at hq
    simp only [List.getD_cons_zero,List.getD_cons_succ,Bool.and_eq_true] at hq
    rw [hq.1,hq.2,cond_true,cond_true]
    unfold Z4S
    show (match Z1r [x,y,z] a b 4 0 with | .inl r3=>r3 | .inr r3=>(-1))=_
    simp only [Z1r,List.length_cons,List.length_nil]
    rcases X6b n1 n2 n3 hab hh with ⟨h0,h1,h2,h3,h4⟩ | ⟨h0,h1,h2,h3,h4⟩ | ⟨h0,h1,h2,h3,h4⟩
    · rw [h0];simp [bne_iff_ne.2 h1,bne_iff_ne.2 h2]
    · rw [h0]
      rcases h3 with rfl | rfl
      · simp [bne_iff_ne.2 h1,bne_iff_ne.2 h2]
      · simp [bne_iff_ne.2 h1,bne_iff_ne.2 h2]
    · rw [h0]
      rcases h3 with rfl | rfl<;>rcases h4 with rfl | rfl<;>first | exact absurd rfl n1 | simp [bne_iff_ne.2 h1,bne_iff_ne.2 h2]
  · rw [if_neg hh]
    unfold tHas at hh
    simp only [List.getD_cons_zero,List.getD_cons_succ,Bool.and_eq_true,not_and,Bool.not_eq_true] at hh
    cases h1:(x == a || (y == a || z == a)) with
    | false=>rfl
    | true=>rw [hh h1];rfl
theorem Zgi (YY:(List Int)) (i_1:Int) (j_2:Int) (hp0:YY.length≤1073741824)  : Fn prog 138 [.sl (YY.map (cI .i64)), .i .i64 i_1, .i .i64 j_2] (.i .i64 (Z3P YY i_1 j_2)) []:=by
 have p {a C} (s:Scr a C):=sF (ZdN YY i_1 hp0)<|s
 cases h0:(Z20 YY i_1) with
 | true =>
  have q {a C} (s:Scr a C):=p (sB' h0<|sB' h0<|sB' h0<|sF (ZdN YY j_2 hp0)<|sB' h0<|sB' h0<|s)
  clear p
  cases h1:(Z20 YY j_2) with
  | true =>
   have p {a C} (s:Scr a C):=q (sB' h1<|sZ (cI .i64) YY<|s)
   clear q
   cases h2:(Z4S YY i_1 j_2) with
   | inl r3 =>
    refine fnS E0Ok Z7 (c:=X0 f138) [] (.i .i64 r3) [] func138 (p (sL (mR false [0,3,5,13,21]) 0 (X1 (Z5X YY i_1 j_2) (x:=(Z4S YY i_1 j_2)) (ZaU YY i_1 j_2 hp0 (((YY.length:Int) - 0).toNat + 1) 0 (show 0≤0 from (by omega)) (Nat.lt_succ_self _)) h2)<|sK [] sN)) rfl (by kernel_rfl) (by kernel_rfl) rfl ?_ ?_
    · simp only [Z3P,h0,h1,h2,cond_true]
    · rfl
   | inr r3 =>
    refine fnS E0Ok Z7 (c:=X0 f138) [] (.i .i64 (-1)) [] func138 (p (sL (mR false [0,3,5,13,21]) 0 (X1 (Z5X YY i_1 j_2) (x:=(Z4S YY i_1 j_2)) (ZaU YY i_1 j_2 hp0 (((YY.length:Int) - 0).toNat + 1) 0 (show 0≤0 from (by omega)) (Nat.lt_succ_self _)) h2)<|sK [] sN)) rfl (by kernel_rfl) (by kernel_rfl) rfl ?_ ?_
    · simp only [Z3P,h0,h1,h2,cond_true]
    · rfl
  | false =>
   refine fnS E0Ok Z7 (c:=X0 f138) [] (.i .i64 (-1)) [] func138 (q (sB' h1<|sK [] sN)) rfl (by kernel_rfl) (by kernel_rfl) rfl ?_ ?_
   · simp only [Z3P,h0,h1,cond_true,cond_false]
   · rfl
 | false =>
  refine fnS E0Ok Z7 (c:=X0 f138) [] (.i .i64 (-1)) [] func138 (p (sB' h0<|sB' h0<|sB' h0<|sB' h0<|sB' h0<|sB (show true=true from rfl)<|sK [] sN)) rfl (by kernel_rfl) (by kernel_rfl) rfl ?_ ?_
  · simp only [Z3P,h0,cond_false]
  · rfl
def Z2a (Yi:Gm) (Y1:Int) (Yh:Int):Int:=(Z3P (Yi.Tr.getD Yh.toNat default) (((Zc Yi).getD Y1.toNat default).getD 0 default) (((Zc Yi).getD Y1.toNat default).getD 1 default))
def Z1N (Yi:Gm) (Y1:Int) (Ye:(List (List Int))):Nat→Int→(List Int)→(List Int)
  | 0,_,_=>default
  | k + 1,Yh,Ys=>(cond (decide (Yh < (Yi.Tr.length:Int)))
    (cond (decide ((Z2a Yi Y1 Yh) ≥ 0))
      (Z1N Yi Y1 Ye k (Yh + 1) (Ys ++ [(Z2a Yi Y1 Yh)]))
      (Z1N Yi Y1 Ye k (Yh + 1) Ys))
    Ys)
def Z72 (Yi:Gm) (Y1:Int) (Ye:(List (List Int))) (r:(List Int)):Ex × St:=((.exit 2),⟨.ref (Gm.c Yi) 0 :: .any :: .nils :: .own 0 :: .own 1 :: .i .i64 Y1 :: .i .i64 (((Zc Yi).getD Y1.toNat default).getD 0 default) :: .i .i64 (((Zc Yi).getD Y1.toNat default).getD 1 default) :: .own 2 :: .any :: .any :: .any :: .ref (Gm.c Yi) 0 :: .own 1 :: .own 1 :: .i .i64 ((Zc Yi).length:Int) :: .i .i64 Y1 :: .b (decide (Y1 < ((Zc Yi).length:Int))) :: .i .i64 Y1 :: .own 1 :: .i .i64 Y1 :: .ptr 1 Y1.toNat 0 :: .inn 1 Y1.toNat :: .ipt 1 Y1.toNat 0 :: .i .i64 (((Zc Yi).getD Y1.toNat default).getD 0 default) :: .own 1 :: .i .i64 Y1 :: .ptr 1 Y1.toNat 0 :: .inn 1 Y1.toNat :: .ipt 1 Y1.toNat 1 :: .i .i64 (((Zc Yi).getD Y1.toNat default).getD 1 default) :: .i .i64 (((Zc Yi).getD Y1.toNat default).getD 0 default) :: .i .i64 (((Zc Yi).getD Y1.toNat default).getD 1 default) :: .any :: .ref (Gm.c Yi) 0 :: .ref (Gm.c Yi) 0 :: .ref (Gm.c Yi) 1 :: .sl (Yi.Tr.map (cL (cI .i64))) :: .i .i64 (Yi.Tr.length:Int) :: an 29 [],[.nest 49 (Ye.map fun l=>l.map (cI .i64)) false, .nest 49 ((Zc Yi).map fun l=>l.map (cI .i64)) false, .vec 2 1 (r.map (cI .i64)) false]⟩)
def Z73 (Yi:Gm) (Y1:Int) (Ye:(List (List Int))) (Yh:Int) (Ys:(List Int)):St:=⟨.ref (Gm.c Yi) 0 :: .any :: .nils :: .own 0 :: .own 1 :: .i .i64 Y1 :: .i .i64 (((Zc Yi).getD Y1.toNat default).getD 0 default) :: .i .i64 (((Zc Yi).getD Y1.toNat default).getD 1 default) :: .own 2 :: .any :: .any :: .any :: .ref (Gm.c Yi) 0 :: .own 1 :: .own 1 :: .i .i64 ((Zc Yi).length:Int) :: .i .i64 Y1 :: .b (decide (Y1 < ((Zc Yi).length:Int))) :: .i .i64 Y1 :: .own 1 :: .i .i64 Y1 :: .ptr 1 Y1.toNat 0 :: .inn 1 Y1.toNat :: .ipt 1 Y1.toNat 0 :: .i .i64 (((Zc Yi).getD Y1.toNat default).getD 0 default) :: .own 1 :: .i .i64 Y1 :: .ptr 1 Y1.toNat 0 :: .inn 1 Y1.toNat :: .ipt 1 Y1.toNat 1 :: .i .i64 (((Zc Yi).getD Y1.toNat default).getD 1 default) :: .i .i64 (((Zc Yi).getD Y1.toNat default).getD 0 default) :: .i .i64 (((Zc Yi).getD Y1.toNat default).getD 1 default) :: .any :: .ref (Gm.c Yi) 0 :: .ref (Gm.c Yi) 0 :: .ref (Gm.c Yi) 1 :: .sl (Yi.Tr.map (cL (cI .i64))) :: .i .i64 (Yi.Tr.length:Int) :: .i .i64 Yh :: an 28 [],[.nest 49 (Ye.map fun l=>l.map (cI .i64)) false, .nest 49 ((Zc Yi).map fun l=>l.map (cI .i64)) false, .vec 2 1 (Ys.map (cI .i64)) false]⟩
def Z6b:List Bool:=(mR false [0,1,1,7,3,21,1,6,28])
def ZcV:List Bool:=(mR false [0,1,1,7,3,21,1,5,29])
set_option maxHeartbeats 1000000 in
theorem ZdW (Yi:Gm) (Y1:Int) (Ye:(List (List Int))) (hp0:Yi.Pq.length≤1073741824) (hp1:Yi.Tr.length≤1073741824) (hp2:∀ t∈Yi.Tr,t.length≤1073741824) (hp3:OkE Yi.Pq.length Yi.Tr) (Z2f:0≤Y1) (Z5a:(Ye.length:Int)≤Y1) (ZhY:(decide (Y1 < ((Zc Yi).length:Int)))=true):∀ (k:Nat) (Yh:Int) (Ys:(List Int)) (Z8N:0≤Yh) (Z8O:(Ys.length:Int)≤2 + Yh) (hk:((Yi.Tr.length:Int) - Yh).toNat < k),Lp prog 0 (sub (X0 f101) [1,1,1,0,1,0,0,1,1,0,0,1,1,1,1,0,1,0,0]) (Z73 Yi Y1 Ye Yh Ys) (Z72 Yi Y1 Ye (Z1N Yi Y1 Ye k Yh Ys)).1 (Z72 Yi Y1 Ye (Z1N Yi Y1 Ye k Yh Ys)).2:=by
 intro k
 induction k with
 | zero=>intro Yh Ys Z8N Z8O hk;exact absurd hk (Nat.not_lt_zero _)
 | succ k ih =>
  intro Yh Ys Z8N Z8O hk
  cases YS:(decide (Yh < (Yi.Tr.length:Int))) with
  | true =>
   have YW:=odt YS
   have Y1c:(0:Int)≤Yh:=(by assumption)
   have Y1g:Yh < (Yi.Tr.length:Int):=(by assumption)
   have Y1e:(Yi.Tr.getD Yh.toNat default).length≤1073741824:=(by simp_all<;>omega)
   have p {a C} (s:Scr a C):=sB YS<|sG (cL (cI .i64)) Yi.Tr Yh Y1c Y1g<|sF (Zgi (Yi.Tr.getD Yh.toNat default) (((Zc Yi).getD Y1.toNat default).getD 0 default) (((Zc Yi).getD Y1.toNat default).getD 1 default) Y1e)<|s
   cases Y1a:(decide ((Z2a Yi Y1 Yh) ≥ 0)) with
   | true =>
    have gh__1:=odt Y1a
    have Y19:Ys.length + ([(Z2a Yi Y1 Yh)]).length≤1073741824:=by clear p;exact (by ((have:=hp3.2.1;have g4:=odt YS;(simp only [List.length_append,List.length_cons,List.length_nil];omega))))
    have Y1f:(-9223372036854775808:Int)≤(Yh + 1):=by clear p;exact (by omega)
    have Y1n:(Yh + 1)≤(9223372036854775807:Int):=by clear p;exact (by omega)
    have e:Z1N Yi Y1 Ye (k + 1) Yh Ys=(Z1N Yi Y1 Ye k (Yh + 1) (Ys ++ [(Z2a Yi Y1 Yh)])):=by simp only [Z1N,YS,Y1a,cond_true]
    rw [e]
    exact X9 E0Ok Z7 [] Z6b [0,1,2] (⟨.ref (Gm.c Yi) 0 :: .any :: .nils :: .own 0 :: .own 1 :: .i .i64 Y1 :: .i .i64 (((Zc Yi).getD Y1.toNat default).getD 0 default) :: .i .i64 (((Zc Yi).getD Y1.toNat default).getD 1 default) :: .own 2 :: .any :: .any :: .any :: .ref (Gm.c Yi) 0 :: .own 1 :: .own 1 :: .i .i64 ((Zc Yi).length:Int) :: .i .i64 Y1 :: .b (decide (Y1 < ((Zc Yi).length:Int))) :: .i .i64 Y1 :: .own 1 :: .i .i64 Y1 :: .ptr 1 Y1.toNat 0 :: .inn 1 Y1.toNat :: .ipt 1 Y1.toNat 0 :: .i .i64 (((Zc Yi).getD Y1.toNat default).getD 0 default) :: .own 1 :: .i .i64 Y1 :: .ptr 1 Y1.toNat 0 :: .inn 1 Y1.toNat :: .ipt 1 Y1.toNat 1 :: .i .i64 (((Zc Yi).getD Y1.toNat default).getD 1 default) :: .i .i64 (((Zc Yi).getD Y1.toNat default).getD 0 default) :: .i .i64 (((Zc Yi).getD Y1.toNat default).getD 1 default) :: .any :: .ref (Gm.c Yi) 0 :: .ref (Gm.c Yi) 0 :: .ref (Gm.c Yi) 1 :: .sl (Yi.Tr.map (cL (cI .i64))) :: .i .i64 (Yi.Tr.length:Int) :: .i .i64 (Yh + 1) :: an 28 [],[.nest 49 (Ye.map fun l=>l.map (cI .i64)) false, .nest 49 ((Zc Yi).map fun l=>l.map (cI .i64)) false, .vec 2 1 ((Ys.map (cI .i64)) ++ ([[.i .i64 (Z2a Yi Y1 Yh)]]:List (List AV))) false]⟩) (p (sB Y1a<|sC (show (Ys.map (cI .i64)).length + ([[.i .i64 (Z2a Yi Y1 Yh)]]:List (List AV)).length≤1073741824 from (by simpa using Y19))<|sI (Yh + 1) Y1f Y1n<|sN)) (by kernel_rfl) (by simp [Z73,cL,cI]) (ih (Yh + 1) (Ys ++ [(Z2a Yi Y1 Yh)]) (show 0≤(Yh + 1) from (by omega)) (show ((Ys ++ [(Z2a Yi Y1 Yh)]).length:Int)≤2 + (Yh + 1) from (by ((have q:=Z5C Yi hp3 Z2f (odt (by assumption));(simp only [List.length_append,List.length_cons,List.length_nil];omega))))) (by omega))
   | false =>
    have gh__1:=odf Y1a
    have Y19:(-9223372036854775808:Int)≤(Yh + 1):=by clear p;exact (by omega)
    have Y1f:(Yh + 1)≤(9223372036854775807:Int):=by clear p;exact (by omega)
    have e:Z1N Yi Y1 Ye (k + 1) Yh Ys=(Z1N Yi Y1 Ye k (Yh + 1) Ys):=by simp only [Z1N,YS,Y1a,cond_true,cond_false]
    rw [e]
    exact X8 E0Ok Z7 [] Z6b [0,1,2] (ih (Yh + 1) Ys (show 0≤(Yh + 1) from (by omega)) (show (Ys.length:Int)≤2 + (Yh + 1) from (by omega)) (by omega)) (p (sB Y1a<|sI (Yh + 1) Y19 Y1f<|sN)) (by kernel_rfl)
  | false =>
   have YW:=odf YS
   have e:Z1N Yi Y1 Ye (k + 1) Yh Ys=Ys:=by simp only [Z1N,YS,cond_false]
   rw [e]
   exact outR (e:=(.exit 2)) E0Ok Z7 [] ZcV [0,1,2] (sB YS<|sN) (by kernel_rfl) (by intro h;cases h)
def Z1P (Yi:Gm) (Y1:Int) (Ye:(List (List Int))):(List Int):=(Z1N Yi Y1 Ye (((Yi.Tr.length:Int) - 0).toNat + 1) 0 ([(((Zc Yi).getD Y1.toNat default).getD 0 default),(((Zc Yi).getD Y1.toNat default).getD 1 default)]))
def Z1x (Yi:Gm):Nat→Int→(List (List Int))→(List (List Int))
  | 0,_,_=>default
  | k + 1,Y1,Ye=>(cond (decide (Y1 < ((Zc Yi).length:Int)))
    (cond (((Z1P Yi Y1 Ye).length:Int) == 4)
      (Z1x Yi k (Y1 + 1) (Ye ++ [(Z1P Yi Y1 Ye)]))
      (Z1x Yi k (Y1 + 1) Ye))
    Ye)
def Z74 (Yi:Gm) (r:(List (List Int))):Ex × St:=((.exit 0),⟨.ref (Gm.c Yi) 0 :: .any :: .nils :: .own 0 :: .own 1 :: an 7 (.ref (Gm.c Yi) 0 :: .own 1 :: .own 1 :: an 53 []),[.nest 49 (r.map fun l=>l.map (cI .i64)) false, .nest 49 ((Zc Yi).map fun l=>l.map (cI .i64)) false]⟩)
def Z75 (Yi:Gm) (Y1:Int) (Ye:(List (List Int))):St:=⟨.ref (Gm.c Yi) 0 :: .any :: .nils :: .own 0 :: .own 1 :: an 7 (.ref (Gm.c Yi) 0 :: .own 1 :: .own 1 :: .i .i64 ((Zc Yi).length:Int) :: .i .i64 Y1 :: an 51 []),[.nest 49 (Ye.map fun l=>l.map (cI .i64)) false, .nest 49 ((Zc Yi).map fun l=>l.map (cI .i64)) false]⟩
set_option maxHeartbeats 1000000 in
theorem ZdX (Yi:Gm) (hp0:Yi.Pq.length≤1073741824) (hp1:Yi.Tr.length≤1073741824) (hp2:∀ t∈Yi.Tr,t.length≤1073741824) (hp3:OkE Yi.Pq.length Yi.Tr):∀ (k:Nat) (Y1:Int) (Ye:(List (List Int))) (Z2f:0≤Y1) (Z5a:(Ye.length:Int)≤Y1) (hk:(((Zc Yi).length:Int) - Y1).toNat < k),Lp prog 0 (sub (X0 f101) [1,1,1,0,1,0,0]) (Z75 Yi Y1 Ye) (Z74 Yi (Z1x Yi k Y1 Ye)).1 (Z74 Yi (Z1x Yi k Y1 Ye)).2:=by
 intro k
 induction k with
 | zero=>intro Y1 Ye Z2f Z5a hk;exact absurd hk (Nat.not_lt_zero _)
 | succ k ih =>
  intro Y1 Ye Z2f Z5a hk
  cases Yv:(decide (Y1 < ((Zc Yi).length:Int))) with
  | true =>
   have YI:=odt Yv
   have YT:(0:Int)≤Y1:=(by assumption)
   have YV:Int.toNat Y1 < (Zc Yi).length:=(by omega)
   have YX:Y1.toNat < (Zc Yi).length:=(by assumption)
   have YZ:(0:Int)≤0:=(by omega)
   have y_4:0 < (((Zc Yi).getD Y1.toNat default).length:Int):=(by ((have q:=Z5C Yi hp3 Z2f (odt (by assumption));omega)))
   have y_5:0 < ((Zc Yi).getD Y1.toNat default).length:=(by omega)
   have y_6:(0:Int)≤1:=(by omega)
   have y_7:1 < (((Zc Yi).getD Y1.toNat default).length:Int):=(by ((have q:=Z5C Yi hp3 Z2f (odt (by assumption));omega)))
   have y_8:1 < ((Zc Yi).getD Y1.toNat default).length:=(by omega)
   have p {a C} (s:Scr a C):=sB Yv<|sC (X1V (c:=(cI .i64)) (l:=(Zc Yi)) (i:=Y1) YT YV)<|sC (X2g (c:=(cI .i64)) (l:=(Zc Yi)) YX)<|sC (Xz (c:=(cI .i64)) (l:=(Zc Yi)) (j:=Y1.toNat) (i:=0) YZ y_4)<|sE (Xy (c:=(cI .i64)) (l:=(Zc Yi)) (j:=Y1.toNat) (k:=0) y_5)<|sC (X1V (c:=(cI .i64)) (l:=(Zc Yi)) (i:=Y1) YT YV)<|sC (X2g (c:=(cI .i64)) (l:=(Zc Yi)) YX)<|sC (Xz (c:=(cI .i64)) (l:=(Zc Yi)) (j:=Y1.toNat) (i:=1) y_6 y_7)<|sE (Xy (c:=(cI .i64)) (l:=(Zc Yi)) (j:=Y1.toNat) (k:=1) y_8)<|sZ (cL (cI .i64)) Yi.Tr<|sL Z6b 3 (Xk (st2:=⟨.ref (Gm.c Yi) 0 :: .any :: .nils :: .own 0 :: .own 1 :: .i .i64 Y1 :: .i .i64 (((Zc Yi).getD Y1.toNat default).getD 0 default) :: .i .i64 (((Zc Yi).getD Y1.toNat default).getD 1 default) :: .own 2 :: .any :: .any :: .any :: .ref (Gm.c Yi) 0 :: .own 1 :: .own 1 :: .i .i64 ((Zc Yi).length:Int) :: .i .i64 Y1 :: .b (decide (Y1 < ((Zc Yi).length:Int))) :: .i .i64 Y1 :: .own 1 :: .i .i64 Y1 :: .ptr 1 Y1.toNat 0 :: .inn 1 Y1.toNat :: .ipt 1 Y1.toNat 0 :: .i .i64 (((Zc Yi).getD Y1.toNat default).getD 0 default) :: .own 1 :: .i .i64 Y1 :: .ptr 1 Y1.toNat 0 :: .inn 1 Y1.toNat :: .ipt 1 Y1.toNat 1 :: .i .i64 (((Zc Yi).getD Y1.toNat default).getD 1 default) :: .i .i64 (((Zc Yi).getD Y1.toNat default).getD 0 default) :: .i .i64 (((Zc Yi).getD Y1.toNat default).getD 1 default) :: .any :: .ref (Gm.c Yi) 0 :: .ref (Gm.c Yi) 0 :: .ref (Gm.c Yi) 1 :: .sl (Yi.Tr.map (cL (cI .i64))) :: .i .i64 (Yi.Tr.length:Int) :: .i .i64 0 :: an 28 [],[.nest 49 (Ye.map fun l=>l.map (cI .i64)) false, .nest 49 ((Zc Yi).map fun l=>l.map (cI .i64)) false, .vec 2 1 ([[.i .i64 (((Zc Yi).getD Y1.toNat default).getD 0 default)],[.i .i64 (((Zc Yi).getD Y1.toNat default).getD 1 default)]]:List (List AV)) false]⟩) (X1 (Z72 Yi Y1 Ye) (x:=(Z1P Yi Y1 Ye)) (ZdW Yi Y1 Ye hp0 hp1 hp2 hp3 Z2f Z5a Yv (((Yi.Tr.length:Int) - 0).toNat + 1) 0 ([(((Zc Yi).getD Y1.toNat default).getD 0 default),(((Zc Yi).getD Y1.toNat default).getD 1 default)]) (show 0≤0 from (by omega)) (show (([(((Zc Yi).getD Y1.toNat default).getD 0 default),(((Zc Yi).getD Y1.toNat default).getD 1 default)]).length:Int)≤2 + 0 from (by simp)) (Nat.lt_succ_self _)) rfl) (by simp [Z73,cI]))<|sZ (cI .i64) (Z1P Yi Y1 Ye)<|s
   cases YF:(((Z1P Yi Y1 Ye).length:Int) == 4) with
   | true =>
    have Y1i:=eq_of_beq YF
    have y_9:Ye.length + [(Z1P Yi Y1 Ye)].length≤1073741824:=by clear p;exact (by ((have q:=Z5C Yi hp3 Z2f (odt (by assumption));(simp only [List.length_append,List.length_cons,List.length_nil];omega))))
    have Y1b:(-9223372036854775808:Int)≤(Y1 + 1):=by clear p;exact (by omega)
    have Y1h:(Y1 + 1)≤(9223372036854775807:Int):=by clear p;exact (by ((have q:=Z5C Yi hp3 Z2f (odt (by assumption));omega)))
    have e:Z1x Yi (k + 1) Y1 Ye=(Z1x Yi k (Y1 + 1) (Ye ++ [(Z1P Yi Y1 Ye)])):=by simp only [Z1x,Yv,YF,cond_true]
    rw [e]
    exact X9 E0Ok Z7 [] (mR false [0,1,1,3,7,5,51]) [0,1] (⟨.ref (Gm.c Yi) 0 :: .any :: .nils :: .own 0 :: .own 1 :: an 7 (.ref (Gm.c Yi) 0 :: .own 1 :: .own 1 :: .i .i64 ((Zc Yi).length:Int) :: .i .i64 (Y1 + 1) :: an 51 []),[.nest 49 ((Ye.map fun l=>l.map (cI .i64)) ++ [((Z1P Yi Y1 Ye).map (cI .i64))]) false, .nest 49 ((Zc Yi).map fun l=>l.map (cI .i64)) false]⟩) (p (sB YF<|sC (show (Ye.map fun l=>l.map (cI .i64)).length + [((Z1P Yi Y1 Ye).map (cI .i64))].length≤1073741824 from (by simpa using y_9))<|sI (Y1 + 1) Y1b Y1h<|sN)) (by kernel_rfl) (by simp [Z75,cL,cI]) (ih (Y1 + 1) (Ye ++ [(Z1P Yi Y1 Ye)]) (show 0≤(Y1 + 1) from (by omega)) (show ((Ye ++ [(Z1P Yi Y1 Ye)]).length:Int)≤(Y1 + 1) from (by ((have q:=Z5C Yi hp3 Z2f (odt (by assumption));(simp only [List.length_append,List.length_cons,List.length_nil];omega))))) (by omega))
   | false =>
    have Y1i:=ne_of_beq_false YF
    have y_9:(-9223372036854775808:Int)≤(Y1 + 1):=by clear p;exact (by omega)
    have Y1b:(Y1 + 1)≤(9223372036854775807:Int):=by clear p;exact (by ((have q:=Z5C Yi hp3 Z2f (odt (by assumption));omega)))
    have e:Z1x Yi (k + 1) Y1 Ye=(Z1x Yi k (Y1 + 1) Ye):=by simp only [Z1x,Yv,YF,cond_true,cond_false]
    rw [e]
    exact X8 E0Ok Z7 [] (mR false [0,1,1,3,7,5,51]) [0,1] (ih (Y1 + 1) Ye (show 0≤(Y1 + 1) from (by omega)) (show (Ye.length:Int)≤(Y1 + 1) from (by omega)) (by omega)) (p (sB YF<|sI (Y1 + 1) y_9 Y1b<|sN)) (by kernel_rfl)
  | false =>
   have YI:=odf Yv
   have e:Z1x Yi (k + 1) Y1 Ye=Ye:=by simp only [Z1x,Yv,cond_false]
   rw [e]
   exact outR (e:=(.exit 0)) E0Ok Z7 [] (mR false [0,1,1,3,7,3,53]) [0,1] (sB Yv<|sN) (by kernel_rfl) (by intro h;cases h)
def Z5b (Yi:Gm):(List (List Int)):=(Z1x Yi ((((Zc Yi).length:Int) - 0).toNat + 1) 0 ([]:List (List Int)))
def Z2 (Yi:Gm):(List (List Int)):=(Z5b Yi)
theorem Zix (m:Gm) (ok:OkE m.Pq.length m.Tr) (x:Int) (r0:List (List Int)) (hab:((Zc m).getD x.toNat default).getD 0 default≠((Zc m).getD x.toNat default).getD 1 default) :
    Z1P m x r0=[((Zc m).getD x.toNat default).getD 0 default,((Zc m).getD x.toNat default).getD 1 default] ++ (idxP m.Tr (((Zc m).getD x.toNat default).getD 0 default) (((Zc m).getD x.toNat default).getD 1 default)).map fun i=>thd (m.Tr.getD i.toNat default) (((Zc m).getD x.toNat default).getD 0 default) (((Zc m).getD x.toNat default).getD 1 default):=by
  unfold Z1P
  have hf:=X4w (n:=(m.Tr.length:Int)) (f:=fun i => !(decide (Z2a m x i ≥ 0))) (g:=fun i=>Z2a m x i) (lo:=Z1N m x r0) (fun k i r'=>by
    rw [Z1N]
    cases decide (Z2a m x i ≥ 0)<;>rfl) (((m.Tr.length:Int) - 0).toNat + 1) 0 [((Zc m).getD x.toNat default).getD 0 default,((Zc m).getD x.toNat default).getD 1 default] (Nat.lt_succ_self _)
  rw [hf]
  congr 1
  unfold Z2a idxP
  generalize ((Zc m).getD x.toNat default).getD 0 default=a at *
  generalize ((Zc m).getD x.toNat default).getD 1 default=b at *
  rw [List.map_map,show ((m.Tr.length:Int) - 0).toNat=m.Tr.length from by omega]
  have key:∀ j:Nat,j < m.Tr.length→Z3P (m.Tr.getD ((0:Int) + (j:Int)).toNat default) a b=if tHas (m.Tr.getD j default) a b=true then thd (m.Tr.getD j default) a b else -1:=by
    intro j hj
    rw [show ((0:Int) + (j:Int)).toNat=j from by omega]
    have hm:m.Tr.getD j default∈m.Tr:=by rw [List.getD_eq_getElem?_getD,List.getElem?_eq_getElem hj];exact List.getElem_mem _
    obtain ⟨x,y,z,ht,r1,r2,r3,n1,n2,n3⟩:=ok.2.2 _ hm
    rw [ht];exact ZhJ n1 n2 n3 hab
  have hfl:((List.range m.Tr.length).filter fun (j:Nat) => !(!(decide (Z3P (m.Tr.getD ((0:Int) + (j:Int)).toNat default) a b ≥ 0))))=(List.range m.Tr.length).filter fun j=>tHas (m.Tr.getD j default) a b:=by
    refine List.filter_congr fun j hj => ?_
    rw [List.mem_range] at hj
    rw [Bool.not_not,key j hj]
    cases hh:tHas (m.Tr.getD j default) a b with
    | false=>rfl
    | true =>
      have hi:(j:Int)∈idxP m.Tr a b:=by
        unfold idxP;rw [List.mem_map];exact ⟨j,List.mem_filter.2 ⟨List.mem_range.2 hj,hh⟩,rfl⟩
      have:=(X75 ok hab hi).1
      rw [show ((j:Nat):Int).toNat=j from by omega] at this
      rw [if_pos rfl];exact decide_eq_true this
  rw [hfl]
  refine List.map_congr_left fun j hj => ?_
  rw [List.mem_filter,List.mem_range] at hj
  rw [key j hj.1,if_pos hj.2]
  show _=thd (m.Tr.getD ((j:Nat):Int).toNat default) a b
  rw [show ((j:Nat):Int).toNat=j from by omega]
theorem Z9m (m:Gm) (ok:OkE m.Pq.length m.Tr):Z2 m=hgL m.Pq.length m.Tr:=by
  unfold Z2 Z5b
  refine (X3Y (a:=Zc m) (p:=fun x=>decide ((idxP m.Tr (x.getD 0 default) (x.getD 1 default)).length=2)) (f:=fun x => [x.getD 0 default,x.getD 1 default] ++ (idxP m.Tr (x.getD 0 default) (x.getD 1 default)).map fun i=>thd (m.Tr.getD i.toNat default) (x.getD 0 default) (x.getD 1 default)) (lo:=Z1x m) (fun k i r h0 hi => ?_) (fun k i r hi => ?_)).trans ?_
  · have q:=Z5C m ok h0 hi
    rw [Z1x,decide_eq_true hi,cond_true,Zix m ok i r (by omega)]
    have hc:((([((Zc m).getD i.toNat default).getD 0 default,((Zc m).getD i.toNat default).getD 1 default] ++ (idxP m.Tr (((Zc m).getD i.toNat default).getD 0 default) (((Zc m).getD i.toNat default).getD 1 default)).map fun i_1=>thd (m.Tr.getD i_1.toNat default) (((Zc m).getD i.toNat default).getD 0 default) (((Zc m).getD i.toNat default).getD 1 default)).length:Int) == 4)=decide ((idxP m.Tr (((Zc m).getD i.toNat default).getD 0 default) (((Zc m).getD i.toNat default).getD 1 default)).length=2):=by
      rw [List.length_append,List.length_map,Bool.eq_iff_iff,beq_iff_eq,decide_eq_true_iff]
      simp only [List.length_cons,List.length_nil];omega
    rw [hc]
  · rw [Z1x,decide_eq_false (by omega),cond_false]
  · rw [ZcL m ok]
    unfold hgL
    rw [List.filter_map,List.map_map]
    rfl
theorem Z45 (m:Gm) (ok:OkE m.Pq.length m.Tr):(Z2 m).length≤4096:=by rw [Z9m m ok];exact X6c ok
theorem Zhx (m:Gm) (ok:OkE m.Pq.length m.Tr) {i:Int} (h0:0≤i) (hi:i < ((Z2 m).length:Int)):((Z2 m).getD i.toNat default).length=4∧∀ x∈(Z2 m).getD i.toNat default,0≤x∧x < (m.Pq.length:Int):=by
  refine X6d ok ?_
  rw [← Z9m m ok,List.getD_eq_getElem?_getD,List.getElem?_eq_getElem (by omega)];exact List.getElem_mem _
theorem hin4 {m:Gm} (ok:OkE m.Pq.length m.Tr) {i:Int} (h0:0≤i) (hi:decide (i < ((Z2 m).length:Int))=true):((Z2 m).getD i.toNat default).length=4∧∀ x∈(Z2 m).getD i.toNat default,0≤x∧x < (m.Pq.length:Int):=Zhx m ok h0 (odt hi)
theorem ZiX {m:Gm} (ok:OkE m.Pq.length m.Tr) {i:Int} (h0:0≤i) (hi:decide (i < ((Z2 m).length:Int))=true):((Z2 m).getD i.toNat default).length≤1073741824:=by have:=(hin4 ok h0 hi).1;omega
theorem Zc8 (Yi:Gm) (hp0:Yi.Pq.length≤1073741824) (hp1:Yi.Tr.length≤1073741824) (hp2:∀ t∈Yi.Tr,t.length≤1073741824) (hp3:OkE Yi.Pq.length Yi.Tr)  : Fn prog 101 [.ref (Gm.c Yi) 0] (.own 0) [.nest 49 ((Z2 Yi).map fun l=>l.map (cI .i64)) false]:=by
 refine fnS E0Ok Z7 (c:=X0 f101) [] (.own 0) [.nest 49 ((Z5b Yi).map fun l=>l.map (cI .i64)) false] func101 (sF (Zgh Yi hp0 hp1 hp2 hp3)<|sM (X26 (l:=(Zc Yi)) (f:=fun l=>l.map (cI .i64)))<|sL (mR false [0,1,1,3,7,5,51]) 2 (Xk (st2:=⟨.ref (Gm.c Yi) 0 :: .any :: .nils :: .own 0 :: .own 1 :: an 7 (.ref (Gm.c Yi) 0 :: .own 1 :: .own 1 :: .i .i64 ((Zc Yi).length:Int) :: .i .i64 0 :: an 51 []),[.nest 49 [] false, .nest 49 ((Zc Yi).map fun l=>l.map (cI .i64)) false]⟩) (X1 (Z74 Yi) (x:=(Z5b Yi)) (ZdX Yi hp0 hp1 hp2 hp3 ((((Zc Yi).length:Int) - 0).toNat + 1) 0 ([]:List (List Int)) (show 0≤0 from (by omega)) (show (([]:List (List Int)).length:Int)≤0 from (by simp)) (Nat.lt_succ_self _)) rfl) (by simp [Z75,cL,cI]))<|sK [0] sN) rfl (by kernel_rfl) (by kernel_rfl) rfl ?_ ?_
 · rfl
 · simp [Z2]
def Z67 (Yi:Gm) (YF:(List Int)):Gv:=(Z29 (Zv (Yi.Pq.getD (YF.getD 2 default).toNat default) (Yi.Pq.getD (YF.getD 3 default).toNat default)) (Zv (Yi.Pq.getD (YF.getD 0 default).toNat default) (Yi.Pq.getD (YF.getD 1 default).toNat default)))
def Z15 (Yi:Gm) (YF:(List Int)):Gv:=(Z67 Yi YF)
theorem ZcW (Yi:Gm) (YF:(List Int)) (hp0:Yi.Pq.length≤1073741824) (hp1:Yi.Tr.length≤1073741824) (hp2:∀ t∈Yi.Tr,t.length≤1073741824) (hp3:YF.length≤1073741824) (hp4:YF.length=4∧∀ x∈YF,0≤x∧x < (Yi.Pq.length:Int))  : Fn prog 102 [.ref (Gm.c Yi) 0, .sl (YF.map (cI .i64))] (.agg [.f .f32 ((Z15 Yi YF).X), .f .f32 ((Z15 Yi YF).Y), .f .f32 ((Z15 Yi YF).Z)]) []:=by
 have y0:(0:Int)≤2:=(by omega)
 have y1:2 < (YF.length:Int):=(by omega)
 have y2:(0:Int)≤(YF.getD 2 default):=(by have q:=Okh.at hp4;omega)
 have y3:(YF.getD 2 default) < (Yi.Pq.length:Int):=(by have q:=Okh.at hp4;omega)
 have y4:(0:Int)≤3:=(by omega)
 have y5:3 < (YF.length:Int):=(by omega)
 have y6:(0:Int)≤(YF.getD 3 default):=(by have q:=Okh.at hp4;omega)
 have y7:(YF.getD 3 default) < (Yi.Pq.length:Int):=(by have q:=Okh.at hp4;omega)
 have y8:(0:Int)≤0:=(by omega)
 have y9:0 < (YF.length:Int):=(by omega)
 have y10:(0:Int)≤(YF.getD 0 default):=(by have q:=Okh.at hp4;omega)
 have y11:(YF.getD 0 default) < (Yi.Pq.length:Int):=(by have q:=Okh.at hp4;omega)
 have y12:(0:Int)≤1:=(by omega)
 have y13:1 < (YF.length:Int):=(by omega)
 have y14:(0:Int)≤(YF.getD 1 default):=(by have q:=Okh.at hp4;omega)
 have y15:(YF.getD 1 default) < (Yi.Pq.length:Int):=(by have q:=Okh.at hp4;omega)
 refine fnS E0Ok Z7 (c:=X0 f102) [] (.agg [.f .f32 ((Z67 Yi YF).X), .f .f32 ((Z67 Yi YF).Y), .f .f32 ((Z67 Yi YF).Z)]) [] func102 (sK [37,37]<|sG (cI .i64) YF 2 y0 y1<|sG Gv.c Yi.Pq (YF.getD 2 default) y2 y3<|sG (cI .i64) YF 3 y4 y5<|sG Gv.c Yi.Pq (YF.getD 3 default) y6 y7<|sF (Z3w (Yi.Pq.getD (YF.getD 2 default).toNat default) (Yi.Pq.getD (YF.getD 3 default).toNat default))<|sG (cI .i64) YF 0 y8 y9<|sG Gv.c Yi.Pq (YF.getD 0 default) y10 y11<|sG (cI .i64) YF 1 y12 y13<|sG Gv.c Yi.Pq (YF.getD 1 default) y14 y15<|sF (Z3w (Yi.Pq.getD (YF.getD 0 default).toNat default) (Yi.Pq.getD (YF.getD 1 default).toNat default))<|sF (Z5D (Zv (Yi.Pq.getD (YF.getD 2 default).toNat default) (Yi.Pq.getD (YF.getD 3 default).toNat default)) (Zv (Yi.Pq.getD (YF.getD 0 default).toNat default) (Yi.Pq.getD (YF.getD 1 default).toNat default)))<|sK [] sN) rfl (by kernel_rfl) (by kernel_rfl) rfl ?_ ?_
 · rfl
 · rfl
def ZB (Y0:Gb) (Y1:Int) (Ye:(List Gv)):Gv:=(Zv (Ye.getD (((Y0.Sp.getD Y1.toNat default).A).toNat) default) (Zo ((Z3e Y0 (Y0.Sp.getD Y1.toNat default)).1) ((Z3e Y0 (Y0.Sp.getD Y1.toNat default)).2)))
def Zad (Y0:Gb) (Y1:Int):Gv:=(Zo ((Z3e Y0 (Y0.Sp.getD Y1.toNat default)).1) (fneg .f32 ((Z3e Y0 (Y0.Sp.getD Y1.toNat default)).2)))
def Z3n (Y0:Gb) (Y1:Int) (Ye:(List Gv)):Gv:=(Zv ((Ye.set (((Y0.Sp.getD Y1.toNat default).A).toNat) (ZB Y0 Y1 Ye)).getD (((Y0.Sp.getD Y1.toNat default).B).toNat) default) (Zad Y0 Y1))
def Z1y (Y0:Gb):Nat→Int→(List Gv)→(List Gv)
  | 0,_,_=>default
  | k + 1,Y1,Ye=>(cond (decide (Y1 < (Y0.Sp.length:Int)))
    (Z1y Y0 k (Y1 + 1) ((Ye.set (((Y0.Sp.getD Y1.toNat default).A).toNat) (ZB Y0 Y1 Ye)).set (((Y0.Sp.getD Y1.toNat default).B).toNat) (Z3n Y0 Y1 Ye)))
    Ye)
def Z76 (Y0:Gb) (r:(List Gv)):Ex × St:=((.exit 0),⟨.ref (Gb.c Y0) 0 :: .any :: .nils :: .ref (Gb.c Y0) 0 :: .own 0 :: an 15 (.ref (Gb.c Y0) 0 :: .ref (Gb.c Y0) 0 :: .ref (Gb.c Y0) 0 :: .ref (Gb.c Y0) 0 :: .ref (Gb.c Y0) 0 :: .ref (Gb.c Y0) 0 :: .sl (Y0.Me.Pq.map Gv.c) :: .i .i64 (Y0.Me.Pq.length:Int) :: .own 0 :: .ref (Gb.c Y0) 0 :: .ref (Gb.c Y0) 0 :: .ref (Gb.c Y0) 2 :: .sl (Y0.Sp.map Gs.c) :: an 247 []),[.vec 40 3 (r.map Gv.c) false]⟩)
def Z77 (Y0:Gb) (Y1:Int) (Ye:(List Gv)):St:=⟨.ref (Gb.c Y0) 0 :: .any :: .nils :: .ref (Gb.c Y0) 0 :: .own 0 :: an 15 (.ref (Gb.c Y0) 0 :: .ref (Gb.c Y0) 0 :: .ref (Gb.c Y0) 0 :: .ref (Gb.c Y0) 0 :: .ref (Gb.c Y0) 0 :: .ref (Gb.c Y0) 0 :: .sl (Y0.Me.Pq.map Gv.c) :: .i .i64 (Y0.Me.Pq.length:Int) :: .own 0 :: .ref (Gb.c Y0) 0 :: .ref (Gb.c Y0) 0 :: .ref (Gb.c Y0) 2 :: .sl (Y0.Sp.map Gs.c) :: .i .i64 (Y0.Sp.length:Int) :: .i .i64 Y1 :: an 245 []),[.vec 40 3 (Ye.map Gv.c) false]⟩
theorem ZdY (Y0:Gb) (hp0:Y0.Me.Pq.length≤1073741824) (hp1:Y0.Me.Tr.length≤1073741824) (hp2:∀ t∈Y0.Me.Tr,t.length≤1073741824) (hp3:Y0.Sp.length≤1073741824) (hp4:Y0.We.length≤1073741824) (hp5:OkBd Y0):∀ (k:Nat) (Y1:Int) (Ye:(List Gv)) (Z8P:0≤Y1) (Z8Q:Ye.length=Y0.Me.Pq.length) (hk:((Y0.Sp.length:Int) - Y1).toNat < k),Lp prog 0 (sub (X0 f51) [1,1,1,0,1,0,0]) (Z77 Y0 Y1 Ye) (Z76 Y0 (Z1y Y0 k Y1 Ye)).1 (Z76 Y0 (Z1y Y0 k Y1 Ye)).2:=by
 intro k
 induction k with
 | zero=>intro Y1 Ye Z8P Z8Q hk;exact absurd hk (Nat.not_lt_zero _)
 | succ k ih =>
  intro Y1 Ye Z8P Z8Q hk
  cases Yv:(decide (Y1 < (Y0.Sp.length:Int))) with
  | true =>
   have YI:=odt Yv
   have YT:(0:Int)≤Y1:=(by assumption)
   have YV:Y1 < (Y0.Sp.length:Int):=(by assumption)
   have YX:0≤(Y0.Sp.getD Y1.toNat default).A:=(by have q:=Z3O hp5 (by assumption) Yv;omega)
   have YZ:(Y0.Sp.getD Y1.toNat default).A < (Y0.Me.Pq.length:Int):=(by have q:=Z3O hp5 (by assumption) Yv;omega)
   have y_4:0≤(Y0.Sp.getD Y1.toNat default).B:=(by have q:=Z3O hp5 (by assumption) Yv;omega)
   have y_5:(Y0.Sp.getD Y1.toNat default).B < (Y0.Me.Pq.length:Int):=(by have q:=Z3O hp5 (by assumption) Yv;omega)
   have y_6:(0:Int)≤((Y0.Sp.getD Y1.toNat default).A):=(by assumption)
   have y_7:((Y0.Sp.getD Y1.toNat default).A) < (Ye.length:Int):=(by omega)
   have y_8:((Y0.Sp.getD Y1.toNat default).A).toNat < Ye.length:=(by omega)
   have y_9:(0:Int)≤((Y0.Sp.getD Y1.toNat default).B):=(by assumption)
   have Y1b:((Y0.Sp.getD Y1.toNat default).B) < ((Ye.set (((Y0.Sp.getD Y1.toNat default).A).toNat) (ZB Y0 Y1 Ye)).length:Int):=(by have q:=hp5.w;have q:=Z3O hp5 (by assumption) Yv;(simp only [List.length_set];omega))
   have Y1h:((Y0.Sp.getD Y1.toNat default).B).toNat < (Ye.set (((Y0.Sp.getD Y1.toNat default).A).toNat) (ZB Y0 Y1 Ye)).length:=(by omega)
   have Y1l:(-9223372036854775808:Int)≤(Y1 + 1):=(by omega)
   have Y1m:(Y1 + 1)≤(9223372036854775807:Int):=(by omega)
   have e:Z1y Y0 (k + 1) Y1 Ye=(Z1y Y0 k (Y1 + 1) ((Ye.set (((Y0.Sp.getD Y1.toNat default).A).toNat) (ZB Y0 Y1 Ye)).set (((Y0.Sp.getD Y1.toNat default).B).toNat) (Z3n Y0 Y1 Ye))):=by simp only [Z1y,Yv,cond_true]
   rw [e]
   exact X9 E0Ok Z7 [] (mR false [0,1,1,3,15,15,245]) [0] (⟨.ref (Gb.c Y0) 0 :: .any :: .nils :: .ref (Gb.c Y0) 0 :: .own 0 :: an 15 (.ref (Gb.c Y0) 0 :: .ref (Gb.c Y0) 0 :: .ref (Gb.c Y0) 0 :: .ref (Gb.c Y0) 0 :: .ref (Gb.c Y0) 0 :: .ref (Gb.c Y0) 0 :: .sl (Y0.Me.Pq.map Gv.c) :: .i .i64 (Y0.Me.Pq.length:Int) :: .own 0 :: .ref (Gb.c Y0) 0 :: .ref (Gb.c Y0) 0 :: .ref (Gb.c Y0) 2 :: .sl (Y0.Sp.map Gs.c) :: .i .i64 (Y0.Sp.length:Int) :: .i .i64 (Y1 + 1) :: an 245 []),[.vec 40 3 (((Ye.map Gv.c).set (((Y0.Sp.getD Y1.toNat default).A).toNat) [.f .f32 ((ZB Y0 Y1 Ye).X), .f .f32 ((ZB Y0 Y1 Ye).Y), .f .f32 ((ZB Y0 Y1 Ye).Z)]).set (((Y0.Sp.getD Y1.toNat default).B).toNat) [.f .f32 ((Z3n Y0 Y1 Ye).X), .f .f32 ((Z3n Y0 Y1 Ye).Y), .f .f32 ((Z3n Y0 Y1 Ye).Z)]) false]⟩) (sB Yv<|sG Gs.c Y0.Sp Y1 YT YV<|sF (Zhc Y0 (Y0.Sp.getD Y1.toNat default) hp0 hp1 hp2 hp3 hp4 YX YZ y_4 y_5)<|sK [16,16]<|sX Gv.c Ye ((Y0.Sp.getD Y1.toNat default).A) y_6 y_7<|sV Gv.c Ye (((Y0.Sp.getD Y1.toNat default).A).toNat) y_8<|sF (Z3y ((Z3e Y0 (Y0.Sp.getD Y1.toNat default)).1) ((Z3e Y0 (Y0.Sp.getD Y1.toNat default)).2))<|sF (Z3w (Ye.getD (((Y0.Sp.getD Y1.toNat default).A).toNat) default) (Zo ((Z3e Y0 (Y0.Sp.getD Y1.toNat default)).1) ((Z3e Y0 (Y0.Sp.getD Y1.toNat default)).2)))<|sX Gv.c Ye ((Y0.Sp.getD Y1.toNat default).A) y_6 y_7<|sC (Xl (c:=Gv.c) (l:=Ye) y_8)<|sK [17,17]<|sC (show 0≤((Y0.Sp.getD Y1.toNat default).B)∧Int.toNat ((Y0.Sp.getD Y1.toNat default).B) < ((Ye.map Gv.c).set (((Y0.Sp.getD Y1.toNat default).A).toNat) [.f .f32 ((ZB Y0 Y1 Ye).X), .f .f32 ((ZB Y0 Y1 Ye).Y), .f .f32 ((ZB Y0 Y1 Ye).Z)]).length from (by simpa using XC (c:=Gv.c) (l:=(Ye.set (((Y0.Sp.getD Y1.toNat default).A).toNat) (ZB Y0 Y1 Ye))) (i:=(Y0.Sp.getD Y1.toNat default).B) y_9 Y1b))<|sE (show ((Ye.map Gv.c).set (((Y0.Sp.getD Y1.toNat default).A).toNat) [.f .f32 ((ZB Y0 Y1 Ye).X), .f .f32 ((ZB Y0 Y1 Ye).Y), .f .f32 ((ZB Y0 Y1 Ye).Z)])[((Y0.Sp.getD Y1.toNat default).B).toNat]? = some [.f .f32 (((Ye.set (((Y0.Sp.getD Y1.toNat default).A).toNat) (ZB Y0 Y1 Ye)).getD (((Y0.Sp.getD Y1.toNat default).B).toNat) default).X), .f .f32 (((Ye.set (((Y0.Sp.getD Y1.toNat default).A).toNat) (ZB Y0 Y1 Ye)).getD (((Y0.Sp.getD Y1.toNat default).B).toNat) default).Y), .f .f32 (((Ye.set (((Y0.Sp.getD Y1.toNat default).A).toNat) (ZB Y0 Y1 Ye)).getD (((Y0.Sp.getD Y1.toNat default).B).toNat) default).Z)] from (by have q:=X1q (c:=Gv.c) (l:=(Ye.set (((Y0.Sp.getD Y1.toNat default).A).toNat) (ZB Y0 Y1 Ye))) (k:=((Y0.Sp.getD Y1.toNat default).B).toNat) Y1h;(simp only [List.map_set,List.map_append,List.map_cons,List.map_nil,List.map_replicate] at q;exact q)))<|sF (Z3y ((Z3e Y0 (Y0.Sp.getD Y1.toNat default)).1) (fneg .f32 ((Z3e Y0 (Y0.Sp.getD Y1.toNat default)).2)))<|sF (Z3w ((Ye.set (((Y0.Sp.getD Y1.toNat default).A).toNat) (ZB Y0 Y1 Ye)).getD (((Y0.Sp.getD Y1.toNat default).B).toNat) default) (Zad Y0 Y1))<|sC (show 0≤((Y0.Sp.getD Y1.toNat default).B)∧Int.toNat ((Y0.Sp.getD Y1.toNat default).B) < ((Ye.map Gv.c).set (((Y0.Sp.getD Y1.toNat default).A).toNat) [.f .f32 ((ZB Y0 Y1 Ye).X), .f .f32 ((ZB Y0 Y1 Ye).Y), .f .f32 ((ZB Y0 Y1 Ye).Z)]).length from (by simpa using XC (c:=Gv.c) (l:=(Ye.set (((Y0.Sp.getD Y1.toNat default).A).toNat) (ZB Y0 Y1 Ye))) (i:=(Y0.Sp.getD Y1.toNat default).B) y_9 Y1b))<|sC (show ((Y0.Sp.getD Y1.toNat default).B).toNat < ((Ye.map Gv.c).set (((Y0.Sp.getD Y1.toNat default).A).toNat) [.f .f32 ((ZB Y0 Y1 Ye).X), .f .f32 ((ZB Y0 Y1 Ye).Y), .f .f32 ((ZB Y0 Y1 Ye).Z)]).length from (by simpa using Y1h))<|sI (Y1 + 1) Y1l Y1m<|sN) (by kernel_rfl) (by simp [Z77,List.map_set,Gv.c]) (ih (Y1 + 1) ((Ye.set (((Y0.Sp.getD Y1.toNat default).A).toNat) (ZB Y0 Y1 Ye)).set (((Y0.Sp.getD Y1.toNat default).B).toNat) (Z3n Y0 Y1 Ye)) (show 0≤(Y1 + 1) from (by omega)) (show ((Ye.set (((Y0.Sp.getD Y1.toNat default).A).toNat) (ZB Y0 Y1 Ye)).set (((Y0.Sp.getD Y1.toNat default).B).toNat) (Z3n Y0 Y1 Ye)).length=Y0.Me.Pq.length from (by have q:=hp5.w;have q:=Z3O hp5 (by assumption) Yv;(simp only [List.length_set];omega))) (by omega))
  | false =>
   have YI:=odf Yv
   have e:Z1y Y0 (k + 1) Y1 Ye=Ye:=by simp only [Z1y,Yv,cond_false]
   rw [e]
   exact outR (e:=(.exit 0)) E0Ok Z7 [] (mR false [0,1,1,3,15,13,247]) [0] (sB Yv<|sN) (by kernel_rfl) (by intro h;cases h)
theorem ZcX (Y0:Gb):∀ (k:Nat) (Y1:Int) (Ye:(List Gv)) (hk:((Y0.Sp.length:Int) - Y1).toNat < k),(Z1y Y0 k Y1 Ye).length=Ye.length:=by
  intro k
  induction k with
  | zero=>intro Y1 Ye hk;exact absurd hk (Nat.not_lt_zero _)
  | succ k ih =>
    intro Y1 Ye hk
    cases Yv:(decide (Y1 < (Y0.Sp.length:Int))) with
    | true =>
      have e:Z1y Y0 (k + 1) Y1 Ye=(Z1y Y0 k (Y1 + 1) ((Ye.set (((Y0.Sp.getD Y1.toNat default).A).toNat) (ZB Y0 Y1 Ye)).set (((Y0.Sp.getD Y1.toNat default).B).toNat) (Z3n Y0 Y1 Ye))):=by simp only [Z1y,Yv,cond_true]
      rw [e,ih (Y1 + 1) ((Ye.set (((Y0.Sp.getD Y1.toNat default).A).toNat) (ZB Y0 Y1 Ye)).set (((Y0.Sp.getD Y1.toNat default).B).toNat) (Z3n Y0 Y1 Ye)) (by simp_all<;>omega)];simp
    | false =>
      have e:Z1y Y0 (k + 1) Y1 Ye=Ye:=by simp only [Z1y,Yv,cond_false]
      first | (rw [e];done) | (rw [e];rfl)
def Z3r (Y0:Gb):(List Gv):=(Z1y Y0 (((Y0.Sp.length:Int) - 0).toNat + 1) 0 (List.replicate (Y0.Me.Pq.length:Int).toNat (⟨0,0,0⟩:Gv)))
@[simp] theorem ZgW (Y0:Gb):(Z3r Y0).length=((List.replicate (Y0.Me.Pq.length:Int).toNat (⟨0,0,0⟩:Gv)):(List Gv)).length:=ZcX Y0 (((Y0.Sp.length:Int) - 0).toNat + 1) 0 (List.replicate (Y0.Me.Pq.length:Int).toNat (⟨0,0,0⟩:Gv)) (by exact Nat.lt_succ_self _)
def Z2Y (Y0:Gb) (Y1:Int):Nat:=(Zu (fneg .f32 (fop .mul .f32 1056964608 Y0.Film)) (Z2w (Zr Y0.Me (Y0.Me.Tr.getD Y1.toNat default))))
def Z78 (Y0:Gb) (Y1:Int) (Yh:Int):Gv:=(Z29 (Y0.Me.Pq.getD ((Y0.Me.Tr.getD Y1.toNat default).getD (Int.tmod (Yh + 2) 3).toNat default).toNat default) (Y0.Me.Pq.getD ((Y0.Me.Tr.getD Y1.toNat default).getD (Int.tmod (Yh + 1) 3).toNat default).toNat default))
def Z5J (Y0:Gb) (Y1:Int) (Yh:Int):Gv:=(Zo (Z59 (Zr Y0.Me (Y0.Me.Tr.getD Y1.toNat default)) (Z78 Y0 Y1 Yh)) (Z2Y Y0 Y1))
def Z2z (Y0:Gb) (Y1:Int) (Yh:Int) (YD:(List Gv)):Gv:=(Zv (YD.getD (((Y0.Me.Tr.getD Y1.toNat default).getD Yh.toNat default).toNat) default) (Z5J Y0 Y1 Yh))
def Z13 (Y0:Gb) (Y1:Int) (Ye:(List Gv)):Nat→Int→(List Gv)→(List Gv)
  | 0,_,_=>default
  | k + 1,Yh,YD=>(cond (decide (Yh < 3))
    (Z13 Y0 Y1 Ye k (Yh + 1) (YD.set (((Y0.Me.Tr.getD Y1.toNat default).getD Yh.toNat default).toNat) (Z2z Y0 Y1 Yh YD)))
    YD)
def Z79 (Y0:Gb) (Y1:Int) (Ye:(List Gv)) (r:(List Gv)):Ex × St:=((.exit 4),⟨.ref (Gb.c Y0) 0 :: .any :: .nils :: .ref (Gb.c Y0) 0 :: .own 0 :: an 4 (.i .i64 Y1 :: .sl ((Y0.Me.Tr.getD Y1.toNat default).map (cI .i64)) :: .ptr 1 0 0 :: .f .f32 (Z2Y Y0 Y1) :: an 7 (.ref (Gb.c Y0) 0 :: .ref (Gb.c Y0) 0 :: .ref (Gb.c Y0) 0 :: .ref (Gb.c Y0) 0 :: .ref (Gb.c Y0) 0 :: .ref (Gb.c Y0) 0 :: .sl (Y0.Me.Pq.map Gv.c) :: .i .i64 (Y0.Me.Pq.length:Int) :: .own 0 :: .ref (Gb.c Y0) 0 :: .ref (Gb.c Y0) 0 :: .ref (Gb.c Y0) 2 :: .sl (Y0.Sp.map Gs.c) :: an 52 (.ref (Gb.c Y0) 0 :: .ref (Gb.c Y0) 0 :: .ref (Gb.c Y0) 1 :: .sl (Y0.Me.Tr.map (cL (cI .i64))) :: .i .i64 (Y0.Me.Tr.length:Int) :: .i .i64 Y1 :: .b (decide (Y1 < (Y0.Me.Tr.length:Int))) :: .i .i64 Y1 :: .ref (Gb.c Y0) 0 :: .ref (Gb.c Y0) 0 :: .ref (Gb.c Y0) 1 :: .sl (Y0.Me.Tr.map (cL (cI .i64))) :: .i .i64 Y1 :: .ref [.sl ((Y0.Me.Tr.getD Y1.toNat default).map (cI .i64))] 0 :: .sl ((Y0.Me.Tr.getD Y1.toNat default).map (cI .i64)) :: .ref (Gb.c Y0) 0 :: .sl ((Y0.Me.Tr.getD Y1.toNat default).map (cI .i64)) :: .agg [.f .f32 ((Zr Y0.Me (Y0.Me.Tr.getD Y1.toNat default)).X), .f .f32 ((Zr Y0.Me (Y0.Me.Tr.getD Y1.toNat default)).Y), .f .f32 ((Zr Y0.Me (Y0.Me.Tr.getD Y1.toNat default)).Z)] :: .ref (Gb.c Y0) 0 :: .ref (Gb.c Y0) 0 :: .ref (Gb.c Y0) 3 :: .f .f32 Y0.Film :: .f .f32 (fop .mul .f32 1056964608 Y0.Film) :: .f .f32 (fneg .f32 (fop .mul .f32 1056964608 Y0.Film)) :: .agg [.f .f32 ((Zr Y0.Me (Y0.Me.Tr.getD Y1.toNat default)).X), .f .f32 ((Zr Y0.Me (Y0.Me.Tr.getD Y1.toNat default)).Y), .f .f32 ((Zr Y0.Me (Y0.Me.Tr.getD Y1.toNat default)).Z)] :: .f .f32 (Z2w (Zr Y0.Me (Y0.Me.Tr.getD Y1.toNat default))) :: .f .f32 (Z2Y Y0 Y1) :: an 168 []))),[.vec 40 3 (r.map Gv.c) false, .box 40 [.f .f32 ((Zr Y0.Me (Y0.Me.Tr.getD Y1.toNat default)).X), .f .f32 ((Zr Y0.Me (Y0.Me.Tr.getD Y1.toNat default)).Y), .f .f32 ((Zr Y0.Me (Y0.Me.Tr.getD Y1.toNat default)).Z)]]⟩)
def Zae (Y0:Gb) (Y1:Int) (Ye:(List Gv)) (Yh:Int) (YD:(List Gv)):St:=⟨.ref (Gb.c Y0) 0 :: .any :: .nils :: .ref (Gb.c Y0) 0 :: .own 0 :: an 4 (.i .i64 Y1 :: .sl ((Y0.Me.Tr.getD Y1.toNat default).map (cI .i64)) :: .ptr 1 0 0 :: .f .f32 (Z2Y Y0 Y1) :: .i .i64 Yh :: an 6 (.ref (Gb.c Y0) 0 :: .ref (Gb.c Y0) 0 :: .ref (Gb.c Y0) 0 :: .ref (Gb.c Y0) 0 :: .ref (Gb.c Y0) 0 :: .ref (Gb.c Y0) 0 :: .sl (Y0.Me.Pq.map Gv.c) :: .i .i64 (Y0.Me.Pq.length:Int) :: .own 0 :: .ref (Gb.c Y0) 0 :: .ref (Gb.c Y0) 0 :: .ref (Gb.c Y0) 2 :: .sl (Y0.Sp.map Gs.c) :: an 52 (.ref (Gb.c Y0) 0 :: .ref (Gb.c Y0) 0 :: .ref (Gb.c Y0) 1 :: .sl (Y0.Me.Tr.map (cL (cI .i64))) :: .i .i64 (Y0.Me.Tr.length:Int) :: .i .i64 Y1 :: .b (decide (Y1 < (Y0.Me.Tr.length:Int))) :: .i .i64 Y1 :: .ref (Gb.c Y0) 0 :: .ref (Gb.c Y0) 0 :: .ref (Gb.c Y0) 1 :: .sl (Y0.Me.Tr.map (cL (cI .i64))) :: .i .i64 Y1 :: .ref [.sl ((Y0.Me.Tr.getD Y1.toNat default).map (cI .i64))] 0 :: .sl ((Y0.Me.Tr.getD Y1.toNat default).map (cI .i64)) :: .ref (Gb.c Y0) 0 :: .sl ((Y0.Me.Tr.getD Y1.toNat default).map (cI .i64)) :: .agg [.f .f32 ((Zr Y0.Me (Y0.Me.Tr.getD Y1.toNat default)).X), .f .f32 ((Zr Y0.Me (Y0.Me.Tr.getD Y1.toNat default)).Y), .f .f32 ((Zr Y0.Me (Y0.Me.Tr.getD Y1.toNat default)).Z)] :: .ref (Gb.c Y0) 0 :: .ref (Gb.c Y0) 0 :: .ref (Gb.c Y0) 3 :: .f .f32 Y0.Film :: .f .f32 (fop .mul .f32 1056964608 Y0.Film) :: .f .f32 (fneg .f32 (fop .mul .f32 1056964608 Y0.Film)) :: .agg [.f .f32 ((Zr Y0.Me (Y0.Me.Tr.getD Y1.toNat default)).X), .f .f32 ((Zr Y0.Me (Y0.Me.Tr.getD Y1.toNat default)).Y), .f .f32 ((Zr Y0.Me (Y0.Me.Tr.getD Y1.toNat default)).Z)] :: .f .f32 (Z2w (Zr Y0.Me (Y0.Me.Tr.getD Y1.toNat default))) :: .f .f32 (Z2Y Y0 Y1) :: an 168 []))),[.vec 40 3 (YD.map Gv.c) false, .box 40 [.f .f32 ((Zr Y0.Me (Y0.Me.Tr.getD Y1.toNat default)).X), .f .f32 ((Zr Y0.Me (Y0.Me.Tr.getD Y1.toNat default)).Y), .f .f32 ((Zr Y0.Me (Y0.Me.Tr.getD Y1.toNat default)).Z)]]⟩
def Z8R:List Bool:=(mR false [0,1,1,3,4,5,6,13,52,27,168])
def ZcY:List Bool:=(mR false [0,1,1,3,4,4,7,13,52,27,168])
set_option maxHeartbeats 1000000 in
theorem ZdZ (Y0:Gb) (Y1:Int) (Ye:(List Gv)) (hp0:Y0.Me.Pq.length≤1073741824) (hp1:Y0.Me.Tr.length≤1073741824) (hp2:∀ t∈Y0.Me.Tr,t.length≤1073741824) (hp3:Y0.Sp.length≤1073741824) (hp4:Y0.We.length≤1073741824) (hp5:OkBd Y0) (Z5c:0≤Y1) (Z5d:Ye.length=Y0.Me.Pq.length) (Z25:(decide (Y1 < (Y0.Me.Tr.length:Int)))=true):∀ (k:Nat) (Yh:Int) (YD:(List Gv)) (Z8S:0≤Yh) (Z8T:YD.length=Ye.length) (hk:((3:Int) - Yh).toNat < k),Lp prog 0 (sub (X0 f51) [1,1,1,1,0,1,0,0,1,1,0,0,1,1,1,1,1,0,0]) (Zae Y0 Y1 Ye Yh YD) (Z79 Y0 Y1 Ye (Z13 Y0 Y1 Ye k Yh YD)).1 (Z79 Y0 Y1 Ye (Z13 Y0 Y1 Ye k Yh YD)).2:=by
 intro k
 induction k with
 | zero=>intro Yh YD Z8S Z8T hk;exact absurd hk (Nat.not_lt_zero _)
 | succ k ih =>
  intro Yh YD Z8S Z8T hk
  cases YS:(decide (Yh < 3)) with
  | true =>
   have YW:=odt YS
   have Y1c:(-9223372036854775808:Int)≤(Yh + 2):=(by omega)
   have Y1g:(Yh + 2)≤(9223372036854775807:Int):=(by omega)
   have Y1e:(0:Int)≤(Int.tmod (Yh + 2) 3):=(by have q:=Z2S hp5.e (by assumption) (odt Z25) (by assumption) YW;omega)
   have Y19:(Int.tmod (Yh + 2) 3) < ((Y0.Me.Tr.getD Y1.toNat default).length:Int):=(by have q:=Z2S hp5.e (by assumption) (odt Z25) (by assumption) YW;omega)
   have Y1f:(0:Int)≤((Y0.Me.Tr.getD Y1.toNat default).getD (Int.tmod (Yh + 2) 3).toNat default):=(by have q:=Z2S hp5.e (by assumption) (odt Z25) (by assumption) YW;omega)
   have Y1n:((Y0.Me.Tr.getD Y1.toNat default).getD (Int.tmod (Yh + 2) 3).toNat default) < (Y0.Me.Pq.length:Int):=(by have q:=Z2S hp5.e (by assumption) (odt Z25) (by assumption) YW;omega)
   have Y1j:(-9223372036854775808:Int)≤(Yh + 1):=(by omega)
   have Y1w:(Yh + 1)≤(9223372036854775807:Int):=(by omega)
   have Y1I:(0:Int)≤(Int.tmod (Yh + 1) 3):=(by have q:=Z2S hp5.e (by assumption) (odt Z25) (by assumption) YW;omega)
   have Y1O:(Int.tmod (Yh + 1) 3) < ((Y0.Me.Tr.getD Y1.toNat default).length:Int):=(by have q:=Z2S hp5.e (by assumption) (odt Z25) (by assumption) YW;omega)
   have Y1J:(0:Int)≤((Y0.Me.Tr.getD Y1.toNat default).getD (Int.tmod (Yh + 1) 3).toNat default):=(by have q:=Z2S hp5.e (by assumption) (odt Z25) (by assumption) YW;omega)
   have Y1K:((Y0.Me.Tr.getD Y1.toNat default).getD (Int.tmod (Yh + 1) 3).toNat default) < (Y0.Me.Pq.length:Int):=(by have q:=Z2S hp5.e (by assumption) (odt Z25) (by assumption) YW;omega)
   have Y1D:(0:Int)≤Yh:=(by assumption)
   have Y1E:Yh < ((Y0.Me.Tr.getD Y1.toNat default).length:Int):=(by have q:=Z2S hp5.e (by assumption) (odt Z25) (by assumption) YW;omega)
   have Y1F:(0:Int)≤((Y0.Me.Tr.getD Y1.toNat default).getD Yh.toNat default):=(by have q:=Z2S hp5.e (by assumption) (odt Z25) (by assumption) YW;omega)
   have Y1G:((Y0.Me.Tr.getD Y1.toNat default).getD Yh.toNat default) < (YD.length:Int):=(by have q:=Z2S hp5.e (by assumption) (odt Z25) (by assumption) YW;omega)
   have Y1H:((Y0.Me.Tr.getD Y1.toNat default).getD Yh.toNat default).toNat < YD.length:=(by omega)
   have e:Z13 Y0 Y1 Ye (k + 1) Yh YD=(Z13 Y0 Y1 Ye k (Yh + 1) (YD.set (((Y0.Me.Tr.getD Y1.toNat default).getD Yh.toNat default).toNat) (Z2z Y0 Y1 Yh YD))):=by simp only [Z13,YS,cond_true]
   rw [e]
   exact X9 E0Ok Z7 [] Z8R [0,1] (⟨.ref (Gb.c Y0) 0 :: .any :: .nils :: .ref (Gb.c Y0) 0 :: .own 0 :: an 4 (.i .i64 Y1 :: .sl ((Y0.Me.Tr.getD Y1.toNat default).map (cI .i64)) :: .ptr 1 0 0 :: .f .f32 (Z2Y Y0 Y1) :: .i .i64 (Yh + 1) :: an 6 (.ref (Gb.c Y0) 0 :: .ref (Gb.c Y0) 0 :: .ref (Gb.c Y0) 0 :: .ref (Gb.c Y0) 0 :: .ref (Gb.c Y0) 0 :: .ref (Gb.c Y0) 0 :: .sl (Y0.Me.Pq.map Gv.c) :: .i .i64 (Y0.Me.Pq.length:Int) :: .own 0 :: .ref (Gb.c Y0) 0 :: .ref (Gb.c Y0) 0 :: .ref (Gb.c Y0) 2 :: .sl (Y0.Sp.map Gs.c) :: an 52 (.ref (Gb.c Y0) 0 :: .ref (Gb.c Y0) 0 :: .ref (Gb.c Y0) 1 :: .sl (Y0.Me.Tr.map (cL (cI .i64))) :: .i .i64 (Y0.Me.Tr.length:Int) :: .i .i64 Y1 :: .b (decide (Y1 < (Y0.Me.Tr.length:Int))) :: .i .i64 Y1 :: .ref (Gb.c Y0) 0 :: .ref (Gb.c Y0) 0 :: .ref (Gb.c Y0) 1 :: .sl (Y0.Me.Tr.map (cL (cI .i64))) :: .i .i64 Y1 :: .ref [.sl ((Y0.Me.Tr.getD Y1.toNat default).map (cI .i64))] 0 :: .sl ((Y0.Me.Tr.getD Y1.toNat default).map (cI .i64)) :: .ref (Gb.c Y0) 0 :: .sl ((Y0.Me.Tr.getD Y1.toNat default).map (cI .i64)) :: .agg [.f .f32 ((Zr Y0.Me (Y0.Me.Tr.getD Y1.toNat default)).X), .f .f32 ((Zr Y0.Me (Y0.Me.Tr.getD Y1.toNat default)).Y), .f .f32 ((Zr Y0.Me (Y0.Me.Tr.getD Y1.toNat default)).Z)] :: .ref (Gb.c Y0) 0 :: .ref (Gb.c Y0) 0 :: .ref (Gb.c Y0) 3 :: .f .f32 Y0.Film :: .f .f32 (fop .mul .f32 1056964608 Y0.Film) :: .f .f32 (fneg .f32 (fop .mul .f32 1056964608 Y0.Film)) :: .agg [.f .f32 ((Zr Y0.Me (Y0.Me.Tr.getD Y1.toNat default)).X), .f .f32 ((Zr Y0.Me (Y0.Me.Tr.getD Y1.toNat default)).Y), .f .f32 ((Zr Y0.Me (Y0.Me.Tr.getD Y1.toNat default)).Z)] :: .f .f32 (Z2w (Zr Y0.Me (Y0.Me.Tr.getD Y1.toNat default))) :: .f .f32 (Z2Y Y0 Y1) :: an 168 []))),[.vec 40 3 ((YD.map Gv.c).set (((Y0.Me.Tr.getD Y1.toNat default).getD Yh.toNat default).toNat) [.f .f32 ((Z2z Y0 Y1 Yh YD).X), .f .f32 ((Z2z Y0 Y1 Yh YD).Y), .f .f32 ((Z2z Y0 Y1 Yh YD).Z)]) false, .box 40 [.f .f32 ((Zr Y0.Me (Y0.Me.Tr.getD Y1.toNat default)).X), .f .f32 ((Zr Y0.Me (Y0.Me.Tr.getD Y1.toNat default)).Y), .f .f32 ((Zr Y0.Me (Y0.Me.Tr.getD Y1.toNat default)).Z)]]⟩) (sB YS<|sK [26,26]<|sI (Yh + 2) Y1c Y1g<|sC (show (3:Int)≠0 from (by decide))<|sQ (Int.tmod (Yh + 2) 3)<|sG (cI .i64) (Y0.Me.Tr.getD Y1.toNat default) (Int.tmod (Yh + 2) 3) Y1e Y19<|sG Gv.c Y0.Me.Pq ((Y0.Me.Tr.getD Y1.toNat default).getD (Int.tmod (Yh + 2) 3).toNat default) Y1f Y1n<|sI (Yh + 1) Y1j Y1w<|sC (show (3:Int)≠0 from (by decide))<|sQ (Int.tmod (Yh + 1) 3)<|sG (cI .i64) (Y0.Me.Tr.getD Y1.toNat default) (Int.tmod (Yh + 1) 3) Y1I Y1O<|sG Gv.c Y0.Me.Pq ((Y0.Me.Tr.getD Y1.toNat default).getD (Int.tmod (Yh + 1) 3).toNat default) Y1J Y1K<|sF (Z5D (Y0.Me.Pq.getD ((Y0.Me.Tr.getD Y1.toNat default).getD (Int.tmod (Yh + 2) 3).toNat default).toNat default) (Y0.Me.Pq.getD ((Y0.Me.Tr.getD Y1.toNat default).getD (Int.tmod (Yh + 1) 3).toNat default).toNat default))<|sK [18,18]<|sG (cI .i64) (Y0.Me.Tr.getD Y1.toNat default) Yh Y1D Y1E<|sG (cI .i64) (Y0.Me.Tr.getD Y1.toNat default) Yh Y1D Y1E<|sX Gv.c YD ((Y0.Me.Tr.getD Y1.toNat default).getD Yh.toNat default) Y1F Y1G<|sV Gv.c YD (((Y0.Me.Tr.getD Y1.toNat default).getD Yh.toNat default).toNat) Y1H<|sF (Zcs (Zr Y0.Me (Y0.Me.Tr.getD Y1.toNat default)) (Z78 Y0 Y1 Yh))<|sF (Z3y (Z59 (Zr Y0.Me (Y0.Me.Tr.getD Y1.toNat default)) (Z78 Y0 Y1 Yh)) (Z2Y Y0 Y1))<|sF (Z3w (YD.getD (((Y0.Me.Tr.getD Y1.toNat default).getD Yh.toNat default).toNat) default) (Z5J Y0 Y1 Yh))<|sX Gv.c YD ((Y0.Me.Tr.getD Y1.toNat default).getD Yh.toNat default) Y1F Y1G<|sC (Xl (c:=Gv.c) (l:=YD) Y1H)<|sI (Yh + 1) Y1j Y1w<|sN) (by kernel_rfl) (by simp [Zae,List.map_set,Gv.c]) (ih (Yh + 1) (YD.set (((Y0.Me.Tr.getD Y1.toNat default).getD Yh.toNat default).toNat) (Z2z Y0 Y1 Yh YD)) (show 0≤(Yh + 1) from (by omega)) (show (YD.set (((Y0.Me.Tr.getD Y1.toNat default).getD Yh.toNat default).toNat) (Z2z Y0 Y1 Yh YD)).length=Ye.length from (by have q:=Z2S hp5.e (by assumption) (odt Z25) (by assumption) YW;(simp only [List.length_set];omega))) (by omega))
  | false =>
   have YW:=odf YS
   have e:Z13 Y0 Y1 Ye (k + 1) Yh YD=YD:=by simp only [Z13,YS,cond_false]
   rw [e]
   exact outR (e:=(.exit 4)) E0Ok Z7 [] ZcY [0,1] (sB YS<|sN) (by kernel_rfl) (by intro h;cases h)
end Go.Ab
