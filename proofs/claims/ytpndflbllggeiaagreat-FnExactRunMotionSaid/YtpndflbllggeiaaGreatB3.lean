/- The functions of this seat as plain Lean, and that the program's are these. Printed by a program of the prover's own. -/
import Derived.Test.YtpndflbllggeiaaGreatB2
set_option linter.unusedVariables false
set_option linter.unusedSimpArgs false
set_option maxRecDepth 100000
namespace Go.Ab
open Go.RowKit Go.Proofs.Tryz
def Z3p (Y3:Gm) (YN:Int) (Yd:(List (List Int))):(List (List Int)):=(Z1m Y3 YN Yd (((Y3.Pq.length:Int) - (YN + 1)).toNat + 1) (YN + 1) Yd)
theorem ZiR (m:Gm) (a:Int) (r1:List (List Int)):∀ (k:Nat) (b:Int) (r:List (List Int)),(Z1m m a r1 k b r).length≤r.length + k:=by
  intro k
  induction k with
  | zero => intro b r; exact Nat.zero_le _
  | succ k ih =>
    intro b r
    rw [Z1m]
    cases decide (b < (m.Pq.length:Int)) with
    | false => rw [cond_false]; omega
    | true =>
      rw [cond_true]
      cases ((ZQ m).getD ((IntKind.wrap .i64 ((IntKind.wrap .i64 (a * (m.Pq.length:Int))) + b)).toNat) default) with
      | true => rw [cond_true]; have:=ih (b + 1) (r ++ [[a,b]]); simp only [List.length_append,List.length_cons,List.length_nil] at this; omega
      | false => rw [cond_false]; have:=ih (b + 1) r; omega
def Z34 (Y3:Gm):Nat→Int→(List (List Int))→(List (List Int))
  | 0,_,_ => default
  | k + 1,YN,Yd => (cond (decide (YN < (Y3.Pq.length:Int)))
    (Z34 Y3 k (YN + 1) (Z3p Y3 YN Yd))
    Yd)
def Z7o (Y3:Gm) (r:(List (List Int))):Ex × St:=((.exit 4),⟨.ref (Gm.c Y3) 0 :: .any :: .nils :: .i .i64 (Y3.Pq.length:Int) :: .own 0 :: an 5 (.own 1 :: .any :: .any :: .ref (Gm.c Y3) 0 :: .ref (Gm.c Y3) 0 :: .ref (Gm.c Y3) 0 :: .sl (Y3.Pq.map Gv.c) :: .i .i64 (Y3.Pq.length:Int) :: .i .i64 (Y3.Pq.length:Int) :: .i .i64 (Y3.Pq.length:Int) :: .i .i64 (IntKind.wrap .i64 ((Y3.Pq.length:Int) * (Y3.Pq.length:Int))) :: .own 0 :: an 69 []),[.vec 4 1 ((ZQ Y3).map cB) false, .nest 49 (r.map fun l => l.map (cI .i64)) false]⟩)
def Zar (Y3:Gm) (YN:Int) (Yd:(List (List Int))):St:=⟨.ref (Gm.c Y3) 0 :: .any :: .nils :: .i .i64 (Y3.Pq.length:Int) :: .own 0 :: an 5 (.own 1 :: .i .i64 YN :: .any :: .ref (Gm.c Y3) 0 :: .ref (Gm.c Y3) 0 :: .ref (Gm.c Y3) 0 :: .sl (Y3.Pq.map Gv.c) :: .i .i64 (Y3.Pq.length:Int) :: .i .i64 (Y3.Pq.length:Int) :: .i .i64 (Y3.Pq.length:Int) :: .i .i64 (IntKind.wrap .i64 ((Y3.Pq.length:Int) * (Y3.Pq.length:Int))) :: .own 0 :: an 69 []),[.vec 4 1 ((ZQ Y3).map cB) false, .nest 49 (Yd.map fun l => l.map (cI .i64)) false]⟩
theorem Zen (Y3:Gm) (hp0:Y3.Pq.length≤1073741824) (hp1:Y3.Tr.length≤1073741824) (hp2:∀ t∈Y3.Tr,t.length≤1073741824) (hp3:OkE Y3.Pq.length Y3.Tr):∀ (k:Nat) (YN:Int) (Yd:(List (List Int))) (Z5f:0≤YN) (Z5g:(Yd.length:Int)≤64 * YN) (hk:((Y3.Pq.length:Int) - YN).toNat < k),Lp prog 0 (sub (X0 f137) [1,1,1,1,1,0,1,0,0]) (Zar Y3 YN Yd) (Z7o Y3 (Z34 Y3 k YN Yd)).1 (Z7o Y3 (Z34 Y3 k YN Yd)).2:=by
 intro k
 induction k with
 | zero => intro YN Yd Z5f Z5g hk; exact absurd hk (Nat.not_lt_zero _)
 | succ k ih =>
  intro YN Yd Z5f Z5g hk
  cases Yn:(decide (YN < (Y3.Pq.length:Int))) with
  | true =>
   have YM:=odt Yn
   have YS:(-9223372036854775808:Int)≤(YN + 1):=(by omega)
   have YT:(YN + 1)≤(9223372036854775807:Int):=(by omega)
   have e:Z34 Y3 (k + 1) YN Yd=(Z34 Y3 k (YN + 1) (Z3p Y3 YN Yd)):=by simp only [Z34,Yn,cond_true]
   rw [e]
   exact X9 E0Ok Z4 [] (mR false [0,1,1,3,5,2,1,9,69]) [0,1] (ih (YN + 1) (Z3p Y3 YN Yd) (show 0≤(YN + 1) from (by omega)) (show ((Z3p Y3 YN Yd).length:Int)≤64 * (YN + 1) from (by ((have:=hp3.1; have g4:=odt Yn; have q:=ZiR Y3 YN Yd (((Y3.Pq.length:Int) - (YN + 1)).toNat + 1) (YN + 1) Yd; unfold Z3p; omega)))) (by omega)) (sB Yn <| sI (YN + 1) YS YT <| sL Z6m 2 (X1 (Z7n Y3 YN Yd) (x:=(Z3p Y3 YN Yd)) (Zem Y3 YN Yd hp0 hp1 hp2 hp3 Z5f Z5g Yn (((Y3.Pq.length:Int) - (YN + 1)).toNat + 1) (YN + 1) Yd (show YN < (YN + 1) from (by omega)) (show (Yd.length:Int)≤(Yd.length:Int) + (YN + 1) from (by omega)) (Nat.lt_succ_self _)) rfl) <| sI (YN + 1) YS YT <| sN) (by kernel_rfl)
  | false =>
   have YM:=odf Yn
   have e:Z34 Y3 (k + 1) YN Yd=Yd:=by simp only [Z34,Yn,cond_false]
   rw [e]
   exact outR (e:=(.exit 4)) E0Ok Z4 [] (mR false [0,1,1,3,5,1,2,9,69]) [0,1] (sB Yn <| sN) (by kernel_rfl) (by intro h; cases h)
def Z5i (Y3:Gm):(List (List Int)):=(Z34 Y3 (((Y3.Pq.length:Int) - 0).toNat + 1) 0 ([]:List (List Int)))
def Z8 (Y3:Gm):(List (List Int)):=(Z5i Y3)
theorem ZiI (m:Gm) (i:Int) (r:List Bool):Z2n m i r=((r.set (IntKind.wrap .i64 (IntKind.wrap .i64 (Z3B ((m.Tr.getD i.toNat default).getD 0 default) ((m.Tr.getD i.toNat default).getD 1 default) * (m.Pq.length:Int)) + Z3C ((m.Tr.getD i.toNat default).getD 0 default) ((m.Tr.getD i.toNat default).getD 1 default))).toNat true).set (IntKind.wrap .i64 (IntKind.wrap .i64 (Z3B ((m.Tr.getD i.toNat default).getD 1 default) ((m.Tr.getD i.toNat default).getD 2 default) * (m.Pq.length:Int)) + Z3C ((m.Tr.getD i.toNat default).getD 1 default) ((m.Tr.getD i.toNat default).getD 2 default))).toNat true).set (IntKind.wrap .i64 (IntKind.wrap .i64 (Z3B ((m.Tr.getD i.toNat default).getD 2 default) ((m.Tr.getD i.toNat default).getD 0 default) * (m.Pq.length:Int)) + Z3C ((m.Tr.getD i.toNat default).getD 2 default) ((m.Tr.getD i.toNat default).getD 0 default))).toNat true:=by
  have one:∀ (r0:List Bool) (k:Nat) (x:Int) (s:List Bool),x < 3→ZX m i r0 (k + 1) x s=ZX m i r0 k (x + 1) (s.set (IntKind.wrap .i64 (IntKind.wrap .i64 (Z1B m i x * (m.Pq.length:Int)) + Z1S m i x)).toNat true):=by
    intro r0 k x s hx
    rw [ZX,decide_eq_true hx,cond_true]
  unfold Z2n
  show ZX m i r 4 0 r=_
  rw [one r 3 0 r (by omega),one r 2 (0 + 1) _ (by omega),one r 1 (0 + 1 + 1) _ (by omega),ZX]
  show cond (decide ((3:Int) < 3)) _ _=_
  rw [decide_eq_false (by omega),cond_false]
  rfl
theorem ZiJ (m:Gm) (ok:OkE m.Pq.length m.Tr) {a b:Int} (ha:0≤a) (hab:a < b) (hb:b < (m.Pq.length:Int)):∀ (k:Nat) (i:Nat) (r:List Bool),i≤m.Tr.length→((m.Tr.length:Int) - i).toNat < k→r.length=(IntKind.wrap .i64 ((m.Pq.length:Int) * (m.Pq.length:Int))).toNat →
    (Z1l m k i r).getD (IntKind.wrap .i64 (IntKind.wrap .i64 (a * (m.Pq.length:Int)) + b)).toNat default=(r.getD (IntKind.wrap .i64 (IntKind.wrap .i64 (a * (m.Pq.length:Int)) + b)).toNat default || (m.Tr.drop i).any fun t => tHas t a b):=by
  intro k
  induction k with
  | zero => intro i r _ hk; exact absurd hk (Nat.not_lt_zero _)
  | succ k ih =>
    intro i r hle hk hr
    rw [Z1l]
    by_cases hi:(i:Int) < (m.Tr.length:Int)
    · have hn:i < m.Tr.length:=by omega
      rw [decide_eq_true hi,cond_true]
      have:=ih (i + 1) (Z2n m i r) (by omega) (by omega) (by rw [ZaY]; exact hr)
      rw [show ((i:Int) + 1)=((i + 1:Nat):Int) from by omega,this,ZiI,List.drop_eq_getElem_cons hn,List.any_cons]
      have hg:m.Tr.getD ((i:Nat):Int).toNat default=m.Tr[i]:=by rw [show ((i:Nat):Int).toNat=i from by omega,List.getD_eq_getElem?_getD,List.getElem?_eq_getElem hn]; rfl
      obtain ⟨x,y,z,ht,r1,r2,r3,n1,n2,n3⟩:=ok.2.2 _ (List.getElem_mem hn)
      have h64:(m.Pq.length:Int)≤64:=by have:=ok.1; omega
      rw [hg,ht]
      simp only [List.getD_cons_zero,List.getD_cons_succ]
      rw [X3H h64 (ZcY z x) (ZbJ r3 r1) (ZbK r3 r1) ha hab hb (by simpa using hr),X3H h64 (ZcY y z) (ZbJ r2 r3) (ZbK r2 r3) ha hab hb (by simpa using hr),X3H h64 (ZcY x y) (ZbJ r1 r2) (ZbK r1 r2) ha hab hb hr]
      have hT:=X3Z n1 n2 n3 hab
      unfold tE at hT
      simp only [List.getD_cons_zero,List.getD_cons_succ,List.mem_cons,List.not_mem_nil,or_false] at hT
      generalize r.getD (IntKind.wrap .i64 (IntKind.wrap .i64 (a * (m.Pq.length:Int)) + b)).toNat default=q
      generalize ((m.Tr.drop (i + 1)).any fun t => tHas t a b)=q2
      have hB:tHas [x,y,z] a b=(decide ((⟨a,b⟩:Gedge)=mkE x y) || (decide ((⟨a,b⟩:Gedge)=mkE y z) || decide ((⟨a,b⟩:Gedge)=mkE z x))):=by
        rw [Bool.eq_iff_iff,← hT]; simp only [Bool.or_eq_true,decide_eq_true_eq]
      rw [hB]
      cases decide ((⟨a,b⟩:Gedge)=mkE x y) <;> cases decide ((⟨a,b⟩:Gedge)=mkE y z) <;> cases decide ((⟨a,b⟩:Gedge)=mkE z x) <;> cases q <;> cases q2 <;> rfl
    · rw [decide_eq_false hi,cond_false,List.drop_eq_nil_of_le (by omega)]; simp
theorem ZiS (m:Gm) (ok:OkE m.Pq.length m.Tr) {a b:Int} (ha:0≤a) (hab:a < b) (hb:b < (m.Pq.length:Int)) :
    (ZQ m).getD (IntKind.wrap .i64 (IntKind.wrap .i64 (a * (m.Pq.length:Int)) + b)).toNat default=m.Tr.any fun t => tHas t a b:=by
  unfold ZQ
  have:=ZiJ m ok ha hab hb (((m.Tr.length:Int) - 0).toNat + 1) 0 (List.replicate (IntKind.wrap .i64 ((m.Pq.length:Int) * (m.Pq.length:Int))).toNat false) (Nat.zero_le _) (by omega) (by simp)
  rw [List.drop_zero] at this
  refine this.trans ?_
  rw [List.getD_eq_getElem?_getD,List.getElem?_replicate]
  split <;> simp
theorem Zcn (m:Gm) (ok:OkE m.Pq.length m.Tr):Z8 m=(edgL m.Pq.length m.Tr).map e2:=by
  rw [X7A]
  unfold Z8 Z5i
  refine X7b (n:=m.Pq.length) (p:=fun a b => m.Tr.any fun t => tHas t a b) (g:=fun a b => e2 ⟨a,b⟩) (lo:=Z34 m) (li:=Z3p m) (fun k a r => rfl) (fun a r ha => ?_) _ 0 (Nat.zero_le _) (by omega)
  unfold Z3p
  have hf:=X4y (n:=(m.Pq.length:Int)) (f:=fun b => !((ZQ m).getD ((IntKind.wrap .i64 ((IntKind.wrap .i64 ((a:Int) * (m.Pq.length:Int))) + b)).toNat) default)) (g:=fun b => [(a:Int),b]) (lo:=Z1m m a r) (fun k i r' => by
    rw [Z1m]
    cases ((ZQ m).getD ((IntKind.wrap .i64 ((IntKind.wrap .i64 ((a:Int) * (m.Pq.length:Int))) + i)).toNat) default) <;> rfl) (((m.Pq.length:Int) - ((a:Int) + 1)).toNat + 1) ((a:Int) + 1) r (Nat.lt_succ_self _)
  rw [hf,show ((m.Pq.length:Int) - ((a:Int) + 1)).toNat=m.Pq.length - (a + 1) from by omega]
  congr 1
  have hfc:((List.range (m.Pq.length - (a + 1))).filter fun (j:Nat) => !(!((ZQ m).getD ((IntKind.wrap .i64 ((IntKind.wrap .i64 ((a:Int) * (m.Pq.length:Int))) + ((a:Int) + 1 + (j:Int)))).toNat) default)))=(List.range (m.Pq.length - (a + 1))).filter fun (j:Nat) => m.Tr.any fun t => tHas t a ((a:Int) + 1 + j):=by
    refine List.filter_congr fun j hj => ?_
    rw [List.mem_range] at hj
    rw [Bool.not_not,ZiS m ok (by omega) (by omega) (by omega)]
  rw [hfc]
  rfl
theorem Zho (m:Gm) (ok:OkE m.Pq.length m.Tr):(Z8 m).length≤4096:=by
  rw [Zcn m ok,List.length_map]; exact X30 ok
theorem Z5t (m:Gm) (ok:OkE m.Pq.length m.Tr) {i:Int} (h0:0≤i) (hi:i < ((Z8 m).length:Int)) :
    ((Z8 m).getD i.toNat default).length=2∧0≤((Z8 m).getD i.toNat default).getD 0 default∧((Z8 m).getD i.toNat default).getD 0 default < ((Z8 m).getD i.toNat default).getD 1 default∧((Z8 m).getD i.toNat default).getD 1 default < (m.Pq.length:Int)∧(m.Pq.length:Int)≤64∧((Z8 m).length:Int)≤4096:=by
  have hl:=Zho m ok
  have h64:=ok.1
  rw [Zcn m ok] at hi hl ⊢
  rw [List.length_map] at hi hl
  have hn:i.toNat < (edgL m.Pq.length m.Tr).length:=by omega
  have hg:((edgL m.Pq.length m.Tr).map e2).getD i.toNat default=e2 (edgL m.Pq.length m.Tr)[i.toNat]:=by rw [List.getD_eq_getElem?_getD,List.getElem?_map,List.getElem?_eq_getElem hn]; rfl
  have hb:=X4g (List.getElem_mem hn)
  rw [hg,List.length_map]
  exact ⟨rfl,hb.1,hb.2.1,hb.2.2,by omega,by omega⟩
theorem Zg3 (Y3:Gm) (hp0:Y3.Pq.length≤1073741824) (hp1:Y3.Tr.length≤1073741824) (hp2:∀ t∈Y3.Tr,t.length≤1073741824) (hp3:OkE Y3.Pq.length Y3.Tr)  : Fn prog 137 [.ref (Gm.c Y3) 0] (.own 0) [.nest 49 ((Z8 Y3).map fun l => l.map (cI .i64)) false]:=by
 have y0:(0:Int)≤(IntKind.wrap .i64 ((Y3.Pq.length:Int) * (Y3.Pq.length:Int))):=(by (have q2:=ixN hp3.1; omega))
 have y1:((IntKind.wrap .i64 ((Y3.Pq.length:Int) * (Y3.Pq.length:Int))):Int)≤2147483648:=(by (have q2:=ixN hp3.1; omega))
 refine fnS E0Ok Z4 (c:=X0 f137) [] (.own 0) [.nest 49 ((Z5i Y3).map fun l => l.map (cI .i64)) false] func137 (sZ Gv.c Y3.Pq <| sW .i64 ((Y3.Pq.length:Int) * (Y3.Pq.length:Int)) <| sC (show (IntKind.wrap .i64 ((Y3.Pq.length:Int) * (Y3.Pq.length:Int)))=(IntKind.wrap .i64 ((Y3.Pq.length:Int) * (Y3.Pq.length:Int))) from rfl) <| sC y0 <| sC y1 <| sL (mR false [0,1,1,4,7,9,69]) 1 (Xj (st2:=⟨.ref (Gm.c Y3) 0 :: .any :: .nils :: .i .i64 (Y3.Pq.length:Int) :: .own 0 :: .i .i64 0 :: an 7 (.ref (Gm.c Y3) 0 :: .ref (Gm.c Y3) 0 :: .ref (Gm.c Y3) 0 :: .sl (Y3.Pq.map Gv.c) :: .i .i64 (Y3.Pq.length:Int) :: .i .i64 (Y3.Pq.length:Int) :: .i .i64 (Y3.Pq.length:Int) :: .i .i64 (IntKind.wrap .i64 ((Y3.Pq.length:Int) * (Y3.Pq.length:Int))) :: .own 0 :: an 69 []),[.vec 4 1 (List.replicate (Int.toNat (IntKind.wrap .i64 ((Y3.Pq.length:Int) * (Y3.Pq.length:Int)))) [.b false]) false]⟩) (X1 (Z7m Y3) (x:=(ZQ Y3)) (Zel Y3 hp0 hp1 hp2 hp3 (((Y3.Tr.length:Int) - 0).toNat + 1) 0 (List.replicate (IntKind.wrap .i64 ((Y3.Pq.length:Int) * (Y3.Pq.length:Int))).toNat false) (show 0≤0 from (by omega)) (show (List.replicate (IntKind.wrap .i64 ((Y3.Pq.length:Int) * (Y3.Pq.length:Int))).toNat false).length=(IntKind.wrap .i64 ((Y3.Pq.length:Int) * (Y3.Pq.length:Int))).toNat from (by simp)) (Nat.lt_succ_self _)) rfl) (by simp [Zap,cB])) <| sL (mR false [0,1,1,3,5,2,1,9,69]) 2 (Xj (st2:=⟨.ref (Gm.c Y3) 0 :: .any :: .nils :: .i .i64 (Y3.Pq.length:Int) :: .own 0 :: an 5 (.own 1 :: .i .i64 0 :: .any :: .ref (Gm.c Y3) 0 :: .ref (Gm.c Y3) 0 :: .ref (Gm.c Y3) 0 :: .sl (Y3.Pq.map Gv.c) :: .i .i64 (Y3.Pq.length:Int) :: .i .i64 (Y3.Pq.length:Int) :: .i .i64 (Y3.Pq.length:Int) :: .i .i64 (IntKind.wrap .i64 ((Y3.Pq.length:Int) * (Y3.Pq.length:Int))) :: .own 0 :: an 69 []),[.vec 4 1 ((ZQ Y3).map cB) false, .nest 49 [] false]⟩) (X1 (Z7o Y3) (x:=(Z5i Y3)) (Zen Y3 hp0 hp1 hp2 hp3 (((Y3.Pq.length:Int) - 0).toNat + 1) 0 ([]:List (List Int)) (show 0≤0 from (by omega)) (show (([]:List (List Int)).length:Int)≤64 * 0 from (by simp)) (Nat.lt_succ_self _)) rfl) (by simp [Zar,cL,cI])) <| sK [1] sN) rfl (by kernel_rfl) (by kernel_rfl) rfl ?_ ?_
 · rfl
 · simp [Z8]
def Z2o (Yu:(List Int)) (n_1:Int):Nat→Int→(Unit) ⊕ (Unit)
  | 0,_ => .inl default
  | k + 1,Yc => (cond (decide (Yc < (Yu.length:Int)))
    (cond ((Yu.getD Yc.toNat default) == n_1)
      (.inl ())
      (Z2o Yu n_1 k (Yc + 1)))
    (.inr ()))
def Z6n (Yu:(List Int)) (n_1:Int):(Unit) ⊕ (Unit)→Ex × St
  | .inl r => (.ret,⟨an 4 (.b true :: an 13 []),[]⟩)
  | .inr r => ((.exit 0),⟨an 18 [],[]⟩)
def Zfz (Yu:(List Int)) (n_1:Int) (Yc:Int):St:=⟨.sl (Yu.map (cI .i64)) :: .i .i64 n_1 :: .any :: .any :: .any :: .i .i64 Yc :: an 12 [],[]⟩
theorem ZbL (Yu:(List Int)) (n_1:Int) (hp0:Yu.length≤1073741824):∀ (k:Nat) (Yc:Int) (Zas:0≤Yc) (hk:((Yu.length:Int) - Yc).toNat < k),Lp prog 0 (sub (X0 f127) [1,0,1,0,0]) (Zfz Yu n_1 Yc) (Z6n Yu n_1 (Z2o Yu n_1 k Yc)).1 (Z6n Yu n_1 (Z2o Yu n_1 k Yc)).2:=by
 intro k
 induction k with
 | zero => intro Yc Zas hk; exact absurd hk (Nat.not_lt_zero _)
 | succ k ih =>
  intro Yc Zas hk
  have p {a C} (s:Scr a C):=sZ (cI .i64) Yu <| s
  cases Yn:(decide (Yc < (Yu.length:Int))) with
  | true =>
   have YM:=odt Yn
   have YS:(0:Int)≤Yc:=by clear p; exact (by assumption)
   have YT:Yc < (Yu.length:Int):=by clear p; exact (by assumption)
   have q {a C} (s:Scr a C):=p (sB Yn <| sG (cI .i64) Yu Yc YS YT <| s)
   clear p
   cases YL:((Yu.getD Yc.toNat default) == n_1) with
   | true =>
    have Y1a:=eq_of_beq YL
    have e:Z2o Yu n_1 (k + 1) Yc=(.inl ()):=by simp only [Z2o,Yn,YL,cond_true]
    rw [e]
    exact outR (e := .ret) E0Ok Z4 [] (mR false [4,1,13]) [] (q (sB YL <| sN)) (by kernel_rfl) (by intro h; cases h)
   | false =>
    have Y1a:=ne_of_beq_false YL
    have YY:(-9223372036854775808:Int)≤(Yc + 1):=by clear q; exact (by omega)
    have YZ:(Yc + 1)≤(9223372036854775807:Int):=by clear q; exact (by omega)
    have e:Z2o Yu n_1 (k + 1) Yc=(Z2o Yu n_1 k (Yc + 1)):=by simp only [Z2o,Yn,YL,cond_true,cond_false]
    rw [e]
    exact X9 E0Ok Z4 [] (mR false [0,2,3,1,12]) [] (ih (Yc + 1) (show 0≤(Yc + 1) from (by omega)) (by omega)) (q (sB YL <| sI (Yc + 1) YY YZ <| sN)) (by kernel_rfl)
  | false =>
   have YM:=odf Yn
   have e:Z2o Yu n_1 (k + 1) Yc=(.inr ()):=by simp only [Z2o,Yn,cond_false]
   rw [e]
   exact outR (e:=(.exit 0)) E0Ok Z4 [] (mR false [18]) [] (p (sB Yn <| sN)) (by kernel_rfl) (by intro h; cases h)
def Z4r (Yu:(List Int)) (n_1:Int):(Unit) ⊕ (Unit):=(Z2o Yu n_1 (((Yu.length:Int) - 0).toNat + 1) 0)
def Z15 (Yu:(List Int)) (n_1:Int):Bool:=(match (Z4r Yu n_1) with
  | .inl r1 => true
  | .inr r1 => false)
theorem Zb0 (Yu:(List Int)) (n_1:Int) (hp0:Yu.length≤1073741824)  : Fn prog 127 [.sl (Yu.map (cI .i64)), .i .i64 n_1] (.b (Z15 Yu n_1)) []:=by
 cases h0:(Z4r Yu n_1) with
 | inl r1 =>
  refine fnS E0Ok Z4 (c:=X0 f127) [] (.b true) [] func127 (sL (mR false [0,2,3,1,12]) 0 (X1 (Z6n Yu n_1) (x:=(Z4r Yu n_1)) (ZbL Yu n_1 hp0 (((Yu.length:Int) - 0).toNat + 1) 0 (show 0≤0 from (by omega)) (Nat.lt_succ_self _)) h0) <| sK [] sN) rfl (by kernel_rfl) (by kernel_rfl) rfl ?_ ?_
  · simp only [Z15,h0]
  · rfl
 | inr r1 =>
  refine fnS E0Ok Z4 (c:=X0 f127) [] (.b false) [] func127 (sL (mR false [0,2,3,1,12]) 0 (X1 (Z6n Yu n_1) (x:=(Z4r Yu n_1)) (ZbL Yu n_1 hp0 (((Yu.length:Int) - 0).toNat + 1) 0 (show 0≤0 from (by omega)) (Nat.lt_succ_self _)) h0) <| sK [] sN) rfl (by kernel_rfl) (by kernel_rfl) rfl ?_ ?_
  · simp only [Z15,h0]
  · rfl
theorem Zim (l:List Int) (n:Int):Z15 l n=l.any fun v => v == n:=by
  unfold Z15 Z4r
  rw [X7v (a:=l) (p:=fun v => v == n) (lo:=Z2o l n) (x:=()) (y:=()) (fun k i => rfl)]
  cases (l.any fun v => v == n) <;> rfl
def Z1n (YV:(List Int)) (i_1:Int) (j_2:Int):Nat→Int→(Int) ⊕ (Unit)
  | 0,_ => .inl default
  | k + 1,Y1 => (cond (decide (Y1 < (YV.length:Int)))
    (cond ((YV.getD Y1.toNat default) != i_1)
      (cond ((YV.getD Y1.toNat default) != j_2)
        (.inl (YV.getD Y1.toNat default))
        (Z1n YV i_1 j_2 k (Y1 + 1)))
      (Z1n YV i_1 j_2 k (Y1 + 1)))
    (.inr ()))
def Z5N (YV:(List Int)) (i_1:Int) (j_2:Int):(Int) ⊕ (Unit)→Ex × St
  | .inl r => (.ret,⟨an 6 (.i .i64 r :: an 35 []),[]⟩)
  | .inr r => ((.exit 0),⟨.sl (YV.map (cI .i64)) :: .i .i64 i_1 :: .i .i64 j_2 :: an 5 (.sl (YV.map (cI .i64)) :: .i .i64 i_1 :: .b (Z15 YV i_1) :: .b (!(Z15 YV i_1)) :: .b (!(Z15 YV i_1)) :: .sl (YV.map (cI .i64)) :: .i .i64 j_2 :: .b (Z15 YV j_2) :: .b (!(Z15 YV j_2)) :: .b (!(Z15 YV j_2)) :: .sl (YV.map (cI .i64)) :: an 23 []),[]⟩)
def Zeo (YV:(List Int)) (i_1:Int) (j_2:Int) (Y1:Int):St:=⟨.sl (YV.map (cI .i64)) :: .i .i64 i_1 :: .i .i64 j_2 :: an 5 (.sl (YV.map (cI .i64)) :: .i .i64 i_1 :: .b (Z15 YV i_1) :: .b (!(Z15 YV i_1)) :: .b (!(Z15 YV i_1)) :: .sl (YV.map (cI .i64)) :: .i .i64 j_2 :: .b (Z15 YV j_2) :: .b (!(Z15 YV j_2)) :: .b (!(Z15 YV j_2)) :: .sl (YV.map (cI .i64)) :: .i .i64 (YV.length:Int) :: .i .i64 Y1 :: an 21 []),[]⟩
theorem Zat (YV:(List Int)) (i_1:Int) (j_2:Int) (hp0:YV.length≤1073741824):∀ (k:Nat) (Y1:Int) (Z99:0≤Y1) (hk:((YV.length:Int) - Y1).toNat < k),Lp prog 0 (sub (X0 f138) [1,1,0,1,0,0]) (Zeo YV i_1 j_2 Y1) (Z5N YV i_1 j_2 (Z1n YV i_1 j_2 k Y1)).1 (Z5N YV i_1 j_2 (Z1n YV i_1 j_2 k Y1)).2:=by
 intro k
 induction k with
 | zero => intro Y1 Z99 hk; exact absurd hk (Nat.not_lt_zero _)
 | succ k ih =>
  intro Y1 Z99 hk
  cases Yn:(decide (Y1 < (YV.length:Int))) with
  | true =>
   have YM:=odt Yn
   have YS:(0:Int)≤Y1:=(by assumption)
   have YT:Y1 < (YV.length:Int):=(by assumption)
   have p {a C} (s:Scr a C):=sB Yn <| sG (cI .i64) YV Y1 YS YT <| s
   cases YL:((YV.getD Y1.toNat default) != i_1) with
   | true =>
    have Y1a:=bne_iff_ne.1 YL
    have q {a C} (s:Scr a C):=p (sB YL <| sB YL <| sB YL <| sG (cI .i64) YV Y1 YS YT <| sB YL <| sB YL <| sB YL <| sB YL <| s)
    clear p
    cases h_2:((YV.getD Y1.toNat default) != j_2) with
    | true =>
     have Y1p:=bne_iff_ne.1 h_2
     have e:Z1n YV i_1 j_2 (k + 1) Y1=(.inl (YV.getD Y1.toNat default)):=by simp only [Z1n,Yn,YL,h_2,cond_true]
     rw [e]
     exact outR (e := .ret) E0Ok Z4 [] (mR false [6,1,35]) [] (q (sB h_2 <| sG (cI .i64) YV Y1 YS YT <| sN)) (by kernel_rfl) (by intro h; cases h)
    | false =>
     have Y1p:=bne_eq_false_iff_eq.1 h_2
     have YY:(-9223372036854775808:Int)≤(Y1 + 1):=by clear q; exact (by omega)
     have YZ:(Y1 + 1)≤(9223372036854775807:Int):=by clear q; exact (by omega)
     have e:Z1n YV i_1 j_2 (k + 1) Y1=(Z1n YV i_1 j_2 k (Y1 + 1)):=by simp only [Z1n,Yn,YL,h_2,cond_true,cond_false]
     rw [e]
     exact X9 E0Ok Z4 [] (mR false [0,3,5,13,21]) [] (ih (Y1 + 1) (show 0≤(Y1 + 1) from (by omega)) (by omega)) (q (sB h_2 <| sI (Y1 + 1) YY YZ <| sN)) (by kernel_rfl)
   | false =>
    have Y1a:=bne_eq_false_iff_eq.1 YL
    have YY:(-9223372036854775808:Int)≤(Y1 + 1):=by clear p; exact (by omega)
    have YZ:(Y1 + 1)≤(9223372036854775807:Int):=by clear p; exact (by omega)
    have e:Z1n YV i_1 j_2 (k + 1) Y1=(Z1n YV i_1 j_2 k (Y1 + 1)):=by simp only [Z1n,Yn,YL,cond_true,cond_false]
    rw [e]
    exact X9 E0Ok Z4 [] (mR false [0,3,5,13,21]) [] (ih (Y1 + 1) (show 0≤(Y1 + 1) from (by omega)) (by omega)) (p (sB YL <| sB YL <| sB YL <| sB YL <| sB YL <| sB YL <| sB YL <| sB (show false=false from rfl) <| sI (Y1 + 1) YY YZ <| sN)) (by kernel_rfl)
  | false =>
   have YM:=odf Yn
   have e:Z1n YV i_1 j_2 (k + 1) Y1=(.inr ()):=by simp only [Z1n,Yn,cond_false]
   rw [e]
   exact outR (e:=(.exit 0)) E0Ok Z4 [] (mR false [0,3,5,11,23]) [] (sB Yn <| sN) (by kernel_rfl) (by intro h; cases h)
def Z4E (YV:(List Int)) (i_1:Int) (j_2:Int):(Int) ⊕ (Unit):=(Z1n YV i_1 j_2 (((YV.length:Int) - 0).toNat + 1) 0)
def Z3I (YV:(List Int)) (i_1:Int) (j_2:Int):Int:=(cond (Z15 YV i_1)
  (cond (Z15 YV j_2)
    (match (Z4E YV i_1 j_2) with
      | .inl r3 => r3
      | .inr r3 => (-1))
    (-1))
  (-1))
theorem ZhC {x y z a b:Int} (n1:x≠y) (n2:y≠z) (n3:x≠z) (hab:a≠b):Z3I [x,y,z] a b=if tHas [x,y,z] a b=true then thd [x,y,z] a b else -1:=by
  have hs:∀ c:Int,Z15 [x,y,z] c=(x == c || (y == c || z == c)):=by
    intro c
    unfold Z15 Z4r
    show (match Z2o [x,y,z] c 4 0 with | .inl r1 => true | .inr r1 => false)=_
    simp only [Z2o,List.length_cons,List.length_nil]
    cases h1:(x == c) <;> cases h2:(y == c) <;> cases h3:(z == c) <;> simp [h1,h2,h3]
  unfold Z3I
  rw [hs,hs]
  by_cases hh:tHas [x,y,z] a b=true
  · rw [if_pos hh]
    have hq:=hh
    unfold tHas at hq
    simp only [List.getD_cons_zero,List.getD_cons_succ,Bool.and_eq_true] at hq
    rw [hq.1,hq.2,cond_true,cond_true]
    unfold Z4E
    show (match Z1n [x,y,z] a b 4 0 with | .inl r3 => r3 | .inr r3 => (-1))=_
    simp only [Z1n,List.length_cons,List.length_nil]
    rcases X6e n1 n2 n3 hab hh with ⟨h0,h1,h2,h3,h4⟩ | ⟨h0,h1,h2,h3,h4⟩ | ⟨h0,h1,h2,h3,h4⟩
    · rw [h0]; simp [bne_iff_ne.2 h1,bne_iff_ne.2 h2]
    · rw [h0]
      rcases h3 with rfl | rfl
      · simp [bne_iff_ne.2 h1,bne_iff_ne.2 h2]
      · simp [bne_iff_ne.2 h1,bne_iff_ne.2 h2]
    · rw [h0]
      rcases h3 with rfl | rfl <;> rcases h4 with rfl | rfl <;> first | exact absurd rfl n1 | simp [bne_iff_ne.2 h1,bne_iff_ne.2 h2]
  · rw [if_neg hh]
    unfold tHas at hh
    simp only [List.getD_cons_zero,List.getD_cons_succ,Bool.and_eq_true,not_and,Bool.not_eq_true] at hh
    cases h1:(x == a || (y == a || z == a)) with
    | false => rfl
    | true => rw [hh h1]; rfl
theorem Zg4 (YV:(List Int)) (i_1:Int) (j_2:Int) (hp0:YV.length≤1073741824)  : Fn prog 138 [.sl (YV.map (cI .i64)), .i .i64 i_1, .i .i64 j_2] (.i .i64 (Z3I YV i_1 j_2)) []:=by
 have p {a C} (s:Scr a C):=sF (Zb0 YV i_1 hp0) <| s
 cases h0:(Z15 YV i_1) with
 | true =>
  have q {a C} (s:Scr a C):=p (sB' h0 <| sB' h0 <| sB' h0 <| sF (Zb0 YV j_2 hp0) <| sB' h0 <| sB' h0 <| s)
  clear p
  cases h1:(Z15 YV j_2) with
  | true =>
   have p {a C} (s:Scr a C):=q (sB' h1 <| sZ (cI .i64) YV <| s)
   clear q
   cases h2:(Z4E YV i_1 j_2) with
   | inl r3 =>
    refine fnS E0Ok Z4 (c:=X0 f138) [] (.i .i64 r3) [] func138 (p (sL (mR false [0,3,5,13,21]) 0 (X1 (Z5N YV i_1 j_2) (x:=(Z4E YV i_1 j_2)) (Zat YV i_1 j_2 hp0 (((YV.length:Int) - 0).toNat + 1) 0 (show 0≤0 from (by omega)) (Nat.lt_succ_self _)) h2) <| sK [] sN)) rfl (by kernel_rfl) (by kernel_rfl) rfl ?_ ?_
    · simp only [Z3I,h0,h1,h2,cond_true]
    · rfl
   | inr r3 =>
    refine fnS E0Ok Z4 (c:=X0 f138) [] (.i .i64 (-1)) [] func138 (p (sL (mR false [0,3,5,13,21]) 0 (X1 (Z5N YV i_1 j_2) (x:=(Z4E YV i_1 j_2)) (Zat YV i_1 j_2 hp0 (((YV.length:Int) - 0).toNat + 1) 0 (show 0≤0 from (by omega)) (Nat.lt_succ_self _)) h2) <| sK [] sN)) rfl (by kernel_rfl) (by kernel_rfl) rfl ?_ ?_
    · simp only [Z3I,h0,h1,h2,cond_true]
    · rfl
  | false =>
   refine fnS E0Ok Z4 (c:=X0 f138) [] (.i .i64 (-1)) [] func138 (q (sB' h1 <| sK [] sN)) rfl (by kernel_rfl) (by kernel_rfl) rfl ?_ ?_
   · simp only [Z3I,h0,h1,cond_true,cond_false]
   · rfl
 | false =>
  refine fnS E0Ok Z4 (c:=X0 f138) [] (.i .i64 (-1)) [] func138 (p (sB' h0 <| sB' h0 <| sB' h0 <| sB' h0 <| sB' h0 <| sB (show true=true from rfl) <| sK [] sN)) rfl (by kernel_rfl) (by kernel_rfl) rfl ?_ ?_
  · simp only [Z3I,h0,cond_false]
  · rfl
def Z25 (Y3:Gm) (Y1:Int) (Y8:Int):Int:=(Z3I (Y3.Tr.getD Y8.toNat default) (((Z8 Y3).getD Y1.toNat default).getD 0 default) (((Z8 Y3).getD Y1.toNat default).getD 1 default))
def Z1H (Y3:Gm) (Y1:Int) (Y4:(List (List Int))):Nat→Int→(List Int)→(List Int)
  | 0,_,_ => default
  | k + 1,Y8,Yb => (cond (decide (Y8 < (Y3.Tr.length:Int)))
    (cond (decide ((Z25 Y3 Y1 Y8) ≥ 0))
      (Z1H Y3 Y1 Y4 k (Y8 + 1) (Yb ++ [(Z25 Y3 Y1 Y8)]))
      (Z1H Y3 Y1 Y4 k (Y8 + 1) Yb))
    Yb)
def Z6P (Y3:Gm) (Y1:Int) (Y4:(List (List Int))) (r:(List Int)):Ex × St:=((.exit 2),⟨.ref (Gm.c Y3) 0 :: .any :: .nils :: .own 0 :: .own 1 :: .i .i64 Y1 :: .i .i64 (((Z8 Y3).getD Y1.toNat default).getD 0 default) :: .i .i64 (((Z8 Y3).getD Y1.toNat default).getD 1 default) :: .own 2 :: .any :: .any :: .any :: .ref (Gm.c Y3) 0 :: .own 1 :: .own 1 :: .i .i64 ((Z8 Y3).length:Int) :: .i .i64 Y1 :: .b (decide (Y1 < ((Z8 Y3).length:Int))) :: .i .i64 Y1 :: .own 1 :: .i .i64 Y1 :: .ptr 1 Y1.toNat 0 :: .inn 1 Y1.toNat :: .ipt 1 Y1.toNat 0 :: .i .i64 (((Z8 Y3).getD Y1.toNat default).getD 0 default) :: .own 1 :: .i .i64 Y1 :: .ptr 1 Y1.toNat 0 :: .inn 1 Y1.toNat :: .ipt 1 Y1.toNat 1 :: .i .i64 (((Z8 Y3).getD Y1.toNat default).getD 1 default) :: .i .i64 (((Z8 Y3).getD Y1.toNat default).getD 0 default) :: .i .i64 (((Z8 Y3).getD Y1.toNat default).getD 1 default) :: .any :: .ref (Gm.c Y3) 0 :: .ref (Gm.c Y3) 0 :: .ref (Gm.c Y3) 1 :: .sl (Y3.Tr.map (cL (cI .i64))) :: .i .i64 (Y3.Tr.length:Int) :: an 29 [],[.nest 49 (Y4.map fun l => l.map (cI .i64)) false, .nest 49 ((Z8 Y3).map fun l => l.map (cI .i64)) false, .vec 2 1 (r.map (cI .i64)) false]⟩)
def Z6Q (Y3:Gm) (Y1:Int) (Y4:(List (List Int))) (Y8:Int) (Yb:(List Int)):St:=⟨.ref (Gm.c Y3) 0 :: .any :: .nils :: .own 0 :: .own 1 :: .i .i64 Y1 :: .i .i64 (((Z8 Y3).getD Y1.toNat default).getD 0 default) :: .i .i64 (((Z8 Y3).getD Y1.toNat default).getD 1 default) :: .own 2 :: .any :: .any :: .any :: .ref (Gm.c Y3) 0 :: .own 1 :: .own 1 :: .i .i64 ((Z8 Y3).length:Int) :: .i .i64 Y1 :: .b (decide (Y1 < ((Z8 Y3).length:Int))) :: .i .i64 Y1 :: .own 1 :: .i .i64 Y1 :: .ptr 1 Y1.toNat 0 :: .inn 1 Y1.toNat :: .ipt 1 Y1.toNat 0 :: .i .i64 (((Z8 Y3).getD Y1.toNat default).getD 0 default) :: .own 1 :: .i .i64 Y1 :: .ptr 1 Y1.toNat 0 :: .inn 1 Y1.toNat :: .ipt 1 Y1.toNat 1 :: .i .i64 (((Z8 Y3).getD Y1.toNat default).getD 1 default) :: .i .i64 (((Z8 Y3).getD Y1.toNat default).getD 0 default) :: .i .i64 (((Z8 Y3).getD Y1.toNat default).getD 1 default) :: .any :: .ref (Gm.c Y3) 0 :: .ref (Gm.c Y3) 0 :: .ref (Gm.c Y3) 1 :: .sl (Y3.Tr.map (cL (cI .i64))) :: .i .i64 (Y3.Tr.length:Int) :: .i .i64 Y8 :: an 28 [],[.nest 49 (Y4.map fun l => l.map (cI .i64)) false, .nest 49 ((Z8 Y3).map fun l => l.map (cI .i64)) false, .vec 2 1 (Yb.map (cI .i64)) false]⟩
def Z5Z:List Bool:=(mR false [0,1,1,7,3,21,1,6,28])
def Zcx:List Bool:=(mR false [0,1,1,7,3,21,1,5,29])
set_option maxHeartbeats 1000000 in
theorem ZdG (Y3:Gm) (Y1:Int) (Y4:(List (List Int))) (hp0:Y3.Pq.length≤1073741824) (hp1:Y3.Tr.length≤1073741824) (hp2:∀ t∈Y3.Tr,t.length≤1073741824) (hp3:OkE Y3.Pq.length Y3.Tr) (Z2c:0≤Y1) (Z4Z:(Y4.length:Int)≤Y1) (ZhS:(decide (Y1 < ((Z8 Y3).length:Int)))=true):∀ (k:Nat) (Y8:Int) (Yb:(List Int)) (Z8v:0≤Y8) (Z8w:(Yb.length:Int)≤2 + Y8) (hk:((Y3.Tr.length:Int) - Y8).toNat < k),Lp prog 0 (sub (X0 f101) [1,1,1,0,1,0,0,1,1,0,0,1,1,1,1,0,1,0,0]) (Z6Q Y3 Y1 Y4 Y8 Yb) (Z6P Y3 Y1 Y4 (Z1H Y3 Y1 Y4 k Y8 Yb)).1 (Z6P Y3 Y1 Y4 (Z1H Y3 Y1 Y4 k Y8 Yb)).2:=by
 intro k
 induction k with
 | zero => intro Y8 Yb Z8v Z8w hk; exact absurd hk (Nat.not_lt_zero _)
 | succ k ih =>
  intro Y8 Yb Z8v Z8w hk
  cases YW:(decide (Y8 < (Y3.Tr.length:Int))) with
  | true =>
   have YU:=odt YW
   have Y1d:(0:Int)≤Y8:=(by assumption)
   have Y1e:Y8 < (Y3.Tr.length:Int):=(by assumption)
   have Y1b:(Y3.Tr.getD Y8.toNat default).length≤1073741824:=(by simp_all <;> omega)
   have p {a C} (s:Scr a C):=sB YW <| sG (cL (cI .i64)) Y3.Tr Y8 Y1d Y1e <| sF (Zg4 (Y3.Tr.getD Y8.toNat default) (((Z8 Y3).getD Y1.toNat default).getD 0 default) (((Z8 Y3).getD Y1.toNat default).getD 1 default) Y1b) <| s
   cases Y17:(decide ((Z25 Y3 Y1 Y8) ≥ 0)) with
   | true =>
    have gh__1:=odt Y17
    have Y18:Yb.length + ([(Z25 Y3 Y1 Y8)]).length≤1073741824:=by clear p; exact (by ((have:=hp3.2.1; have g4:=odt YW; (simp only [List.length_append,List.length_cons,List.length_nil]; omega))))
    have Y1f:(-9223372036854775808:Int)≤(Y8 + 1):=by clear p; exact (by omega)
    have Y1m:(Y8 + 1)≤(9223372036854775807:Int):=by clear p; exact (by omega)
    have e:Z1H Y3 Y1 Y4 (k + 1) Y8 Yb=(Z1H Y3 Y1 Y4 k (Y8 + 1) (Yb ++ [(Z25 Y3 Y1 Y8)])):=by simp only [Z1H,YW,Y17,cond_true]
    rw [e]
    exact X8 E0Ok Z4 [] Z5Z [0,1,2] (⟨.ref (Gm.c Y3) 0 :: .any :: .nils :: .own 0 :: .own 1 :: .i .i64 Y1 :: .i .i64 (((Z8 Y3).getD Y1.toNat default).getD 0 default) :: .i .i64 (((Z8 Y3).getD Y1.toNat default).getD 1 default) :: .own 2 :: .any :: .any :: .any :: .ref (Gm.c Y3) 0 :: .own 1 :: .own 1 :: .i .i64 ((Z8 Y3).length:Int) :: .i .i64 Y1 :: .b (decide (Y1 < ((Z8 Y3).length:Int))) :: .i .i64 Y1 :: .own 1 :: .i .i64 Y1 :: .ptr 1 Y1.toNat 0 :: .inn 1 Y1.toNat :: .ipt 1 Y1.toNat 0 :: .i .i64 (((Z8 Y3).getD Y1.toNat default).getD 0 default) :: .own 1 :: .i .i64 Y1 :: .ptr 1 Y1.toNat 0 :: .inn 1 Y1.toNat :: .ipt 1 Y1.toNat 1 :: .i .i64 (((Z8 Y3).getD Y1.toNat default).getD 1 default) :: .i .i64 (((Z8 Y3).getD Y1.toNat default).getD 0 default) :: .i .i64 (((Z8 Y3).getD Y1.toNat default).getD 1 default) :: .any :: .ref (Gm.c Y3) 0 :: .ref (Gm.c Y3) 0 :: .ref (Gm.c Y3) 1 :: .sl (Y3.Tr.map (cL (cI .i64))) :: .i .i64 (Y3.Tr.length:Int) :: .i .i64 (Y8 + 1) :: an 28 [],[.nest 49 (Y4.map fun l => l.map (cI .i64)) false, .nest 49 ((Z8 Y3).map fun l => l.map (cI .i64)) false, .vec 2 1 ((Yb.map (cI .i64)) ++ ([[.i .i64 (Z25 Y3 Y1 Y8)]]:List (List AV))) false]⟩) (p (sB Y17 <| sC (show (Yb.map (cI .i64)).length + ([[.i .i64 (Z25 Y3 Y1 Y8)]]:List (List AV)).length≤1073741824 from (by simpa using Y18)) <| sI (Y8 + 1) Y1f Y1m <| sN)) (by kernel_rfl) (by simp [Z6Q,cL,cI]) (ih (Y8 + 1) (Yb ++ [(Z25 Y3 Y1 Y8)]) (show 0≤(Y8 + 1) from (by omega)) (show ((Yb ++ [(Z25 Y3 Y1 Y8)]).length:Int)≤2 + (Y8 + 1) from (by ((have q:=Z5t Y3 hp3 Z2c (odt (by assumption)); (simp only [List.length_append,List.length_cons,List.length_nil]; omega))))) (by omega))
   | false =>
    have gh__1:=odf Y17
    have Y18:(-9223372036854775808:Int)≤(Y8 + 1):=by clear p; exact (by omega)
    have Y1f:(Y8 + 1)≤(9223372036854775807:Int):=by clear p; exact (by omega)
    have e:Z1H Y3 Y1 Y4 (k + 1) Y8 Yb=(Z1H Y3 Y1 Y4 k (Y8 + 1) Yb):=by simp only [Z1H,YW,Y17,cond_true,cond_false]
    rw [e]
    exact X9 E0Ok Z4 [] Z5Z [0,1,2] (ih (Y8 + 1) Yb (show 0≤(Y8 + 1) from (by omega)) (show (Yb.length:Int)≤2 + (Y8 + 1) from (by omega)) (by omega)) (p (sB Y17 <| sI (Y8 + 1) Y18 Y1f <| sN)) (by kernel_rfl)
  | false =>
   have YU:=odf YW
   have e:Z1H Y3 Y1 Y4 (k + 1) Y8 Yb=Yb:=by simp only [Z1H,YW,cond_false]
   rw [e]
   exact outR (e:=(.exit 2)) E0Ok Z4 [] Zcx [0,1,2] (sB YW <| sN) (by kernel_rfl) (by intro h; cases h)
def Z1J (Y3:Gm) (Y1:Int) (Y4:(List (List Int))):(List Int):=(Z1H Y3 Y1 Y4 (((Y3.Tr.length:Int) - 0).toNat + 1) 0 ([(((Z8 Y3).getD Y1.toNat default).getD 0 default),(((Z8 Y3).getD Y1.toNat default).getD 1 default)]))
def Z1t (Y3:Gm):Nat→Int→(List (List Int))→(List (List Int))
  | 0,_,_ => default
  | k + 1,Y1,Y4 => (cond (decide (Y1 < ((Z8 Y3).length:Int)))
    (cond (((Z1J Y3 Y1 Y4).length:Int) == 4)
      (Z1t Y3 k (Y1 + 1) (Y4 ++ [(Z1J Y3 Y1 Y4)]))
      (Z1t Y3 k (Y1 + 1) Y4))
    Y4)
def Z6R (Y3:Gm) (r:(List (List Int))):Ex × St:=((.exit 0),⟨.ref (Gm.c Y3) 0 :: .any :: .nils :: .own 0 :: .own 1 :: an 7 (.ref (Gm.c Y3) 0 :: .own 1 :: .own 1 :: an 53 []),[.nest 49 (r.map fun l => l.map (cI .i64)) false, .nest 49 ((Z8 Y3).map fun l => l.map (cI .i64)) false]⟩)
def Z6S (Y3:Gm) (Y1:Int) (Y4:(List (List Int))):St:=⟨.ref (Gm.c Y3) 0 :: .any :: .nils :: .own 0 :: .own 1 :: an 7 (.ref (Gm.c Y3) 0 :: .own 1 :: .own 1 :: .i .i64 ((Z8 Y3).length:Int) :: .i .i64 Y1 :: an 51 []),[.nest 49 (Y4.map fun l => l.map (cI .i64)) false, .nest 49 ((Z8 Y3).map fun l => l.map (cI .i64)) false]⟩
set_option maxHeartbeats 1000000 in
theorem ZdH (Y3:Gm) (hp0:Y3.Pq.length≤1073741824) (hp1:Y3.Tr.length≤1073741824) (hp2:∀ t∈Y3.Tr,t.length≤1073741824) (hp3:OkE Y3.Pq.length Y3.Tr):∀ (k:Nat) (Y1:Int) (Y4:(List (List Int))) (Z2c:0≤Y1) (Z4Z:(Y4.length:Int)≤Y1) (hk:(((Z8 Y3).length:Int) - Y1).toNat < k),Lp prog 0 (sub (X0 f101) [1,1,1,0,1,0,0]) (Z6S Y3 Y1 Y4) (Z6R Y3 (Z1t Y3 k Y1 Y4)).1 (Z6R Y3 (Z1t Y3 k Y1 Y4)).2:=by
 intro k
 induction k with
 | zero => intro Y1 Y4 Z2c Z4Z hk; exact absurd hk (Nat.not_lt_zero _)
 | succ k ih =>
  intro Y1 Y4 Z2c Z4Z hk
  cases Yn:(decide (Y1 < ((Z8 Y3).length:Int))) with
  | true =>
   have YM:=odt Yn
   have YS:(0:Int)≤Y1:=(by assumption)
   have YT:Int.toNat Y1 < (Z8 Y3).length:=(by omega)
   have YY:Y1.toNat < (Z8 Y3).length:=(by assumption)
   have YZ:(0:Int)≤0:=(by omega)
   have y_4:0 < (((Z8 Y3).getD Y1.toNat default).length:Int):=(by ((have q:=Z5t Y3 hp3 Z2c (odt (by assumption)); omega)))
   have y_5:0 < ((Z8 Y3).getD Y1.toNat default).length:=(by omega)
   have y_6:(0:Int)≤1:=(by omega)
   have y_7:1 < (((Z8 Y3).getD Y1.toNat default).length:Int):=(by ((have q:=Z5t Y3 hp3 Z2c (odt (by assumption)); omega)))
   have y_8:1 < ((Z8 Y3).getD Y1.toNat default).length:=(by omega)
   have p {a C} (s:Scr a C):=sB Yn <| sC (X1Y (c:=(cI .i64)) (l:=(Z8 Y3)) (i:=Y1) YS YT) <| sC (X2j (c:=(cI .i64)) (l:=(Z8 Y3)) YY) <| sC (Xz (c:=(cI .i64)) (l:=(Z8 Y3)) (j:=Y1.toNat) (i:=0) YZ y_4) <| sE (Xy (c:=(cI .i64)) (l:=(Z8 Y3)) (j:=Y1.toNat) (k:=0) y_5) <| sC (X1Y (c:=(cI .i64)) (l:=(Z8 Y3)) (i:=Y1) YS YT) <| sC (X2j (c:=(cI .i64)) (l:=(Z8 Y3)) YY) <| sC (Xz (c:=(cI .i64)) (l:=(Z8 Y3)) (j:=Y1.toNat) (i:=1) y_6 y_7) <| sE (Xy (c:=(cI .i64)) (l:=(Z8 Y3)) (j:=Y1.toNat) (k:=1) y_8) <| sZ (cL (cI .i64)) Y3.Tr <| sL Z5Z 3 (Xj (st2:=⟨.ref (Gm.c Y3) 0 :: .any :: .nils :: .own 0 :: .own 1 :: .i .i64 Y1 :: .i .i64 (((Z8 Y3).getD Y1.toNat default).getD 0 default) :: .i .i64 (((Z8 Y3).getD Y1.toNat default).getD 1 default) :: .own 2 :: .any :: .any :: .any :: .ref (Gm.c Y3) 0 :: .own 1 :: .own 1 :: .i .i64 ((Z8 Y3).length:Int) :: .i .i64 Y1 :: .b (decide (Y1 < ((Z8 Y3).length:Int))) :: .i .i64 Y1 :: .own 1 :: .i .i64 Y1 :: .ptr 1 Y1.toNat 0 :: .inn 1 Y1.toNat :: .ipt 1 Y1.toNat 0 :: .i .i64 (((Z8 Y3).getD Y1.toNat default).getD 0 default) :: .own 1 :: .i .i64 Y1 :: .ptr 1 Y1.toNat 0 :: .inn 1 Y1.toNat :: .ipt 1 Y1.toNat 1 :: .i .i64 (((Z8 Y3).getD Y1.toNat default).getD 1 default) :: .i .i64 (((Z8 Y3).getD Y1.toNat default).getD 0 default) :: .i .i64 (((Z8 Y3).getD Y1.toNat default).getD 1 default) :: .any :: .ref (Gm.c Y3) 0 :: .ref (Gm.c Y3) 0 :: .ref (Gm.c Y3) 1 :: .sl (Y3.Tr.map (cL (cI .i64))) :: .i .i64 (Y3.Tr.length:Int) :: .i .i64 0 :: an 28 [],[.nest 49 (Y4.map fun l => l.map (cI .i64)) false, .nest 49 ((Z8 Y3).map fun l => l.map (cI .i64)) false, .vec 2 1 ([[.i .i64 (((Z8 Y3).getD Y1.toNat default).getD 0 default)],[.i .i64 (((Z8 Y3).getD Y1.toNat default).getD 1 default)]]:List (List AV)) false]⟩) (X1 (Z6P Y3 Y1 Y4) (x:=(Z1J Y3 Y1 Y4)) (ZdG Y3 Y1 Y4 hp0 hp1 hp2 hp3 Z2c Z4Z Yn (((Y3.Tr.length:Int) - 0).toNat + 1) 0 ([(((Z8 Y3).getD Y1.toNat default).getD 0 default),(((Z8 Y3).getD Y1.toNat default).getD 1 default)]) (show 0≤0 from (by omega)) (show (([(((Z8 Y3).getD Y1.toNat default).getD 0 default),(((Z8 Y3).getD Y1.toNat default).getD 1 default)]).length:Int)≤2 + 0 from (by simp)) (Nat.lt_succ_self _)) rfl) (by simp [Z6Q,cI])) <| sZ (cI .i64) (Z1J Y3 Y1 Y4) <| s
   cases YL:(((Z1J Y3 Y1 Y4).length:Int) == 4) with
   | true =>
    have Y1a:=eq_of_beq YL
    have y_9:Y4.length + [(Z1J Y3 Y1 Y4)].length≤1073741824:=by clear p; exact (by ((have q:=Z5t Y3 hp3 Z2c (odt (by assumption)); (simp only [List.length_append,List.length_cons,List.length_nil]; omega))))
    have Y19:(-9223372036854775808:Int)≤(Y1 + 1):=by clear p; exact (by omega)
    have Y1g:(Y1 + 1)≤(9223372036854775807:Int):=by clear p; exact (by ((have q:=Z5t Y3 hp3 Z2c (odt (by assumption)); omega)))
    have e:Z1t Y3 (k + 1) Y1 Y4=(Z1t Y3 k (Y1 + 1) (Y4 ++ [(Z1J Y3 Y1 Y4)])):=by simp only [Z1t,Yn,YL,cond_true]
    rw [e]
    exact X8 E0Ok Z4 [] (mR false [0,1,1,3,7,5,51]) [0,1] (⟨.ref (Gm.c Y3) 0 :: .any :: .nils :: .own 0 :: .own 1 :: an 7 (.ref (Gm.c Y3) 0 :: .own 1 :: .own 1 :: .i .i64 ((Z8 Y3).length:Int) :: .i .i64 (Y1 + 1) :: an 51 []),[.nest 49 ((Y4.map fun l => l.map (cI .i64)) ++ [((Z1J Y3 Y1 Y4).map (cI .i64))]) false, .nest 49 ((Z8 Y3).map fun l => l.map (cI .i64)) false]⟩) (p (sB YL <| sC (show (Y4.map fun l => l.map (cI .i64)).length + [((Z1J Y3 Y1 Y4).map (cI .i64))].length≤1073741824 from (by simpa using y_9)) <| sI (Y1 + 1) Y19 Y1g <| sN)) (by kernel_rfl) (by simp [Z6S,cL,cI]) (ih (Y1 + 1) (Y4 ++ [(Z1J Y3 Y1 Y4)]) (show 0≤(Y1 + 1) from (by omega)) (show ((Y4 ++ [(Z1J Y3 Y1 Y4)]).length:Int)≤(Y1 + 1) from (by ((have q:=Z5t Y3 hp3 Z2c (odt (by assumption)); (simp only [List.length_append,List.length_cons,List.length_nil]; omega))))) (by omega))
   | false =>
    have Y1a:=ne_of_beq_false YL
    have y_9:(-9223372036854775808:Int)≤(Y1 + 1):=by clear p; exact (by omega)
    have Y19:(Y1 + 1)≤(9223372036854775807:Int):=by clear p; exact (by ((have q:=Z5t Y3 hp3 Z2c (odt (by assumption)); omega)))
    have e:Z1t Y3 (k + 1) Y1 Y4=(Z1t Y3 k (Y1 + 1) Y4):=by simp only [Z1t,Yn,YL,cond_true,cond_false]
    rw [e]
    exact X9 E0Ok Z4 [] (mR false [0,1,1,3,7,5,51]) [0,1] (ih (Y1 + 1) Y4 (show 0≤(Y1 + 1) from (by omega)) (show (Y4.length:Int)≤(Y1 + 1) from (by omega)) (by omega)) (p (sB YL <| sI (Y1 + 1) y_9 Y19 <| sN)) (by kernel_rfl)
  | false =>
   have YM:=odf Yn
   have e:Z1t Y3 (k + 1) Y1 Y4=Y4:=by simp only [Z1t,Yn,cond_false]
   rw [e]
   exact outR (e:=(.exit 0)) E0Ok Z4 [] (mR false [0,1,1,3,7,3,53]) [0,1] (sB Yn <| sN) (by kernel_rfl) (by intro h; cases h)
def Z50 (Y3:Gm):(List (List Int)):=(Z1t Y3 ((((Z8 Y3).length:Int) - 0).toNat + 1) 0 ([]:List (List Int)))
def Z2 (Y3:Gm):(List (List Int)):=(Z50 Y3)
theorem Zin (m:Gm) (ok:OkE m.Pq.length m.Tr) (x:Int) (r0:List (List Int)) (hab:((Z8 m).getD x.toNat default).getD 0 default≠((Z8 m).getD x.toNat default).getD 1 default) :
    Z1J m x r0=[((Z8 m).getD x.toNat default).getD 0 default,((Z8 m).getD x.toNat default).getD 1 default] ++ (idxP m.Tr (((Z8 m).getD x.toNat default).getD 0 default) (((Z8 m).getD x.toNat default).getD 1 default)).map fun i => thd (m.Tr.getD i.toNat default) (((Z8 m).getD x.toNat default).getD 0 default) (((Z8 m).getD x.toNat default).getD 1 default):=by
  unfold Z1J
  have hf:=X4y (n:=(m.Tr.length:Int)) (f:=fun i => !(decide (Z25 m x i ≥ 0))) (g:=fun i => Z25 m x i) (lo:=Z1H m x r0) (fun k i r' => by
    rw [Z1H]
    cases decide (Z25 m x i ≥ 0) <;> rfl) (((m.Tr.length:Int) - 0).toNat + 1) 0 [((Z8 m).getD x.toNat default).getD 0 default,((Z8 m).getD x.toNat default).getD 1 default] (Nat.lt_succ_self _)
  rw [hf]
  congr 1
  unfold Z25 idxP
  generalize ((Z8 m).getD x.toNat default).getD 0 default=a at *
  generalize ((Z8 m).getD x.toNat default).getD 1 default=b at *
  rw [List.map_map,show ((m.Tr.length:Int) - 0).toNat=m.Tr.length from by omega]
  have key:∀ j:Nat,j < m.Tr.length→Z3I (m.Tr.getD ((0:Int) + (j:Int)).toNat default) a b=if tHas (m.Tr.getD j default) a b=true then thd (m.Tr.getD j default) a b else -1:=by
    intro j hj
    rw [show ((0:Int) + (j:Int)).toNat=j from by omega]
    have hm:m.Tr.getD j default∈m.Tr:=by rw [List.getD_eq_getElem?_getD,List.getElem?_eq_getElem hj]; exact List.getElem_mem _
    obtain ⟨x,y,z,ht,r1,r2,r3,n1,n2,n3⟩:=ok.2.2 _ hm
    rw [ht]; exact ZhC n1 n2 n3 hab
  have hfl:((List.range m.Tr.length).filter fun (j:Nat) => !(!(decide (Z3I (m.Tr.getD ((0:Int) + (j:Int)).toNat default) a b ≥ 0))))=(List.range m.Tr.length).filter fun j => tHas (m.Tr.getD j default) a b:=by
    refine List.filter_congr fun j hj => ?_
    rw [List.mem_range] at hj
    rw [Bool.not_not,key j hj]
    cases hh:tHas (m.Tr.getD j default) a b with
    | false => rfl
    | true =>
      have hi:(j:Int)∈idxP m.Tr a b:=by
        unfold idxP; rw [List.mem_map]; exact ⟨j,List.mem_filter.2 ⟨List.mem_range.2 hj,hh⟩,rfl⟩
      have:=(X7a ok hab hi).1
      rw [show ((j:Nat):Int).toNat=j from by omega] at this
      rw [if_pos rfl]; exact decide_eq_true this
  rw [hfl]
  refine List.map_congr_left fun j hj => ?_
  rw [List.mem_filter,List.mem_range] at hj
  rw [key j hj.1,if_pos hj.2]
  show _=thd (m.Tr.getD ((j:Nat):Int).toNat default) a b
  rw [show ((j:Nat):Int).toNat=j from by omega]
theorem Z9a (m:Gm) (ok:OkE m.Pq.length m.Tr):Z2 m=hgL m.Pq.length m.Tr:=by
  unfold Z2 Z50
  refine (X40 (a:=Z8 m) (p:=fun x => decide ((idxP m.Tr (x.getD 0 default) (x.getD 1 default)).length=2)) (f:=fun x => [x.getD 0 default,x.getD 1 default] ++ (idxP m.Tr (x.getD 0 default) (x.getD 1 default)).map fun i => thd (m.Tr.getD i.toNat default) (x.getD 0 default) (x.getD 1 default)) (lo:=Z1t m) (fun k i r h0 hi => ?_) (fun k i r hi => ?_)).trans ?_
  · have q:=Z5t m ok h0 hi
    rw [Z1t,decide_eq_true hi,cond_true,Zin m ok i r (by omega)]
    have hc:((([((Z8 m).getD i.toNat default).getD 0 default,((Z8 m).getD i.toNat default).getD 1 default] ++ (idxP m.Tr (((Z8 m).getD i.toNat default).getD 0 default) (((Z8 m).getD i.toNat default).getD 1 default)).map fun i_1 => thd (m.Tr.getD i_1.toNat default) (((Z8 m).getD i.toNat default).getD 0 default) (((Z8 m).getD i.toNat default).getD 1 default)).length:Int) == 4)=decide ((idxP m.Tr (((Z8 m).getD i.toNat default).getD 0 default) (((Z8 m).getD i.toNat default).getD 1 default)).length=2):=by
      rw [List.length_append,List.length_map,Bool.eq_iff_iff,beq_iff_eq,decide_eq_true_iff]
      simp only [List.length_cons,List.length_nil]; omega
    rw [hc]
  · rw [Z1t,decide_eq_false (by omega),cond_false]
  · rw [Zcn m ok]
    unfold hgL
    rw [List.filter_map,List.map_map]
    rfl
theorem Z3Y (m:Gm) (ok:OkE m.Pq.length m.Tr):(Z2 m).length≤4096:=by rw [Z9a m ok]; exact X6f ok
theorem Zhp (m:Gm) (ok:OkE m.Pq.length m.Tr) {i:Int} (h0:0≤i) (hi:i < ((Z2 m).length:Int)):((Z2 m).getD i.toNat default).length=4∧∀ x∈(Z2 m).getD i.toNat default,0≤x∧x < (m.Pq.length:Int):=by
  refine X6g ok ?_
  rw [← Z9a m ok,List.getD_eq_getElem?_getD,List.getElem?_eq_getElem (by omega)]; exact List.getElem_mem _
theorem hin4 {m:Gm} (ok:OkE m.Pq.length m.Tr) {i:Int} (h0:0≤i) (hi:decide (i < ((Z2 m).length:Int))=true):((Z2 m).getD i.toNat default).length=4∧∀ x∈(Z2 m).getD i.toNat default,0≤x∧x < (m.Pq.length:Int):=Zhp m ok h0 (odt hi)
theorem ZiP {m:Gm} (ok:OkE m.Pq.length m.Tr) {i:Int} (h0:0≤i) (hi:decide (i < ((Z2 m).length:Int))=true):((Z2 m).getD i.toNat default).length≤1073741824:=by have:=(hin4 ok h0 hi).1; omega
theorem ZbM (Y3:Gm) (hp0:Y3.Pq.length≤1073741824) (hp1:Y3.Tr.length≤1073741824) (hp2:∀ t∈Y3.Tr,t.length≤1073741824) (hp3:OkE Y3.Pq.length Y3.Tr)  : Fn prog 101 [.ref (Gm.c Y3) 0] (.own 0) [.nest 49 ((Z2 Y3).map fun l => l.map (cI .i64)) false]:=by
 refine fnS E0Ok Z4 (c:=X0 f101) [] (.own 0) [.nest 49 ((Z50 Y3).map fun l => l.map (cI .i64)) false] func101 (sF (Zg3 Y3 hp0 hp1 hp2 hp3) <| sM (X28 (l:=(Z8 Y3)) (f:=fun l => l.map (cI .i64))) <| sL (mR false [0,1,1,3,7,5,51]) 2 (Xj (st2:=⟨.ref (Gm.c Y3) 0 :: .any :: .nils :: .own 0 :: .own 1 :: an 7 (.ref (Gm.c Y3) 0 :: .own 1 :: .own 1 :: .i .i64 ((Z8 Y3).length:Int) :: .i .i64 0 :: an 51 []),[.nest 49 [] false, .nest 49 ((Z8 Y3).map fun l => l.map (cI .i64)) false]⟩) (X1 (Z6R Y3) (x:=(Z50 Y3)) (ZdH Y3 hp0 hp1 hp2 hp3 ((((Z8 Y3).length:Int) - 0).toNat + 1) 0 ([]:List (List Int)) (show 0≤0 from (by omega)) (show (([]:List (List Int)).length:Int)≤0 from (by simp)) (Nat.lt_succ_self _)) rfl) (by simp [Z6S,cL,cI])) <| sK [0] sN) rfl (by kernel_rfl) (by kernel_rfl) rfl ?_ ?_
 · rfl
 · simp [Z2]
def Z5U (Y3:Gm) (YL:(List Int)):Gv:=(Z24 (ZI (Y3.Pq.getD (YL.getD 2 default).toNat default) (Y3.Pq.getD (YL.getD 3 default).toNat default)) (ZI (Y3.Pq.getD (YL.getD 0 default).toNat default) (Y3.Pq.getD (YL.getD 1 default).toNat default)))
def ZY (Y3:Gm) (YL:(List Int)):Gv:=(Z5U Y3 YL)
theorem Zcy (Y3:Gm) (YL:(List Int)) (hp0:Y3.Pq.length≤1073741824) (hp1:Y3.Tr.length≤1073741824) (hp2:∀ t∈Y3.Tr,t.length≤1073741824) (hp3:YL.length≤1073741824) (hp4:YL.length=4∧∀ x∈YL,0≤x∧x < (Y3.Pq.length:Int))  : Fn prog 102 [.ref (Gm.c Y3) 0, .sl (YL.map (cI .i64))] (.agg [.f .f32 ((ZY Y3 YL).X), .f .f32 ((ZY Y3 YL).Y), .f .f32 ((ZY Y3 YL).Z)]) []:=by
 have y0:(0:Int)≤2:=(by omega)
 have y1:2 < (YL.length:Int):=(by omega)
 have y2:(0:Int)≤(YL.getD 2 default):=(by have q:=Okh.at hp4; omega)
 have y3:(YL.getD 2 default) < (Y3.Pq.length:Int):=(by have q:=Okh.at hp4; omega)
 have y4:(0:Int)≤3:=(by omega)
 have y5:3 < (YL.length:Int):=(by omega)
 have y6:(0:Int)≤(YL.getD 3 default):=(by have q:=Okh.at hp4; omega)
 have y7:(YL.getD 3 default) < (Y3.Pq.length:Int):=(by have q:=Okh.at hp4; omega)
 have y8:(0:Int)≤0:=(by omega)
 have y9:0 < (YL.length:Int):=(by omega)
 have y10:(0:Int)≤(YL.getD 0 default):=(by have q:=Okh.at hp4; omega)
 have y11:(YL.getD 0 default) < (Y3.Pq.length:Int):=(by have q:=Okh.at hp4; omega)
 have y12:(0:Int)≤1:=(by omega)
 have y13:1 < (YL.length:Int):=(by omega)
 have y14:(0:Int)≤(YL.getD 1 default):=(by have q:=Okh.at hp4; omega)
 have y15:(YL.getD 1 default) < (Y3.Pq.length:Int):=(by have q:=Okh.at hp4; omega)
 refine fnS E0Ok Z4 (c:=X0 f102) [] (.agg [.f .f32 ((Z5U Y3 YL).X), .f .f32 ((Z5U Y3 YL).Y), .f .f32 ((Z5U Y3 YL).Z)]) [] func102 (sK [37,37] <| sG (cI .i64) YL 2 y0 y1 <| sG Gv.c Y3.Pq (YL.getD 2 default) y2 y3 <| sG (cI .i64) YL 3 y4 y5 <| sG Gv.c Y3.Pq (YL.getD 3 default) y6 y7 <| sF (Z3A (Y3.Pq.getD (YL.getD 2 default).toNat default) (Y3.Pq.getD (YL.getD 3 default).toNat default)) <| sG (cI .i64) YL 0 y8 y9 <| sG Gv.c Y3.Pq (YL.getD 0 default) y10 y11 <| sG (cI .i64) YL 1 y12 y13 <| sG Gv.c Y3.Pq (YL.getD 1 default) y14 y15 <| sF (Z3A (Y3.Pq.getD (YL.getD 0 default).toNat default) (Y3.Pq.getD (YL.getD 1 default).toNat default)) <| sF (Z5u (ZI (Y3.Pq.getD (YL.getD 2 default).toNat default) (Y3.Pq.getD (YL.getD 3 default).toNat default)) (ZI (Y3.Pq.getD (YL.getD 0 default).toNat default) (Y3.Pq.getD (YL.getD 1 default).toNat default))) <| sK [] sN) rfl (by kernel_rfl) (by kernel_rfl) rfl ?_ ?_
 · rfl
 · rfl
def Zq (Y0:Gb) (Y1:Int) (Y4:(List Gv)):Gv:=(ZI (Y4.getD (((Y0.Sp.getD Y1.toNat default).A).toNat) default) (Zr ((Z38 Y0 (Y0.Sp.getD Y1.toNat default)).1) ((Z38 Y0 (Y0.Sp.getD Y1.toNat default)).2)))
def Z9P (Y0:Gb) (Y1:Int):Gv:=(Zr ((Z38 Y0 (Y0.Sp.getD Y1.toNat default)).1) (fneg .f32 ((Z38 Y0 (Y0.Sp.getD Y1.toNat default)).2)))
def Z3f (Y0:Gb) (Y1:Int) (Y4:(List Gv)):Gv:=(ZI ((Y4.set (((Y0.Sp.getD Y1.toNat default).A).toNat) (Zq Y0 Y1 Y4)).getD (((Y0.Sp.getD Y1.toNat default).B).toNat) default) (Z9P Y0 Y1))
def Z1u (Y0:Gb):Nat→Int→(List Gv)→(List Gv)
  | 0,_,_ => default
  | k + 1,Y1,Y4 => (cond (decide (Y1 < (Y0.Sp.length:Int)))
    (Z1u Y0 k (Y1 + 1) ((Y4.set (((Y0.Sp.getD Y1.toNat default).A).toNat) (Zq Y0 Y1 Y4)).set (((Y0.Sp.getD Y1.toNat default).B).toNat) (Z3f Y0 Y1 Y4)))
    Y4)
def Z6T (Y0:Gb) (r:(List Gv)):Ex × St:=((.exit 0),⟨.ref (Gb.c Y0) 0 :: .any :: .nils :: .ref (Gb.c Y0) 0 :: .own 0 :: an 15 (.ref (Gb.c Y0) 0 :: .ref (Gb.c Y0) 0 :: .ref (Gb.c Y0) 0 :: .ref (Gb.c Y0) 0 :: .ref (Gb.c Y0) 0 :: .ref (Gb.c Y0) 0 :: .sl (Y0.Me.Pq.map Gv.c) :: .i .i64 (Y0.Me.Pq.length:Int) :: .own 0 :: .ref (Gb.c Y0) 0 :: .ref (Gb.c Y0) 0 :: .ref (Gb.c Y0) 2 :: .sl (Y0.Sp.map Gs.c) :: an 247 []),[.vec 40 3 (r.map Gv.c) false]⟩)
def Z6U (Y0:Gb) (Y1:Int) (Y4:(List Gv)):St:=⟨.ref (Gb.c Y0) 0 :: .any :: .nils :: .ref (Gb.c Y0) 0 :: .own 0 :: an 15 (.ref (Gb.c Y0) 0 :: .ref (Gb.c Y0) 0 :: .ref (Gb.c Y0) 0 :: .ref (Gb.c Y0) 0 :: .ref (Gb.c Y0) 0 :: .ref (Gb.c Y0) 0 :: .sl (Y0.Me.Pq.map Gv.c) :: .i .i64 (Y0.Me.Pq.length:Int) :: .own 0 :: .ref (Gb.c Y0) 0 :: .ref (Gb.c Y0) 0 :: .ref (Gb.c Y0) 2 :: .sl (Y0.Sp.map Gs.c) :: .i .i64 (Y0.Sp.length:Int) :: .i .i64 Y1 :: an 245 []),[.vec 40 3 (Y4.map Gv.c) false]⟩
theorem ZdI (Y0:Gb) (hp0:Y0.Me.Pq.length≤1073741824) (hp1:Y0.Me.Tr.length≤1073741824) (hp2:∀ t∈Y0.Me.Tr,t.length≤1073741824) (hp3:Y0.Sp.length≤1073741824) (hp4:Y0.We.length≤1073741824) (hp5:OkBd Y0):∀ (k:Nat) (Y1:Int) (Y4:(List Gv)) (Z8x:0≤Y1) (Z8y:Y4.length=Y0.Me.Pq.length) (hk:((Y0.Sp.length:Int) - Y1).toNat < k),Lp prog 0 (sub (X0 f51) [1,1,1,0,1,0,0]) (Z6U Y0 Y1 Y4) (Z6T Y0 (Z1u Y0 k Y1 Y4)).1 (Z6T Y0 (Z1u Y0 k Y1 Y4)).2:=by
 intro k
 induction k with
 | zero => intro Y1 Y4 Z8x Z8y hk; exact absurd hk (Nat.not_lt_zero _)
 | succ k ih =>
  intro Y1 Y4 Z8x Z8y hk
  cases Yn:(decide (Y1 < (Y0.Sp.length:Int))) with
  | true =>
   have YM:=odt Yn
   have YS:(0:Int)≤Y1:=(by assumption)
   have YT:Y1 < (Y0.Sp.length:Int):=(by assumption)
   have YY:0≤(Y0.Sp.getD Y1.toNat default).A:=(by have q:=Z3E hp5 (by assumption) Yn; omega)
   have YZ:(Y0.Sp.getD Y1.toNat default).A < (Y0.Me.Pq.length:Int):=(by have q:=Z3E hp5 (by assumption) Yn; omega)
   have y_4:0≤(Y0.Sp.getD Y1.toNat default).B:=(by have q:=Z3E hp5 (by assumption) Yn; omega)
   have y_5:(Y0.Sp.getD Y1.toNat default).B < (Y0.Me.Pq.length:Int):=(by have q:=Z3E hp5 (by assumption) Yn; omega)
   have y_6:(0:Int)≤((Y0.Sp.getD Y1.toNat default).A):=(by assumption)
   have y_7:((Y0.Sp.getD Y1.toNat default).A) < (Y4.length:Int):=(by omega)
   have y_8:((Y0.Sp.getD Y1.toNat default).A).toNat < Y4.length:=(by omega)
   have y_9:(0:Int)≤((Y0.Sp.getD Y1.toNat default).B):=(by assumption)
   have Y19:((Y0.Sp.getD Y1.toNat default).B) < ((Y4.set (((Y0.Sp.getD Y1.toNat default).A).toNat) (Zq Y0 Y1 Y4)).length:Int):=(by have q:=hp5.w; have q:=Z3E hp5 (by assumption) Yn; (simp only [List.length_set]; omega))
   have Y1g:((Y0.Sp.getD Y1.toNat default).B).toNat < (Y4.set (((Y0.Sp.getD Y1.toNat default).A).toNat) (Zq Y0 Y1 Y4)).length:=(by omega)
   have Y1j:(-9223372036854775808:Int)≤(Y1 + 1):=(by omega)
   have Y1k:(Y1 + 1)≤(9223372036854775807:Int):=(by omega)
   have e:Z1u Y0 (k + 1) Y1 Y4=(Z1u Y0 k (Y1 + 1) ((Y4.set (((Y0.Sp.getD Y1.toNat default).A).toNat) (Zq Y0 Y1 Y4)).set (((Y0.Sp.getD Y1.toNat default).B).toNat) (Z3f Y0 Y1 Y4))):=by simp only [Z1u,Yn,cond_true]
   rw [e]
   exact X8 E0Ok Z4 [] (mR false [0,1,1,3,15,15,245]) [0] (⟨.ref (Gb.c Y0) 0 :: .any :: .nils :: .ref (Gb.c Y0) 0 :: .own 0 :: an 15 (.ref (Gb.c Y0) 0 :: .ref (Gb.c Y0) 0 :: .ref (Gb.c Y0) 0 :: .ref (Gb.c Y0) 0 :: .ref (Gb.c Y0) 0 :: .ref (Gb.c Y0) 0 :: .sl (Y0.Me.Pq.map Gv.c) :: .i .i64 (Y0.Me.Pq.length:Int) :: .own 0 :: .ref (Gb.c Y0) 0 :: .ref (Gb.c Y0) 0 :: .ref (Gb.c Y0) 2 :: .sl (Y0.Sp.map Gs.c) :: .i .i64 (Y0.Sp.length:Int) :: .i .i64 (Y1 + 1) :: an 245 []),[.vec 40 3 (((Y4.map Gv.c).set (((Y0.Sp.getD Y1.toNat default).A).toNat) [.f .f32 ((Zq Y0 Y1 Y4).X), .f .f32 ((Zq Y0 Y1 Y4).Y), .f .f32 ((Zq Y0 Y1 Y4).Z)]).set (((Y0.Sp.getD Y1.toNat default).B).toNat) [.f .f32 ((Z3f Y0 Y1 Y4).X), .f .f32 ((Z3f Y0 Y1 Y4).Y), .f .f32 ((Z3f Y0 Y1 Y4).Z)]) false]⟩) (sB Yn <| sG Gs.c Y0.Sp Y1 YS YT <| sF (ZgZ Y0 (Y0.Sp.getD Y1.toNat default) hp0 hp1 hp2 hp3 hp4 YY YZ y_4 y_5) <| sK [16,16] <| sX Gv.c Y4 ((Y0.Sp.getD Y1.toNat default).A) y_6 y_7 <| sV Gv.c Y4 (((Y0.Sp.getD Y1.toNat default).A).toNat) y_8 <| sF (Z3o ((Z38 Y0 (Y0.Sp.getD Y1.toNat default)).1) ((Z38 Y0 (Y0.Sp.getD Y1.toNat default)).2)) <| sF (Z3A (Y4.getD (((Y0.Sp.getD Y1.toNat default).A).toNat) default) (Zr ((Z38 Y0 (Y0.Sp.getD Y1.toNat default)).1) ((Z38 Y0 (Y0.Sp.getD Y1.toNat default)).2))) <| sX Gv.c Y4 ((Y0.Sp.getD Y1.toNat default).A) y_6 y_7 <| sC (Xn (c:=Gv.c) (l:=Y4) y_8) <| sK [17,17] <| sC (show 0≤((Y0.Sp.getD Y1.toNat default).B)∧Int.toNat ((Y0.Sp.getD Y1.toNat default).B) < ((Y4.map Gv.c).set (((Y0.Sp.getD Y1.toNat default).A).toNat) [.f .f32 ((Zq Y0 Y1 Y4).X), .f .f32 ((Zq Y0 Y1 Y4).Y), .f .f32 ((Zq Y0 Y1 Y4).Z)]).length from (by simpa using XC (c:=Gv.c) (l:=(Y4.set (((Y0.Sp.getD Y1.toNat default).A).toNat) (Zq Y0 Y1 Y4))) (i:=(Y0.Sp.getD Y1.toNat default).B) y_9 Y19)) <| sE (show ((Y4.map Gv.c).set (((Y0.Sp.getD Y1.toNat default).A).toNat) [.f .f32 ((Zq Y0 Y1 Y4).X), .f .f32 ((Zq Y0 Y1 Y4).Y), .f .f32 ((Zq Y0 Y1 Y4).Z)])[((Y0.Sp.getD Y1.toNat default).B).toNat]? = some [.f .f32 (((Y4.set (((Y0.Sp.getD Y1.toNat default).A).toNat) (Zq Y0 Y1 Y4)).getD (((Y0.Sp.getD Y1.toNat default).B).toNat) default).X), .f .f32 (((Y4.set (((Y0.Sp.getD Y1.toNat default).A).toNat) (Zq Y0 Y1 Y4)).getD (((Y0.Sp.getD Y1.toNat default).B).toNat) default).Y), .f .f32 (((Y4.set (((Y0.Sp.getD Y1.toNat default).A).toNat) (Zq Y0 Y1 Y4)).getD (((Y0.Sp.getD Y1.toNat default).B).toNat) default).Z)] from (by have q:=X1s (c:=Gv.c) (l:=(Y4.set (((Y0.Sp.getD Y1.toNat default).A).toNat) (Zq Y0 Y1 Y4))) (k:=((Y0.Sp.getD Y1.toNat default).B).toNat) Y1g; (simp only [List.map_set,List.map_append,List.map_cons,List.map_nil,List.map_replicate] at q; exact q))) <| sF (Z3o ((Z38 Y0 (Y0.Sp.getD Y1.toNat default)).1) (fneg .f32 ((Z38 Y0 (Y0.Sp.getD Y1.toNat default)).2))) <| sF (Z3A ((Y4.set (((Y0.Sp.getD Y1.toNat default).A).toNat) (Zq Y0 Y1 Y4)).getD (((Y0.Sp.getD Y1.toNat default).B).toNat) default) (Z9P Y0 Y1)) <| sC (show 0≤((Y0.Sp.getD Y1.toNat default).B)∧Int.toNat ((Y0.Sp.getD Y1.toNat default).B) < ((Y4.map Gv.c).set (((Y0.Sp.getD Y1.toNat default).A).toNat) [.f .f32 ((Zq Y0 Y1 Y4).X), .f .f32 ((Zq Y0 Y1 Y4).Y), .f .f32 ((Zq Y0 Y1 Y4).Z)]).length from (by simpa using XC (c:=Gv.c) (l:=(Y4.set (((Y0.Sp.getD Y1.toNat default).A).toNat) (Zq Y0 Y1 Y4))) (i:=(Y0.Sp.getD Y1.toNat default).B) y_9 Y19)) <| sC (show ((Y0.Sp.getD Y1.toNat default).B).toNat < ((Y4.map Gv.c).set (((Y0.Sp.getD Y1.toNat default).A).toNat) [.f .f32 ((Zq Y0 Y1 Y4).X), .f .f32 ((Zq Y0 Y1 Y4).Y), .f .f32 ((Zq Y0 Y1 Y4).Z)]).length from (by simpa using Y1g)) <| sI (Y1 + 1) Y1j Y1k <| sN) (by kernel_rfl) (by simp [Z6U,List.map_set,Gv.c]) (ih (Y1 + 1) ((Y4.set (((Y0.Sp.getD Y1.toNat default).A).toNat) (Zq Y0 Y1 Y4)).set (((Y0.Sp.getD Y1.toNat default).B).toNat) (Z3f Y0 Y1 Y4)) (show 0≤(Y1 + 1) from (by omega)) (show ((Y4.set (((Y0.Sp.getD Y1.toNat default).A).toNat) (Zq Y0 Y1 Y4)).set (((Y0.Sp.getD Y1.toNat default).B).toNat) (Z3f Y0 Y1 Y4)).length=Y0.Me.Pq.length from (by have q:=hp5.w; have q:=Z3E hp5 (by assumption) Yn; (simp only [List.length_set]; omega))) (by omega))
  | false =>
   have YM:=odf Yn
   have e:Z1u Y0 (k + 1) Y1 Y4=Y4:=by simp only [Z1u,Yn,cond_false]
   rw [e]
   exact outR (e:=(.exit 0)) E0Ok Z4 [] (mR false [0,1,1,3,15,13,247]) [0] (sB Yn <| sN) (by kernel_rfl) (by intro h; cases h)
theorem Zcz (Y0:Gb):∀ (k:Nat) (Y1:Int) (Y4:(List Gv)) (hk:((Y0.Sp.length:Int) - Y1).toNat < k),(Z1u Y0 k Y1 Y4).length=Y4.length:=by
  intro k
  induction k with
  | zero => intro Y1 Y4 hk; exact absurd hk (Nat.not_lt_zero _)
  | succ k ih =>
    intro Y1 Y4 hk
    cases Yn:(decide (Y1 < (Y0.Sp.length:Int))) with
    | true =>
      have e:Z1u Y0 (k + 1) Y1 Y4=(Z1u Y0 k (Y1 + 1) ((Y4.set (((Y0.Sp.getD Y1.toNat default).A).toNat) (Zq Y0 Y1 Y4)).set (((Y0.Sp.getD Y1.toNat default).B).toNat) (Z3f Y0 Y1 Y4))):=by simp only [Z1u,Yn,cond_true]
      rw [e,ih (Y1 + 1) ((Y4.set (((Y0.Sp.getD Y1.toNat default).A).toNat) (Zq Y0 Y1 Y4)).set (((Y0.Sp.getD Y1.toNat default).B).toNat) (Z3f Y0 Y1 Y4)) (by simp_all <;> omega)]; simp
    | false =>
      have e:Z1u Y0 (k + 1) Y1 Y4=Y4:=by simp only [Z1u,Yn,cond_false]
      first | (rw [e]; done) | (rw [e]; rfl)
def Z3j (Y0:Gb):(List Gv):=(Z1u Y0 (((Y0.Sp.length:Int) - 0).toNat + 1) 0 (List.replicate (Y0.Me.Pq.length:Int).toNat (⟨0,0,0⟩:Gv)))
@[simp] theorem ZgG (Y0:Gb):(Z3j Y0).length=((List.replicate (Y0.Me.Pq.length:Int).toNat (⟨0,0,0⟩:Gv)):(List Gv)).length:=Zcz Y0 (((Y0.Sp.length:Int) - 0).toNat + 1) 0 (List.replicate (Y0.Me.Pq.length:Int).toNat (⟨0,0,0⟩:Gv)) (by exact Nat.lt_succ_self _)
def Z2X (Y0:Gb) (Y1:Int):Nat:=(Z4M (fneg .f32 (fop .mul .f32 1056964608 Y0.Film)) (Z2u (Zg Y0.Me (Y0.Me.Tr.getD Y1.toNat default))))
end Go.Ab
