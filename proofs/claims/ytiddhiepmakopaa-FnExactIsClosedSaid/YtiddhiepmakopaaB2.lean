/- The functions of this seat as plain Lean, and that the program's are these. Printed by a program of the prover's own. -/
import Derived.Test.YtiddhiepmakopaaB1
set_option linter.unusedVariables false
set_option linter.unusedSimpArgs false
set_option maxRecDepth 100000
namespace Go.Ab
open Go.RowKit Go.Proofs.Try
def ZU (Y0:Gm) (Ye:Int) (Y6:(List (List Int))):(List (List Int)):=(Zl Y0 Ye Y6 (((Y0.Pq.length:Int) - (Ye + 1)).toNat + 1) (Ye + 1) Y6)
theorem Z5w (m:Gm) (a:Int) (r1:List (List Int)):∀ (k:Nat) (b:Int) (r:List (List Int)),(Zl m a r1 k b r).length≤r.length + k:=by
  intro k
  induction k with
  | zero=>intro b r;exact Nat.zero_le _
  | succ k ih =>
    intro b r
    rw [Zl]
    cases decide (b < (m.Pq.length:Int)) with
    | false=>rw [cond_false];omega
    | true =>
      rw [cond_true]
      cases ((Za m).getD ((IntKind.wrap .i64 ((IntKind.wrap .i64 (a * (m.Pq.length:Int))) + b)).toNat) default) with
      | true=>rw [cond_true];have:=ih (b + 1) (r ++ [[a,b]]);simp only [List.length_append,List.length_cons,List.length_nil] at this;omega
      | false=>rw [cond_false];have:=ih (b + 1) r;omega
def ZQ (Y0:Gm):Nat→Int→(List (List Int))→(List (List Int))
  | 0,_,_=>default
  | k + 1,Ye,Y6=>(cond (decide (Ye < (Y0.Pq.length:Int)))
    (ZQ Y0 k (Ye + 1) (ZU Y0 Ye Y6))
    Y6)
def Z2r (Y0:Gm) (r:(List (List Int))):Ex × St:=((.exit 4),⟨.ref (Gm.c Y0) 0 :: .any :: .nils :: .i .i64 (Y0.Pq.length:Int) :: .own 0 :: an 5 (.own 1 :: .any :: .any :: .ref (Gm.c Y0) 0 :: .ref (Gm.c Y0) 0 :: .ref (Gm.c Y0) 0 :: .sl (Y0.Pq.map Gv.c) :: .i .i64 (Y0.Pq.length:Int) :: .i .i64 (Y0.Pq.length:Int) :: .i .i64 (Y0.Pq.length:Int) :: .i .i64 (IntKind.wrap .i64 ((Y0.Pq.length:Int) * (Y0.Pq.length:Int))) :: .own 0 :: an 69 []),[.vec 4 1 ((Za Y0).map cB) false, .nest 79 (r.map fun l=>l.map (cI .i64)) false]⟩)
def Z35 (Y0:Gm) (Ye:Int) (Y6:(List (List Int))):St:=⟨.ref (Gm.c Y0) 0 :: .any :: .nils :: .i .i64 (Y0.Pq.length:Int) :: .own 0 :: an 5 (.own 1 :: .i .i64 Ye :: .any :: .ref (Gm.c Y0) 0 :: .ref (Gm.c Y0) 0 :: .ref (Gm.c Y0) 0 :: .sl (Y0.Pq.map Gv.c) :: .i .i64 (Y0.Pq.length:Int) :: .i .i64 (Y0.Pq.length:Int) :: .i .i64 (Y0.Pq.length:Int) :: .i .i64 (IntKind.wrap .i64 ((Y0.Pq.length:Int) * (Y0.Pq.length:Int))) :: .own 0 :: an 69 []),[.vec 4 1 ((Za Y0).map cB) false, .nest 79 (Y6.map fun l=>l.map (cI .i64)) false]⟩
theorem Z3X (Y0:Gm) (hp0:Y0.Pq.length≤1073741824) (hp1:Y0.Tr.length≤1073741824) (hp2:∀ t∈Y0.Tr,t.length≤1073741824) (hp3:OkE Y0.Pq.length Y0.Tr):∀ (k:Nat) (Ye:Int) (Y6:(List (List Int))) (Z1J:0≤Ye) (Z1K:(Y6.length:Int)≤64 * Ye) (hk:((Y0.Pq.length:Int) - Ye).toNat < k),Lp prog 0 (sub (X0 f66) [1,1,1,1,1,0,1,0,0]) (Z35 Y0 Ye Y6) (Z2r Y0 (ZQ Y0 k Ye Y6)).1 (Z2r Y0 (ZQ Y0 k Ye Y6)).2:=by
 intro k
 induction k with
 | zero=>intro Ye Y6 Z1J Z1K hk;exact absurd hk (Nat.not_lt_zero _)
 | succ k ih =>
  intro Ye Y6 Z1J Z1K hk
  cases Yf:(decide (Ye < (Y0.Pq.length:Int))) with
  | true =>
   have Yt:=odt Yf
   have Yx:(-9223372036854775808:Int)≤(Ye + 1):=(by omega)
   have Yw:(Ye + 1)≤(9223372036854775807:Int):=(by omega)
   have e:ZQ Y0 (k + 1) Ye Y6=(ZQ Y0 k (Ye + 1) (ZU Y0 Ye Y6)):=by simp only [ZQ,Yf,cond_true]
   rw [e]
   exact Xp E0Ok Z4 [] (mR false [0,1,1,3,5,2,1,9,69]) [0,1] (ih (Ye + 1) (ZU Y0 Ye Y6) (show 0≤(Ye + 1) from (by omega)) (show ((ZU Y0 Ye Y6).length:Int)≤64 * (Ye + 1) from (by ((have:=hp3.1;have g4:=odt Yf;have q:=Z5w Y0 Ye Y6 (((Y0.Pq.length:Int) - (Ye + 1)).toNat + 1) (Ye + 1) Y6;unfold ZU;omega)))) (by omega)) (sB Yf<|sI (Ye + 1) Yx Yw<|sL Z27 2 (X6 (Z2q Y0 Ye Y6) (x:=(ZU Y0 Ye Y6)) (Z3W Y0 Ye Y6 hp0 hp1 hp2 hp3 Z1J Z1K Yf (((Y0.Pq.length:Int) - (Ye + 1)).toNat + 1) (Ye + 1) Y6 (show Ye < (Ye + 1) from (by omega)) (show (Y6.length:Int)≤(Y6.length:Int) + (Ye + 1) from (by omega)) (Nat.lt_succ_self _)) rfl)<|sI (Ye + 1) Yx Yw<|sN) (by kernel_rfl)
  | false =>
   have Yt:=odf Yf
   have e:ZQ Y0 (k + 1) Ye Y6=Y6:=by simp only [ZQ,Yf,cond_false]
   rw [e]
   exact outR (e:=(.exit 4)) E0Ok Z4 [] (mR false [0,1,1,3,5,1,2,9,69]) [0,1] (sB Yf<|sN) (by kernel_rfl) (by intro h;cases h)
def Z1M (Y0:Gm):(List (List Int)):=(ZQ Y0 (((Y0.Pq.length:Int) - 0).toNat + 1) 0 ([]:List (List Int)))
def Z1 (Y0:Gm):(List (List Int)):=(Z1M Y0)
theorem Z5p (m:Gm) (i:Int) (r:List Bool):ZC m i r=((r.set (IntKind.wrap .i64 (IntKind.wrap .i64 (ZZ ((m.Tr.getD i.toNat default).getD 0 default) ((m.Tr.getD i.toNat default).getD 1 default) * (m.Pq.length:Int)) + Z10 ((m.Tr.getD i.toNat default).getD 0 default) ((m.Tr.getD i.toNat default).getD 1 default))).toNat true).set (IntKind.wrap .i64 (IntKind.wrap .i64 (ZZ ((m.Tr.getD i.toNat default).getD 1 default) ((m.Tr.getD i.toNat default).getD 2 default) * (m.Pq.length:Int)) + Z10 ((m.Tr.getD i.toNat default).getD 1 default) ((m.Tr.getD i.toNat default).getD 2 default))).toNat true).set (IntKind.wrap .i64 (IntKind.wrap .i64 (ZZ ((m.Tr.getD i.toNat default).getD 2 default) ((m.Tr.getD i.toNat default).getD 0 default) * (m.Pq.length:Int)) + Z10 ((m.Tr.getD i.toNat default).getD 2 default) ((m.Tr.getD i.toNat default).getD 0 default))).toNat true:=by
  have one:∀ (r0:List Bool) (k:Nat) (x:Int) (s:List Bool),x < 3→Zd m i r0 (k + 1) x s=Zd m i r0 k (x + 1) (s.set (IntKind.wrap .i64 (IntKind.wrap .i64 (Zn m i x * (m.Pq.length:Int)) + Zr m i x)).toNat true):=by
    intro r0 k x s hx
    rw [Zd,decide_eq_true hx,cond_true]
  unfold ZC
  show Zd m i r 4 0 r=_
  rw [one r 3 0 r (by omega),one r 2 (0 + 1) _ (by omega),one r 1 (0 + 1 + 1) _ (by omega),Zd]
  show cond (decide ((3:Int) < 3)) _ _=_
  rw [decide_eq_false (by omega),cond_false]
  rfl
theorem Z5q (m:Gm) (ok:OkE m.Pq.length m.Tr) {a b:Int} (ha:0≤a) (hab:a < b) (hb:b < (m.Pq.length:Int)):∀ (k:Nat) (i:Nat) (r:List Bool),i≤m.Tr.length→((m.Tr.length:Int) - i).toNat < k→r.length=(IntKind.wrap .i64 ((m.Pq.length:Int) * (m.Pq.length:Int))).toNat →
    (Zk m k i r).getD (IntKind.wrap .i64 (IntKind.wrap .i64 (a * (m.Pq.length:Int)) + b)).toNat default=(r.getD (IntKind.wrap .i64 (IntKind.wrap .i64 (a * (m.Pq.length:Int)) + b)).toNat default || (m.Tr.drop i).any fun t=>tHas t a b):=by
  intro k
  induction k with
  | zero=>intro i r _ hk;exact absurd hk (Nat.not_lt_zero _)
  | succ k ih =>
    intro i r hle hk hr
    rw [Zk]
    by_cases hi:(i:Int) < (m.Tr.length:Int)
    · have hn:i < m.Tr.length:=by omega
      rw [decide_eq_true hi,cond_true]
      have:=ih (i + 1) (ZC m i r) (by omega) (by omega) (by rw [Z3d];exact hr)
      rw [show ((i:Int) + 1)=((i + 1:Nat):Int) from by omega,this,Z5p,List.drop_eq_getElem_cons hn,List.any_cons]
      have hg:m.Tr.getD ((i:Nat):Int).toNat default=m.Tr[i]:=by rw [show ((i:Nat):Int).toNat=i from by omega,List.getD_eq_getElem?_getD,List.getElem?_eq_getElem hn];rfl
      obtain ⟨x,y,z,ht,r1,r2,r3,n1,n2,n3⟩:=ok.2.2 _ (List.getElem_mem hn)
      have h64:(m.Pq.length:Int)≤64:=by have:=ok.1;omega
      rw [hg,ht]
      simp only [List.getD_cons_zero,List.getD_cons_succ]
      rw [X3C h64 (Z3A z x) (Z3p r3 r1) (Z3q r3 r1) ha hab hb (by simpa using hr),X3C h64 (Z3A y z) (Z3p r2 r3) (Z3q r2 r3) ha hab hb (by simpa using hr),X3C h64 (Z3A x y) (Z3p r1 r2) (Z3q r1 r2) ha hab hb hr]
      have hT:=X3Z n1 n2 n3 hab
      unfold tE at hT
      simp only [List.getD_cons_zero,List.getD_cons_succ,List.mem_cons,List.not_mem_nil,or_false] at hT
      generalize r.getD (IntKind.wrap .i64 (IntKind.wrap .i64 (a * (m.Pq.length:Int)) + b)).toNat default=q
      generalize ((m.Tr.drop (i + 1)).any fun t=>tHas t a b)=q2
      have hB:tHas [x,y,z] a b=(decide ((⟨a,b⟩:Gedge)=mkE x y) || (decide ((⟨a,b⟩:Gedge)=mkE y z) || decide ((⟨a,b⟩:Gedge)=mkE z x))):=by
        rw [Bool.eq_iff_iff,← hT];simp only [Bool.or_eq_true,decide_eq_true_eq]
      rw [hB]
      cases decide ((⟨a,b⟩:Gedge)=mkE x y)<;>cases decide ((⟨a,b⟩:Gedge)=mkE y z)<;>cases decide ((⟨a,b⟩:Gedge)=mkE z x)<;>cases q<;>cases q2<;>rfl
    · rw [decide_eq_false hi,cond_false,List.drop_eq_nil_of_le (by omega)];simp
theorem Z5x (m:Gm) (ok:OkE m.Pq.length m.Tr) {a b:Int} (ha:0≤a) (hab:a < b) (hb:b < (m.Pq.length:Int)) :
    (Za m).getD (IntKind.wrap .i64 (IntKind.wrap .i64 (a * (m.Pq.length:Int)) + b)).toNat default=m.Tr.any fun t=>tHas t a b:=by
  unfold Za
  have:=Z5q m ok ha hab hb (((m.Tr.length:Int) - 0).toNat + 1) 0 (List.replicate (IntKind.wrap .i64 ((m.Pq.length:Int) * (m.Pq.length:Int))).toNat false) (Nat.zero_le _) (by omega) (by simp)
  rw [List.drop_zero] at this
  refine this.trans ?_
  rw [List.getD_eq_getElem?_getD,List.getElem?_replicate]
  split<;>simp
theorem Z29 (m:Gm) (ok:OkE m.Pq.length m.Tr):Z1 m=(edgL m.Pq.length m.Tr).map e2:=by
  rw [X7v]
  unfold Z1 Z1M
  refine X78 (n:=m.Pq.length) (p:=fun a b=>m.Tr.any fun t=>tHas t a b) (g:=fun a b=>e2 ⟨a,b⟩) (lo:=ZQ m) (li:=ZU m) (fun k a r=>rfl) (fun a r ha => ?_) _ 0 (Nat.zero_le _) (by omega)
  unfold ZU
  have hf:=X4x (n:=(m.Pq.length:Int)) (f:=fun b => !((Za m).getD ((IntKind.wrap .i64 ((IntKind.wrap .i64 ((a:Int) * (m.Pq.length:Int))) + b)).toNat) default)) (g:=fun b => [(a:Int),b]) (lo:=Zl m a r) (fun k i r'=>by
    rw [Zl]
    cases ((Za m).getD ((IntKind.wrap .i64 ((IntKind.wrap .i64 ((a:Int) * (m.Pq.length:Int))) + i)).toNat) default)<;>rfl) (((m.Pq.length:Int) - ((a:Int) + 1)).toNat + 1) ((a:Int) + 1) r (Nat.lt_succ_self _)
  rw [hf,show ((m.Pq.length:Int) - ((a:Int) + 1)).toNat=m.Pq.length - (a + 1) from by omega]
  congr 1
  have hfc:((List.range (m.Pq.length - (a + 1))).filter fun (j:Nat) => !(!((Za m).getD ((IntKind.wrap .i64 ((IntKind.wrap .i64 ((a:Int) * (m.Pq.length:Int))) + ((a:Int) + 1 + (j:Int)))).toNat) default)))=(List.range (m.Pq.length - (a + 1))).filter fun (j:Nat)=>m.Tr.any fun t=>tHas t a ((a:Int) + 1 + j):=by
    refine List.filter_congr fun j hj => ?_
    rw [List.mem_range] at hj
    rw [Bool.not_not,Z5x m ok (by omega) (by omega) (by omega)]
  rw [hfc]
  rfl
theorem Z4X (m:Gm) (ok:OkE m.Pq.length m.Tr):(Z1 m).length≤4096:=by
  rw [Z29 m ok,List.length_map];exact X3A ok
theorem Z17 (m:Gm) (ok:OkE m.Pq.length m.Tr) {i:Int} (h0:0≤i) (hi:i < ((Z1 m).length:Int)) :
    ((Z1 m).getD i.toNat default).length=2∧0≤((Z1 m).getD i.toNat default).getD 0 default∧((Z1 m).getD i.toNat default).getD 0 default < ((Z1 m).getD i.toNat default).getD 1 default∧((Z1 m).getD i.toNat default).getD 1 default < (m.Pq.length:Int)∧(m.Pq.length:Int)≤64∧((Z1 m).length:Int)≤4096:=by
  have hl:=Z4X m ok
  have h64:=ok.1
  rw [Z29 m ok] at hi hl ⊢
  rw [List.length_map] at hi hl
  have hn:i.toNat < (edgL m.Pq.length m.Tr).length:=by omega
  have hg:((edgL m.Pq.length m.Tr).map e2).getD i.toNat default=e2 (edgL m.Pq.length m.Tr)[i.toNat]:=by rw [List.getD_eq_getElem?_getD,List.getElem?_map,List.getElem?_eq_getElem hn];rfl
  have hb:=X2E (List.getElem_mem hn)
  rw [hg,List.length_map]
  exact ⟨rfl,hb.1,hb.2.1,hb.2.2,by omega,by omega⟩
theorem Z3u (Y0:Gm) (hp0:Y0.Pq.length≤1073741824) (hp1:Y0.Tr.length≤1073741824) (hp2:∀ t∈Y0.Tr,t.length≤1073741824) (hp3:OkE Y0.Pq.length Y0.Tr)  : Fn prog 66 [.ref (Gm.c Y0) 0] (.own 0) [.nest 79 ((Z1 Y0).map fun l=>l.map (cI .i64)) false]:=by
 have y0:(0:Int)≤(IntKind.wrap .i64 ((Y0.Pq.length:Int) * (Y0.Pq.length:Int))):=(by (have q2:=ixN hp3.1;omega))
 have y1:((IntKind.wrap .i64 ((Y0.Pq.length:Int) * (Y0.Pq.length:Int))):Int)≤2147483648:=(by (have q2:=ixN hp3.1;omega))
 refine fnS E0Ok Z4 (c:=X0 f66) [] (.own 0) [.nest 79 ((Z1M Y0).map fun l=>l.map (cI .i64)) false] func66 (sZ Gv.c Y0.Pq<|sW .i64 ((Y0.Pq.length:Int) * (Y0.Pq.length:Int))<|sC (show (IntKind.wrap .i64 ((Y0.Pq.length:Int) * (Y0.Pq.length:Int)))=(IntKind.wrap .i64 ((Y0.Pq.length:Int) * (Y0.Pq.length:Int))) from rfl)<|sC y0<|sC y1<|sL (mR false [0,1,1,4,7,9,69]) 1 (XV (st2:=⟨.ref (Gm.c Y0) 0 :: .any :: .nils :: .i .i64 (Y0.Pq.length:Int) :: .own 0 :: .i .i64 0 :: an 7 (.ref (Gm.c Y0) 0 :: .ref (Gm.c Y0) 0 :: .ref (Gm.c Y0) 0 :: .sl (Y0.Pq.map Gv.c) :: .i .i64 (Y0.Pq.length:Int) :: .i .i64 (Y0.Pq.length:Int) :: .i .i64 (Y0.Pq.length:Int) :: .i .i64 (IntKind.wrap .i64 ((Y0.Pq.length:Int) * (Y0.Pq.length:Int))) :: .own 0 :: an 69 []),[.vec 4 1 (List.replicate (Int.toNat (IntKind.wrap .i64 ((Y0.Pq.length:Int) * (Y0.Pq.length:Int)))) [.b false]) false]⟩) (X6 (Z2p Y0) (x:=(Za Y0)) (Z3V Y0 hp0 hp1 hp2 hp3 (((Y0.Tr.length:Int) - 0).toNat + 1) 0 (List.replicate (IntKind.wrap .i64 ((Y0.Pq.length:Int) * (Y0.Pq.length:Int))).toNat false) (show 0≤0 from (by omega)) (show (List.replicate (IntKind.wrap .i64 ((Y0.Pq.length:Int) * (Y0.Pq.length:Int))).toNat false).length=(IntKind.wrap .i64 ((Y0.Pq.length:Int) * (Y0.Pq.length:Int))).toNat from (by simp)) (Nat.lt_succ_self _)) rfl) (by simp [Z33,cB]))<|sL (mR false [0,1,1,3,5,2,1,9,69]) 2 (XV (st2:=⟨.ref (Gm.c Y0) 0 :: .any :: .nils :: .i .i64 (Y0.Pq.length:Int) :: .own 0 :: an 5 (.own 1 :: .i .i64 0 :: .any :: .ref (Gm.c Y0) 0 :: .ref (Gm.c Y0) 0 :: .ref (Gm.c Y0) 0 :: .sl (Y0.Pq.map Gv.c) :: .i .i64 (Y0.Pq.length:Int) :: .i .i64 (Y0.Pq.length:Int) :: .i .i64 (Y0.Pq.length:Int) :: .i .i64 (IntKind.wrap .i64 ((Y0.Pq.length:Int) * (Y0.Pq.length:Int))) :: .own 0 :: an 69 []),[.vec 4 1 ((Za Y0).map cB) false, .nest 79 [] false]⟩) (X6 (Z2r Y0) (x:=(Z1M Y0)) (Z3X Y0 hp0 hp1 hp2 hp3 (((Y0.Pq.length:Int) - 0).toNat + 1) 0 ([]:List (List Int)) (show 0≤0 from (by omega)) (show (([]:List (List Int)).length:Int)≤64 * 0 from (by simp)) (Nat.lt_succ_self _)) rfl) (by simp [Z35,cL,cI]))<|sK [1] sN) rfl (by kernel_rfl) (by kernel_rfl) rfl ?_ ?_
 · rfl
 · simp [Z1]
def Z1h (Yl:(List Int)) (YB:Int):Bool:=(cond ((Yl.getD 0 default) == YB)
  true
  (cond ((Yl.getD 1 default) == YB)
    true
    ((Yl.getD 2 default) == YB)))
theorem Z3G (Yl:(List Int)) (YB:Int) (hp0:Yl.length≤1073741824) (hp1:Yl.length=3)  : Fn prog 108 [.sl (Yl.map (cI .i64)), .i .i64 YB] (.b (Z1h Yl YB)) []:=by
 have y0:(0:Int)≤0:=(by omega)
 have y1:0 < (Yl.length:Int):=(by omega)
 have p {a C} (s:Scr a C):=sG (cI .i64) Yl 0 y0 y1<|s
 cases h0:((Yl.getD 0 default) == YB) with
 | true =>
  have gh0:=eq_of_beq h0
  refine fnS E0Ok Z4 (c:=X0 f108) [] (.b true) [] func108 (p (sB h0<|sB h0<|sB h0<|sB h0<|sB h0<|sB h0<|sB (show true=true from rfl)<|sB (show true=true from rfl)<|sB (show true=true from rfl)<|sB (show true=true from rfl)<|sB (show true=true from rfl)<|sB (show true=true from rfl)<|sK [] sN)) rfl (by kernel_rfl) (by kernel_rfl) rfl ?_ ?_
  · simp only [Z1h,h0,cond_true]
  · rfl
 | false =>
  have gh0:=ne_of_beq_false h0
  have y2:(0:Int)≤1:=by clear p;exact (by omega)
  have y3:1 < (Yl.length:Int):=by clear p;exact (by omega)
  have q {a C} (s:Scr a C):=p (sB h0<|sB h0<|sG (cI .i64) Yl 1 y2 y3<|sB h0<|sB h0<|sB h0<|sB h0<|s)
  clear p
  cases h1:((Yl.getD 1 default) == YB) with
  | true =>
   have gh1:=eq_of_beq h1
   refine fnS E0Ok Z4 (c:=X0 f108) [] (.b true) [] func108 (q (sB h1<|sB h1<|sB h1<|sB h1<|sB h1<|sB h1<|sK [] sN)) rfl (by kernel_rfl) (by kernel_rfl) rfl ?_ ?_
   · simp only [Z1h,h0,h1,cond_true,cond_false]
   · rfl
  | false =>
   have gh1:=ne_of_beq_false h1
   have y4:(0:Int)≤2:=by clear q;exact (by omega)
   have y5:2 < (Yl.length:Int):=by clear q;exact (by omega)
   refine fnS E0Ok Z4 (c:=X0 f108) [] (.b ((Yl.getD 2 default) == YB)) [] func108 (q (sB h1<|sB h1<|sG (cI .i64) Yl 2 y4 y5<|sB h1<|sB h1<|sB h1<|sB h1<|sK [] sN)) rfl (by kernel_rfl) (by kernel_rfl) rfl ?_ ?_
   · simp only [Z1h,h0,h1,cond_false]
   · rfl
def Zo (Y0:Gm) (Yy:Int) (Yz:Int):Nat→Int→(List Int)→(List Int)
  | 0,_,_=>default
  | k + 1,Y3,Y7=>(cond (decide (Y3 < (Y0.Tr.length:Int)))
    (cond (Z1h (Y0.Tr.getD Y3.toNat default) Yy)
      (cond (Z1h (Y0.Tr.getD Y3.toNat default) Yz)
        (Zo Y0 Yy Yz k (Y3 + 1) (Y7 ++ [Y3]))
        (Zo Y0 Yy Yz k (Y3 + 1) Y7))
      (Zo Y0 Yy Yz k (Y3 + 1) Y7))
    Y7)
def Z2Q (Y0:Gm) (Yy:Int) (Yz:Int) (r:(List Int)):Ex × St:=((.exit 0),⟨an 6 (.nils :: .own 0 :: an 36 []),[.vec 2 1 (r.map (cI .i64)) false]⟩)
def Z2R (Y0:Gm) (Yy:Int) (Yz:Int) (Y3:Int) (Y7:(List Int)):St:=⟨.ref (Gm.c Y0) 0 :: .i .i64 Yy :: .i .i64 Yz :: .any :: .any :: .any :: .nils :: .own 0 :: .i .i64 Y3 :: an 35 [],[.vec 2 1 (Y7.map (cI .i64)) false]⟩
theorem Z4w (Y0:Gm) (Yy:Int) (Yz:Int) (hp0:Y0.Pq.length≤1073741824) (hp1:Y0.Tr.length≤1073741824) (hp2:∀ t∈Y0.Tr,t.length≤1073741824) (hp3:OkE Y0.Pq.length Y0.Tr):∀ (k:Nat) (Y3:Int) (Y7:(List Int)) (Z3g:0≤Y3) (Z3h:(Y7.length:Int)≤Y3) (hk:((Y0.Tr.length:Int) - Y3).toNat < k),Lp prog 0 (sub (X0 f67) [1,1,0,1,0,0]) (Z2R Y0 Yy Yz Y3 Y7) (Z2Q Y0 Yy Yz (Zo Y0 Yy Yz k Y3 Y7)).1 (Z2Q Y0 Yy Yz (Zo Y0 Yy Yz k Y3 Y7)).2:=by
 intro k
 induction k with
 | zero=>intro Y3 Y7 Z3g Z3h hk;exact absurd hk (Nat.not_lt_zero _)
 | succ k ih =>
  intro Y3 Y7 Z3g Z3h hk
  have p {a C} (s:Scr a C):=sZ (cL (cI .i64)) Y0.Tr<|s
  cases Yf:(decide (Y3 < (Y0.Tr.length:Int))) with
  | true =>
   have Yt:=odt Yf
   have Yx:(0:Int)≤Y3:=by clear p;exact (by assumption)
   have Yw:Y3 < (Y0.Tr.length:Int):=by clear p;exact (by assumption)
   have YC:(Y0.Tr.getD Y3.toNat default).length≤1073741824:=by clear p;exact (by exact X8b hp3 (by assumption) Yf)
   have YA:(Y0.Tr.getD Y3.toNat default).length=3:=by clear p;exact (by exact (tri3 hp3 (by assumption) Yf).1)
   have q {a C} (s:Scr a C):=p (sB Yf<|sG (cL (cI .i64)) Y0.Tr Y3 Yx Yw<|sF (Z3G (Y0.Tr.getD Y3.toNat default) Yy YC YA)<|s)
   clear p
   cases Yi:(Z1h (Y0.Tr.getD Y3.toNat default) Yy) with
   | true =>
    have p {a C} (s:Scr a C):=q (sB Yi<|sB Yi<|sB Yi<|sB Yi<|sB Yi<|sB Yi<|sG (cL (cI .i64)) Y0.Tr Y3 Yx Yw<|sB Yi<|sB Yi<|sB Yi<|sF (Z3G (Y0.Tr.getD Y3.toNat default) Yz YC YA)<|sB Yi<|s)
    clear q
    cases Ym:(Z1h (Y0.Tr.getD Y3.toNat default) Yz) with
    | true =>
     have YE:Y7.length + ([Y3]).length≤1073741824:=by clear p;exact (by have q:=hp3.2.1;(simp only [List.length_cons,List.length_nil];omega))
     have YL:(-9223372036854775808:Int)≤(Y3 + 1):=by clear p;exact (by omega)
     have YW:(Y3 + 1)≤(9223372036854775807:Int):=by clear p;exact (by omega)
     have e:Zo Y0 Yy Yz (k + 1) Y3 Y7=(Zo Y0 Yy Yz k (Y3 + 1) (Y7 ++ [Y3])):=by simp only [Zo,Yf,Yi,Ym,cond_true]
     rw [e]
     exact XW E0Ok Z4 [] (mR false [0,3,3,3,35]) [0] (⟨.ref (Gm.c Y0) 0 :: .i .i64 Yy :: .i .i64 Yz :: .any :: .any :: .any :: .nils :: .own 0 :: .i .i64 (Y3 + 1) :: an 35 [],[.vec 2 1 ((Y7.map (cI .i64)) ++ ([[.i .i64 Y3]]:List (List AV))) false]⟩) (p (sB Ym<|sC (show (Y7.map (cI .i64)).length + ([[.i .i64 Y3]]:List (List AV)).length≤1073741824 from (by simpa using YE))<|sI (Y3 + 1) YL YW<|sN)) (by kernel_rfl) (by simp [Z2R,cI]) (ih (Y3 + 1) (Y7 ++ [Y3]) (show 0≤(Y3 + 1) from (by omega)) (show ((Y7 ++ [Y3]).length:Int)≤(Y3 + 1) from (by simp_all<;>omega)) (by omega))
    | false =>
     have YE:(-9223372036854775808:Int)≤(Y3 + 1):=by clear p;exact (by omega)
     have YL:(Y3 + 1)≤(9223372036854775807:Int):=by clear p;exact (by omega)
     have e:Zo Y0 Yy Yz (k + 1) Y3 Y7=(Zo Y0 Yy Yz k (Y3 + 1) Y7):=by simp only [Zo,Yf,Yi,Ym,cond_true,cond_false]
     rw [e]
     exact Xp E0Ok Z4 [] (mR false [0,3,3,3,35]) [0] (ih (Y3 + 1) Y7 (show 0≤(Y3 + 1) from (by omega)) (show (Y7.length:Int)≤(Y3 + 1) from (by omega)) (by omega)) (p (sB Ym<|sI (Y3 + 1) YE YL<|sN)) (by kernel_rfl)
   | false =>
    have YE:(-9223372036854775808:Int)≤(Y3 + 1):=by clear q;exact (by omega)
    have YL:(Y3 + 1)≤(9223372036854775807:Int):=by clear q;exact (by omega)
    have e:Zo Y0 Yy Yz (k + 1) Y3 Y7=(Zo Y0 Yy Yz k (Y3 + 1) Y7):=by simp only [Zo,Yf,Yi,cond_true,cond_false]
    rw [e]
    exact Xp E0Ok Z4 [] (mR false [0,3,3,3,35]) [0] (ih (Y3 + 1) Y7 (show 0≤(Y3 + 1) from (by omega)) (show (Y7.length:Int)≤(Y3 + 1) from (by omega)) (by omega)) (q (sB Yi<|sB Yi<|sB Yi<|sB Yi<|sB Yi<|sB Yi<|sB Yi<|sB Yi<|sB Yi<|sB Yi<|sB (show false=false from rfl)<|sI (Y3 + 1) YE YL<|sN)) (by kernel_rfl)
  | false =>
   have Yt:=odf Yf
   have e:Zo Y0 Yy Yz (k + 1) Y3 Y7=Y7:=by simp only [Zo,Yf,cond_false]
   rw [e]
   exact outR (e:=(.exit 0)) E0Ok Z4 [] (mR false [6,2,36]) [0] (p (sB Yf<|sN)) (by kernel_rfl) (by intro h;cases h)
def Z1Z (Y0:Gm) (Yy:Int) (Yz:Int):(List Int):=(Zo Y0 Yy Yz (((Y0.Tr.length:Int) - 0).toNat + 1) 0 ([]:List Int))
def Z7 (Y0:Gm) (Yy:Int) (Yz:Int):(List Int):=(Z1Z Y0 Yy Yz)
theorem Z4j (m:Gm) (a b:Int):Z7 m a b=idxP m.Tr a b:=by
  unfold Z7 Z1Z
  rw [X4x (n:=(m.Tr.length:Int)) (f:=fun i => !(tHas (m.Tr.getD i.toNat default) a b)) (g:=fun i=>i) (lo:=Zo m a b) (fun k i r=>by
    rw [Zo]
    unfold Z1h tHas
    generalize m.Tr.getD i.toNat default=t
    cases decide (i < (m.Tr.length:Int))<;>cases (t.getD 0 default == a)<;>cases (t.getD 1 default == a)<;>cases (t.getD 2 default == a)<;>cases (t.getD 0 default == b)<;>cases (t.getD 1 default == b)<;>cases (t.getD 2 default == b)<;>rfl) _ _ _ (Nat.lt_succ_self _)]
  unfold idxP
  rw [List.nil_append,show ((m.Tr.length:Int) - 0).toNat=m.Tr.length from by omega]
  have h1:∀ j:Nat,((0:Int) + (j:Int)).toNat=j:=fun j=>by omega
  have h2:∀ j:Nat,((0:Int) + (j:Int))=(j:Int):=fun j=>by omega
  simp only [Bool.not_not,h1,h2,Int.toNat_natCast]
theorem Z3Y (Y0:Gm) (Yy:Int) (Yz:Int) (hp0:Y0.Pq.length≤1073741824) (hp1:Y0.Tr.length≤1073741824) (hp2:∀ t∈Y0.Tr,t.length≤1073741824) (hp3:OkE Y0.Pq.length Y0.Tr)  : Fn prog 67 [.ref (Gm.c Y0) 0, .i .i64 Yy, .i .i64 Yz] (.own 0) [.vec 2 1 ((Z7 Y0 Yy Yz).map (cI .i64)) false]:=by
 refine fnS E0Ok Z4 (c:=X0 f67) [] (.own 0) [.vec 2 1 ((Z1Z Y0 Yy Yz).map (cI .i64)) false] func67 (sL (mR false [0,3,3,3,35]) 1 (XV (st2:=⟨.ref (Gm.c Y0) 0 :: .i .i64 Yy :: .i .i64 Yz :: .any :: .any :: .any :: .nils :: .own 0 :: .i .i64 0 :: an 35 [],[.vec 2 1 ([]:List (List AV)) false]⟩) (X6 (Z2Q Y0 Yy Yz) (x:=(Z1Z Y0 Yy Yz)) (Z4w Y0 Yy Yz hp0 hp1 hp2 hp3 (((Y0.Tr.length:Int) - 0).toNat + 1) 0 ([]:List Int) (show 0≤0 from (by omega)) (show (([]:List Int).length:Int)≤0 from (by simp)) (Nat.lt_succ_self _)) rfl) (by simp [Z2R,cI]))<|sK [0] sN) rfl (by kernel_rfl) (by kernel_rfl) rfl ?_ ?_
 · rfl
 · simp [Z7]
def ZE (Yl:(List Int)) (Yy:Int) (Yz:Int):Bool:=(cond ((Yl.getD 0 default) == Yy)
  (cond ((Yl.getD 1 default) == Yz)
    true
    (cond ((Yl.getD 1 default) == Yy)
      (cond ((Yl.getD 2 default) == Yz)
        true
        (cond ((Yl.getD 2 default) == Yy)
          ((Yl.getD 0 default) == Yz)
          false))
      (cond ((Yl.getD 2 default) == Yy)
        ((Yl.getD 0 default) == Yz)
        false)))
  (cond ((Yl.getD 1 default) == Yy)
    (cond ((Yl.getD 2 default) == Yz)
      true
      (cond ((Yl.getD 2 default) == Yy)
        ((Yl.getD 0 default) == Yz)
        false))
    (cond ((Yl.getD 2 default) == Yy)
      ((Yl.getD 0 default) == Yz)
      false)))
theorem Z3y (Yl:(List Int)) (Yy:Int) (Yz:Int) (hp0:Yl.length≤1073741824) (hp1:Yl.length=3)  : Fn prog 119 [.sl (Yl.map (cI .i64)), .i .i64 Yy, .i .i64 Yz] (.b (ZE Yl Yy Yz)) []:=by
 have y0:(0:Int)≤0:=(by omega)
 have y1:0 < (Yl.length:Int):=(by omega)
 have p {a C} (s:Scr a C):=sG (cI .i64) Yl 0 y0 y1<|s
 cases h0:((Yl.getD 0 default) == Yy) with
 | true =>
  have gh0:=eq_of_beq h0
  have y2:(0:Int)≤1:=by clear p;exact (by omega)
  have y3:1 < (Yl.length:Int):=by clear p;exact (by omega)
  have q {a C} (s:Scr a C):=p (sB h0<|sB h0<|sG (cI .i64) Yl 1 y2 y3<|sB h0<|sB h0<|sB h0<|sB h0<|s)
  clear p
  cases h1:((Yl.getD 1 default) == Yz) with
  | true =>
   have gh1:=eq_of_beq h1
   refine fnS E0Ok Z4 (c:=X0 f119) [] (.b true) [] func119 (q (sB h1<|sB h1<|sB h1<|sB h1<|sB h1<|sB h1<|sB h1<|sB h1<|sB (show true=true from rfl)<|sB (show true=true from rfl)<|sB (show true=true from rfl)<|sB (show true=true from rfl)<|sB (show true=true from rfl)<|sB (show true=true from rfl)<|sB (show true=true from rfl)<|sB (show true=true from rfl)<|sK [] sN)) rfl (by kernel_rfl) (by kernel_rfl) rfl ?_ ?_
   · simp only [ZE,h0,h1,cond_true]
   · rfl
  | false =>
   have gh1:=ne_of_beq_false h1
   have p {a C} (s:Scr a C):=q (sB h1<|sB h1<|sG (cI .i64) Yl 1 y2 y3<|sB h1<|sB h1<|sB h1<|sB h1<|s)
   clear q
   cases h2:((Yl.getD 1 default) == Yy) with
   | true =>
    have gh2:=eq_of_beq h2
    have y4:(0:Int)≤2:=by clear p;exact (by omega)
    have y5:2 < (Yl.length:Int):=by clear p;exact (by omega)
    have q {a C} (s:Scr a C):=p (sB h2<|sB h2<|sG (cI .i64) Yl 2 y4 y5<|sB h2<|sB h2<|sB h2<|sB h1<|sB h2<|sB h1<|s)
    clear p
    cases h3:((Yl.getD 2 default) == Yz) with
    | true =>
     have gh3:=eq_of_beq h3
     refine fnS E0Ok Z4 (c:=X0 f119) [] (.b true) [] func119 (q (sB h3<|sB h3<|sB h3<|sB h3<|sB h3<|sB h3<|sB h3<|sB h3<|sK [] sN)) rfl (by kernel_rfl) (by kernel_rfl) rfl ?_ ?_
     · simp only [ZE,h0,h1,h2,h3,cond_true,cond_false]
     · rfl
    | false =>
     have gh3:=ne_of_beq_false h3
     have p {a C} (s:Scr a C):=q (sB h3<|sB h3<|sG (cI .i64) Yl 2 y4 y5<|sB h3<|sB h3<|sB h3<|sB h3<|s)
     clear q
     cases h4:((Yl.getD 2 default) == Yy) with
     | true =>
      have gh4:=eq_of_beq h4
      refine fnS E0Ok Z4 (c:=X0 f119) [] (.b ((Yl.getD 0 default) == Yz)) [] func119 (p (sB h4<|sB h4<|sG (cI .i64) Yl 0 y0 y1<|sB h4<|sB h4<|sB h4<|sB h3<|sB h4<|sB h3<|sK [] sN)) rfl (by kernel_rfl) (by kernel_rfl) rfl ?_ ?_
      · simp only [ZE,h0,h1,h2,h3,h4,cond_true,cond_false]
      · rfl
     | false =>
      have gh4:=ne_of_beq_false h4
      refine fnS E0Ok Z4 (c:=X0 f119) [] (.b false) [] func119 (p (sB h4<|sB h4<|sB h4<|sB h4<|sB h4<|sB h3<|sB h4<|sB h3<|sK [] sN)) rfl (by kernel_rfl) (by kernel_rfl) rfl ?_ ?_
      · simp only [ZE,h0,h1,h2,h3,h4,cond_true,cond_false]
      · rfl
   | false =>
    have gh2:=ne_of_beq_false h2
    have y4:(0:Int)≤2:=by clear p;exact (by omega)
    have y5:2 < (Yl.length:Int):=by clear p;exact (by omega)
    have q {a C} (s:Scr a C):=p (sB h2<|sB h2<|sB h2<|sB h2<|sB h2<|sB h1<|sB h2<|sB h1<|sB (show false=false from rfl)<|sB (show false=false from rfl)<|sG (cI .i64) Yl 2 y4 y5<|sB (show false=false from rfl)<|sB (show false=false from rfl)<|sB (show false=false from rfl)<|sB (show false=false from rfl)<|s)
    clear p
    cases h3:((Yl.getD 2 default) == Yy) with
    | true =>
     have gh3:=eq_of_beq h3
     refine fnS E0Ok Z4 (c:=X0 f119) [] (.b ((Yl.getD 0 default) == Yz)) [] func119 (q (sB h3<|sB h3<|sG (cI .i64) Yl 0 y0 y1<|sB h3<|sB h3<|sB h3<|sB (show false=false from rfl)<|sB h3<|sB (show false=false from rfl)<|sK [] sN)) rfl (by kernel_rfl) (by kernel_rfl) rfl ?_ ?_
     · simp only [ZE,h0,h1,h2,h3,cond_true,cond_false]
     · rfl
    | false =>
     have gh3:=ne_of_beq_false h3
     refine fnS E0Ok Z4 (c:=X0 f119) [] (.b false) [] func119 (q (sB h3<|sB h3<|sB h3<|sB h3<|sB h3<|sB (show false=false from rfl)<|sB h3<|sB (show false=false from rfl)<|sK [] sN)) rfl (by kernel_rfl) (by kernel_rfl) rfl ?_ ?_
     · simp only [ZE,h0,h1,h2,h3,cond_true,cond_false]
     · rfl
 | false =>
  have gh0:=ne_of_beq_false h0
  have y2:(0:Int)≤1:=by clear p;exact (by omega)
  have y3:1 < (Yl.length:Int):=by clear p;exact (by omega)
  have q {a C} (s:Scr a C):=p (sB h0<|sB h0<|sB h0<|sB h0<|sB h0<|sB h0<|sB (show false=false from rfl)<|sB (show false=false from rfl)<|sG (cI .i64) Yl 1 y2 y3<|sB (show false=false from rfl)<|sB (show false=false from rfl)<|sB (show false=false from rfl)<|sB (show false=false from rfl)<|s)
  clear p
  cases h1:((Yl.getD 1 default) == Yy) with
  | true =>
   have gh1:=eq_of_beq h1
   have y4:(0:Int)≤2:=by clear q;exact (by omega)
   have y5:2 < (Yl.length:Int):=by clear q;exact (by omega)
   have p {a C} (s:Scr a C):=q (sB h1<|sB h1<|sG (cI .i64) Yl 2 y4 y5<|sB h1<|sB h1<|sB h1<|sB (show false=false from rfl)<|sB h1<|sB (show false=false from rfl)<|s)
   clear q
   cases h2:((Yl.getD 2 default) == Yz) with
   | true =>
    have gh2:=eq_of_beq h2
    refine fnS E0Ok Z4 (c:=X0 f119) [] (.b true) [] func119 (p (sB h2<|sB h2<|sB h2<|sB h2<|sB h2<|sB h2<|sB h2<|sB h2<|sK [] sN)) rfl (by kernel_rfl) (by kernel_rfl) rfl ?_ ?_
    · simp only [ZE,h0,h1,h2,cond_true,cond_false]
    · rfl
   | false =>
    have gh2:=ne_of_beq_false h2
    have q {a C} (s:Scr a C):=p (sB h2<|sB h2<|sG (cI .i64) Yl 2 y4 y5<|sB h2<|sB h2<|sB h2<|sB h2<|s)
    clear p
    cases h3:((Yl.getD 2 default) == Yy) with
    | true =>
     have gh3:=eq_of_beq h3
     refine fnS E0Ok Z4 (c:=X0 f119) [] (.b ((Yl.getD 0 default) == Yz)) [] func119 (q (sB h3<|sB h3<|sG (cI .i64) Yl 0 y0 y1<|sB h3<|sB h3<|sB h3<|sB h2<|sB h3<|sB h2<|sK [] sN)) rfl (by kernel_rfl) (by kernel_rfl) rfl ?_ ?_
     · simp only [ZE,h0,h1,h2,h3,cond_true,cond_false]
     · rfl
    | false =>
     have gh3:=ne_of_beq_false h3
     refine fnS E0Ok Z4 (c:=X0 f119) [] (.b false) [] func119 (q (sB h3<|sB h3<|sB h3<|sB h3<|sB h3<|sB h2<|sB h3<|sB h2<|sK [] sN)) rfl (by kernel_rfl) (by kernel_rfl) rfl ?_ ?_
     · simp only [ZE,h0,h1,h2,h3,cond_true,cond_false]
     · rfl
  | false =>
   have gh1:=ne_of_beq_false h1
   have y4:(0:Int)≤2:=by clear q;exact (by omega)
   have y5:2 < (Yl.length:Int):=by clear q;exact (by omega)
   have p {a C} (s:Scr a C):=q (sB h1<|sB h1<|sB h1<|sB h1<|sB h1<|sB (show false=false from rfl)<|sB h1<|sB (show false=false from rfl)<|sB (show false=false from rfl)<|sB (show false=false from rfl)<|sG (cI .i64) Yl 2 y4 y5<|sB (show false=false from rfl)<|sB (show false=false from rfl)<|sB (show false=false from rfl)<|sB (show false=false from rfl)<|s)
   clear q
   cases h2:((Yl.getD 2 default) == Yy) with
   | true =>
    have gh2:=eq_of_beq h2
    refine fnS E0Ok Z4 (c:=X0 f119) [] (.b ((Yl.getD 0 default) == Yz)) [] func119 (p (sB h2<|sB h2<|sG (cI .i64) Yl 0 y0 y1<|sB h2<|sB h2<|sB h2<|sB (show false=false from rfl)<|sB h2<|sB (show false=false from rfl)<|sK [] sN)) rfl (by kernel_rfl) (by kernel_rfl) rfl ?_ ?_
    · simp only [ZE,h0,h1,h2,cond_true,cond_false]
    · rfl
   | false =>
    have gh2:=ne_of_beq_false h2
    refine fnS E0Ok Z4 (c:=X0 f119) [] (.b false) [] func119 (p (sB h2<|sB h2<|sB h2<|sB h2<|sB h2<|sB (show false=false from rfl)<|sB h2<|sB (show false=false from rfl)<|sK [] sN)) rfl (by kernel_rfl) (by kernel_rfl) rfl ?_ ?_
    · simp only [ZE,h0,h1,h2,cond_false]
    · rfl
theorem Z4x (t:List Int) (a b:Int):ZE t a b=Xc t a b:=by
  unfold ZE Xc
  cases (t.getD 0 default == a)<;>cases (t.getD 1 default == b)<;>cases (t.getD 1 default == a)<;>cases (t.getD 2 default == b)<;>cases (t.getD 2 default == a)<;>cases (t.getD 0 default == b)<;>rfl
theorem Z2s (m:Gm) (ok:OkE m.Pq.length m.Tr) (a b:Int) {k:Nat} (h:k < (Z7 m a b).length):0≤(Z7 m a b).getD k default∧(Z7 m a b).getD k default < (m.Tr.length:Int)∧(m.Tr.getD ((Z7 m a b).getD k default).toNat default).length=3:=by
  rw [Z4j] at h ⊢
  have q:=X7Q h
  exact ⟨q.1,q.2.1,(X18.get ok.tris q.1 q.2.1).1⟩
def Z2t (Y0:Gm) (Y3:Int):Bool:=(ZE (Y0.Tr.getD ((Z7 Y0 (((Z1 Y0).getD Y3.toNat default).getD 0 default) (((Z1 Y0).getD Y3.toNat default).getD 1 default)).getD 0 default).toNat default) (((Z1 Y0).getD Y3.toNat default).getD 0 default) (((Z1 Y0).getD Y3.toNat default).getD 1 default))
def Z2u (Y0:Gm) (Y3:Int):Bool:=(ZE (Y0.Tr.getD ((Z7 Y0 (((Z1 Y0).getD Y3.toNat default).getD 0 default) (((Z1 Y0).getD Y3.toNat default).getD 1 default)).getD 1 default).toNat default) (((Z1 Y0).getD Y3.toNat default).getD 0 default) (((Z1 Y0).getD Y3.toNat default).getD 1 default))
def Zh (Y0:Gm):Nat→Int→(Unit) ⊕ (Unit)
  | 0,_ => .inl default
  | k + 1,Y3=>(cond (decide (Y3 < ((Z1 Y0).length:Int)))
    (cond (decide (((Z7 Y0 (((Z1 Y0).getD Y3.toNat default).getD 0 default) (((Z1 Y0).getD Y3.toNat default).getD 1 default)).length:Int) > 2))
      (.inl ())
      (cond (((Z7 Y0 (((Z1 Y0).getD Y3.toNat default).getD 0 default) (((Z1 Y0).getD Y3.toNat default).getD 1 default)).length:Int) == 2)
        (cond ((Z2t Y0 Y3) == (Z2u Y0 Y3))
          (.inl ())
          (Zh Y0 k (Y3 + 1)))
        (Zh Y0 k (Y3 + 1))))
    (.inr ()))
def Z1W (Y0:Gm):(Unit) ⊕ (Unit)→Ex × St
  | .inl r=>(.ret,⟨.any :: .any :: .b false :: an 64 [],[]⟩)
  | .inr r=>((.exit 0),⟨.ref (Gm.c Y0) 0 :: an 7 (.ref (Gm.c Y0) 0 :: .own 0 :: an 57 []),[.nest 79 ((Z1 Y0).map fun l=>l.map (cI .i64)) false]⟩)
def Z3Z (Y0:Gm) (Y3:Int):St:=⟨.ref (Gm.c Y0) 0 :: .any :: .any :: .own 0 :: .i .i64 Y3 :: .any :: .any :: .any :: .ref (Gm.c Y0) 0 :: .own 0 :: an 57 [],[.nest 79 ((Z1 Y0).map fun l=>l.map (cI .i64)) false]⟩
set_option maxHeartbeats 1000000 in
theorem Z36 (Y0:Gm) (hp0:Y0.Pq.length≤1073741824) (hp1:Y0.Tr.length≤1073741824) (hp2:∀ t∈Y0.Tr,t.length≤1073741824) (hp3:OkE Y0.Pq.length Y0.Tr):∀ (k:Nat) (Y3:Int) (Z1c:0≤Y3) (hk:(((Z1 Y0).length:Int) - Y3).toNat < k),Lp prog 0 (sub (X0 f105) [1,1,0,1,0,0]) (Z3Z Y0 Y3) (Z1W Y0 (Zh Y0 k Y3)).1 (Z1W Y0 (Zh Y0 k Y3)).2:=by
 intro k
 induction k with
 | zero=>intro Y3 Z1c hk;exact absurd hk (Nat.not_lt_zero _)
 | succ k ih =>
  intro Y3 Z1c hk
  have p {a C} (s:Scr a C):=sM (X67 (l:=(Z1 Y0)) (f:=fun l=>l.map (cI .i64)))<|s
  cases Yf:(decide (Y3 < ((Z1 Y0).length:Int))) with
  | true =>
   have Yt:=odt Yf
   have Yx:(0:Int)≤Y3:=by clear p;exact (by assumption)
   have Yw:Int.toNat Y3 < (Z1 Y0).length:=by clear p;exact (by omega)
   have YC:Y3.toNat < (Z1 Y0).length:=by clear p;exact (by assumption)
   have YA:(0:Int)≤0:=by clear p;exact (by omega)
   have YE:0 < (((Z1 Y0).getD Y3.toNat default).length:Int):=by clear p;exact (by ((have q:=Z17 Y0 hp3 Z1c (odt (by assumption));omega)))
   have YL:0 < ((Z1 Y0).getD Y3.toNat default).length:=by clear p;exact (by omega)
   have YW:(0:Int)≤1:=by clear p;exact (by omega)
   have y_7:1 < (((Z1 Y0).getD Y3.toNat default).length:Int):=by clear p;exact (by ((have q:=Z17 Y0 hp3 Z1c (odt (by assumption));omega)))
   have y_8:1 < ((Z1 Y0).getD Y3.toNat default).length:=by clear p;exact (by omega)
   have q {a C} (s:Scr a C):=p (sB Yf<|sC (X2a (c:=(cI .i64)) (l:=(Z1 Y0)) (i:=Y3) Yx Yw)<|sC (X2C (c:=(cI .i64)) (l:=(Z1 Y0)) YC)<|sC (X20 (c:=(cI .i64)) (l:=(Z1 Y0)) (j:=Y3.toNat) (i:=0) YA YE)<|sE (X1Z (c:=(cI .i64)) (l:=(Z1 Y0)) (j:=Y3.toNat) (k:=0) YL)<|sC (X2a (c:=(cI .i64)) (l:=(Z1 Y0)) (i:=Y3) Yx Yw)<|sC (X2C (c:=(cI .i64)) (l:=(Z1 Y0)) YC)<|sC (X20 (c:=(cI .i64)) (l:=(Z1 Y0)) (j:=Y3.toNat) (i:=1) YW y_7)<|sE (X1Z (c:=(cI .i64)) (l:=(Z1 Y0)) (j:=Y3.toNat) (k:=1) y_8)<|sF (Z3Y Y0 (((Z1 Y0).getD Y3.toNat default).getD 0 default) (((Z1 Y0).getD Y3.toNat default).getD 1 default) hp0 hp1 hp2 hp3)<|sK [31,31]<|sZ (cI .i64) (Z7 Y0 (((Z1 Y0).getD Y3.toNat default).getD 0 default) (((Z1 Y0).getD Y3.toNat default).getD 1 default))<|s)
   clear p
   cases Yi:(decide (((Z7 Y0 (((Z1 Y0).getD Y3.toNat default).getD 0 default) (((Z1 Y0).getD Y3.toNat default).getD 1 default)).length:Int) > 2)) with
   | true =>
    have YM:=odt Yi
    have e:Zh Y0 (k + 1) Y3=(.inl ()):=by simp only [Zh,Yf,Yi,cond_true]
    rw [e]
    exact outR (e := .ret) E0Ok Z4 [] (mR false [2,1,64]) [] (q (sB Yi<|sB Yi<|sB Yi<|sB Yi<|sB Yi<|sB Yi<|sB (show true=true from rfl)<|sN)) (by kernel_rfl) (by intro h;cases h)
   | false =>
    have YM:=odf Yi
    have p {a C} (s:Scr a C):=q (sB Yi<|sB Yi<|sZ (cI .i64) (Z7 Y0 (((Z1 Y0).getD Y3.toNat default).getD 0 default) (((Z1 Y0).getD Y3.toNat default).getD 1 default))<|sB Yi<|sB Yi<|s)
    clear q
    cases Ym:(((Z7 Y0 (((Z1 Y0).getD Y3.toNat default).getD 0 default) (((Z1 Y0).getD Y3.toNat default).getD 1 default)).length:Int) == 2) with
    | true =>
     have YQ:=eq_of_beq Ym
     have y_9:0 < ((Z7 Y0 (((Z1 Y0).getD Y3.toNat default).getD 0 default) (((Z1 Y0).getD Y3.toNat default).getD 1 default)).length:Int):=by clear p;exact (by omega)
     have YV:0 < (Z7 Y0 (((Z1 Y0).getD Y3.toNat default).getD 0 default) (((Z1 Y0).getD Y3.toNat default).getD 1 default)).length:=by clear p;exact (by omega)
     have Y12:(0:Int)≤((Z7 Y0 (((Z1 Y0).getD Y3.toNat default).getD 0 default) (((Z1 Y0).getD Y3.toNat default).getD 1 default)).getD 0 default):=by clear p;exact (by (exact (Z2s Y0 hp3 _ _ (by assumption)).1))
     have Y13:((Z7 Y0 (((Z1 Y0).getD Y3.toNat default).getD 0 default) (((Z1 Y0).getD Y3.toNat default).getD 1 default)).getD 0 default) < (Y0.Tr.length:Int):=by clear p;exact (by (exact (Z2s Y0 hp3 _ _ (by assumption)).2.1))
     have Y14:(Y0.Tr.getD ((Z7 Y0 (((Z1 Y0).getD Y3.toNat default).getD 0 default) (((Z1 Y0).getD Y3.toNat default).getD 1 default)).getD 0 default).toNat default).length≤1073741824:=by clear p;exact (by exact Nat.le_trans (Nat.le_of_eq (Z2s Y0 hp3 _ _ (by assumption)).2.2) (by omega))
     have Y15:(Y0.Tr.getD ((Z7 Y0 (((Z1 Y0).getD Y3.toNat default).getD 0 default) (((Z1 Y0).getD Y3.toNat default).getD 1 default)).getD 0 default).toNat default).length=3:=by clear p;exact (by exact (Z2s Y0 hp3 _ _ (by assumption)).2.2)
     have y_15:1 < ((Z7 Y0 (((Z1 Y0).getD Y3.toNat default).getD 0 default) (((Z1 Y0).getD Y3.toNat default).getD 1 default)).length:Int):=by clear p;exact (by omega)
     have y_16:1 < (Z7 Y0 (((Z1 Y0).getD Y3.toNat default).getD 0 default) (((Z1 Y0).getD Y3.toNat default).getD 1 default)).length:=by clear p;exact (by omega)
     have y_17:(0:Int)≤((Z7 Y0 (((Z1 Y0).getD Y3.toNat default).getD 0 default) (((Z1 Y0).getD Y3.toNat default).getD 1 default)).getD 1 default):=by clear p;exact (by (exact (Z2s Y0 hp3 _ _ (by assumption)).1))
     have y_18:((Z7 Y0 (((Z1 Y0).getD Y3.toNat default).getD 0 default) (((Z1 Y0).getD Y3.toNat default).getD 1 default)).getD 1 default) < (Y0.Tr.length:Int):=by clear p;exact (by (exact (Z2s Y0 hp3 _ _ (by assumption)).2.1))
     have y_19:(Y0.Tr.getD ((Z7 Y0 (((Z1 Y0).getD Y3.toNat default).getD 0 default) (((Z1 Y0).getD Y3.toNat default).getD 1 default)).getD 1 default).toNat default).length≤1073741824:=by clear p;exact (by exact Nat.le_trans (Nat.le_of_eq (Z2s Y0 hp3 _ _ (by assumption)).2.2) (by omega))
     have y_20:(Y0.Tr.getD ((Z7 Y0 (((Z1 Y0).getD Y3.toNat default).getD 0 default) (((Z1 Y0).getD Y3.toNat default).getD 1 default)).getD 1 default).toNat default).length=3:=by clear p;exact (by exact (Z2s Y0 hp3 _ _ (by assumption)).2.2)
     have q {a C} (s:Scr a C):=p (sB Ym<|sB Ym<|sB Ym<|sB Ym<|sB Ym<|sB Ym<|sX (cI .i64) (Z7 Y0 (((Z1 Y0).getD Y3.toNat default).getD 0 default) (((Z1 Y0).getD Y3.toNat default).getD 1 default)) 0 YA y_9<|sB Ym<|sV (cI .i64) (Z7 Y0 (((Z1 Y0).getD Y3.toNat default).getD 0 default) (((Z1 Y0).getD Y3.toNat default).getD 1 default)) 0 YV<|sB Ym<|sG (cL (cI .i64)) Y0.Tr ((Z7 Y0 (((Z1 Y0).getD Y3.toNat default).getD 0 default) (((Z1 Y0).getD Y3.toNat default).getD 1 default)).getD 0 default) Y12 Y13<|sB Ym<|sB Ym<|sB Ym<|sB Ym<|sF (Z3y (Y0.Tr.getD ((Z7 Y0 (((Z1 Y0).getD Y3.toNat default).getD 0 default) (((Z1 Y0).getD Y3.toNat default).getD 1 default)).getD 0 default).toNat default) (((Z1 Y0).getD Y3.toNat default).getD 0 default) (((Z1 Y0).getD Y3.toNat default).getD 1 default) Y14 Y15)<|sB Ym<|sB Ym<|sB Ym<|sB Ym<|sB Ym<|sB Ym<|sX (cI .i64) (Z7 Y0 (((Z1 Y0).getD Y3.toNat default).getD 0 default) (((Z1 Y0).getD Y3.toNat default).getD 1 default)) 1 YW y_15<|sB Ym<|sV (cI .i64) (Z7 Y0 (((Z1 Y0).getD Y3.toNat default).getD 0 default) (((Z1 Y0).getD Y3.toNat default).getD 1 default)) 1 y_16<|sB Ym<|sG (cL (cI .i64)) Y0.Tr ((Z7 Y0 (((Z1 Y0).getD Y3.toNat default).getD 0 default) (((Z1 Y0).getD Y3.toNat default).getD 1 default)).getD 1 default) y_17 y_18<|sB Ym<|sB Ym<|sB Ym<|sB Ym<|sF (Z3y (Y0.Tr.getD ((Z7 Y0 (((Z1 Y0).getD Y3.toNat default).getD 0 default) (((Z1 Y0).getD Y3.toNat default).getD 1 default)).getD 1 default).toNat default) (((Z1 Y0).getD Y3.toNat default).getD 0 default) (((Z1 Y0).getD Y3.toNat default).getD 1 default) y_19 y_20)<|sB Ym<|sB Yi<|sB Ym<|sB Yi<|s)
     clear p
     cases YF:((Z2t Y0 Y3) == (Z2u Y0 Y3)) with
     | true =>
      have YY:=eq_of_beq YF
      have e:Zh Y0 (k + 1) Y3=(.inl ()):=by simp only [Zh,Yf,Yi,Ym,YF,cond_true,cond_false]
      rw [e]
      exact outR (e := .ret) E0Ok Z4 [] (mR false [2,1,64]) [] (q (sB YF<|sN)) (by kernel_rfl) (by intro h;cases h)
     | false =>
      have YY:=ne_of_beq_false YF
      have y_21:(-9223372036854775808:Int)≤(Y3 + 1):=by clear q;exact (by omega)
      have y_22:(Y3 + 1)≤(9223372036854775807:Int):=by clear q;exact (by ((have q:=Z17 Y0 hp3 Z1c (odt (by assumption));omega)))
      have e:Zh Y0 (k + 1) Y3=(Zh Y0 k (Y3 + 1)):=by simp only [Zh,Yf,Yi,Ym,YF,cond_true,cond_false]
      rw [e]
      exact Xp E0Ok Z4 [] (mR false [0,1,2,2,3,2,57]) [0] (ih (Y3 + 1) (show 0≤(Y3 + 1) from (by omega)) (by omega)) (q (sB YF<|sI (Y3 + 1) y_21 y_22<|sN)) (by kernel_rfl)
    | false =>
     have YQ:=ne_of_beq_false Ym
     have y_9:(-9223372036854775808:Int)≤(Y3 + 1):=by clear p;exact (by omega)
     have YV:(Y3 + 1)≤(9223372036854775807:Int):=by clear p;exact (by ((have q:=Z17 Y0 hp3 Z1c (odt (by assumption));omega)))
     have e:Zh Y0 (k + 1) Y3=(Zh Y0 k (Y3 + 1)):=by simp only [Zh,Yf,Yi,Ym,cond_true,cond_false]
     rw [e]
     exact Xp E0Ok Z4 [] (mR false [0,1,2,2,3,2,57]) [0] (ih (Y3 + 1) (show 0≤(Y3 + 1) from (by omega)) (by omega)) (p (sB Ym<|sB Ym<|sB Ym<|sB Ym<|sB Ym<|sB Ym<|sB Ym<|sB Ym<|sB Ym<|sB Ym<|sB Ym<|sB Ym<|sB Ym<|sB Ym<|sB Ym<|sB Ym<|sB Ym<|sB Ym<|sB Ym<|sB Ym<|sB Ym<|sB Ym<|sB Ym<|sB Ym<|sB Ym<|sB Yi<|sB Ym<|sB Yi<|sB (show false=false from rfl)<|sI (Y3 + 1) y_9 YV<|sN)) (by kernel_rfl)
  | false =>
   have Yt:=odf Yf
   have e:Zh Y0 (k + 1) Y3=(.inr ()):=by simp only [Zh,Yf,cond_false]
   rw [e]
   exact outR (e:=(.exit 0)) E0Ok Z4 [] (mR false [0,1,7,2,57]) [0] (p (sB Yf<|sN)) (by kernel_rfl) (by intro h;cases h)
def Z1r (Y0:Gm):(Unit) ⊕ (Unit):=(Zh Y0 ((((Z1 Y0).length:Int) - 0).toNat + 1) 0)
def Z1s (Y0:Gm):Bool:=(match (Z1r Y0) with
  | .inl r1=>false
  | .inr r1=>true)
theorem Z4y (Y0:Gm) (hp0:Y0.Pq.length≤1073741824) (hp1:Y0.Tr.length≤1073741824) (hp2:∀ t∈Y0.Tr,t.length≤1073741824) (hp3:OkE Y0.Pq.length Y0.Tr)  : Fn prog 105 [.ref (Gm.c Y0) 0] (.b (Z1s Y0)) []:=by
 have p {a C} (s:Scr a C):=sF (Z3u Y0 hp0 hp1 hp2 hp3)<|s
 cases h0:(Z1r Y0) with
 | inl r1 =>
  refine fnS E0Ok Z4 (c:=X0 f105) [] (.b false) [] func105 (p (sL (mR false [0,1,2,2,3,2,57]) 1 (X6 (Z1W Y0) (x:=(Z1r Y0)) (Z36 Y0 hp0 hp1 hp2 hp3 ((((Z1 Y0).length:Int) - 0).toNat + 1) 0 (show 0≤0 from (by omega)) (Nat.lt_succ_self _)) h0)<|sK [] sN)) rfl (by kernel_rfl) (by kernel_rfl) rfl ?_ ?_
  · simp only [Z1s,h0]
  · rfl
 | inr r1 =>
  refine fnS E0Ok Z4 (c:=X0 f105) [] (.b true) [] func105 (p (sL (mR false [0,1,2,2,3,2,57]) 1 (X6 (Z1W Y0) (x:=(Z1r Y0)) (Z36 Y0 hp0 hp1 hp2 hp3 ((((Z1 Y0).length:Int) - 0).toNat + 1) 0 (show 0≤0 from (by omega)) (Nat.lt_succ_self _)) h0)<|sK [] sN)) rfl (by kernel_rfl) (by kernel_rfl) rfl ?_ ?_
  · simp only [Z1s,h0]
  · rfl
theorem Z51 (m:Gm) (ok:OkE m.Pq.length m.Tr):Z1s m=decide ((m.Tr.flatMap dE).Nodup):=by
  have hl:(Z1 m).length=(edgL m.Pq.length m.Tr).length:=by rw [Z29 m ok,List.length_map]
  have hx:∀ i:Int,0≤i→i < ((edgL m.Pq.length m.Tr).length:Int)→(Z1 m).getD i.toNat default=e2 ((edgL m.Pq.length m.Tr).getD i.toNat default):=by
    intro i h0 hi
    have hn:i.toNat < (edgL m.Pq.length m.Tr).length:=by omega
    rw [Z29 m ok,List.getD_eq_getElem?_getD,List.getElem?_map,List.getElem?_eq_getElem hn,List.getD_eq_getElem?_getD,List.getElem?_eq_getElem hn];rfl
  let bad:Gedge→Bool:=fun e=>decide (((idxP m.Tr e.e0 e.e1).length:Int) > 2) || ((((idxP m.Tr e.e0 e.e1).length:Int) == 2) && (Xc (m.Tr.getD ((idxP m.Tr e.e0 e.e1).getD 0 default).toNat default) e.e0 e.e1 == Xc (m.Tr.getD ((idxP m.Tr e.e0 e.e1).getD 1 default).toNat default) e.e0 e.e1))
  have lo:∀ (k:Nat) (i:Int),0≤i→(((edgL m.Pq.length m.Tr).length:Int) - i).toNat < k→Zh m k i=cond (((edgL m.Pq.length m.Tr).drop i.toNat).any bad) (.inl ()) (.inr ()):=by
    intro k
    induction k with
    | zero=>intro i _ hk;exact absurd hk (Nat.not_lt_zero _)
    | succ k ih =>
      intro i h0 hk
      rw [Zh,hl]
      by_cases hi:i < ((edgL m.Pq.length m.Tr).length:Int)
      · have hn:i.toNat < (edgL m.Pq.length m.Tr).length:=by omega
        have hg:(edgL m.Pq.length m.Tr).getD i.toNat default=(edgL m.Pq.length m.Tr)[i.toNat]:=by rw [List.getD_eq_getElem?_getD,List.getElem?_eq_getElem hn];rfl
        rw [decide_eq_true hi,cond_true]
        unfold Z2t Z2u
        rw [hx i h0 hi,hg,Z4j,Z4x,Z4x,List.drop_eq_getElem_cons hn,List.any_cons,ih (i + 1) (by omega) (by omega),show (i + 1).toNat=i.toNat + 1 from by omega]
        show cond (decide (((idxP m.Tr (edgL m.Pq.length m.Tr)[i.toNat].e0 (edgL m.Pq.length m.Tr)[i.toNat].e1).length:Int) > 2)) _ (cond (((idxP m.Tr (edgL m.Pq.length m.Tr)[i.toNat].e0 (edgL m.Pq.length m.Tr)[i.toNat].e1).length:Int) == 2) (cond (Xc (m.Tr.getD ((idxP m.Tr (edgL m.Pq.length m.Tr)[i.toNat].e0 (edgL m.Pq.length m.Tr)[i.toNat].e1).getD 0 default).toNat default) (edgL m.Pq.length m.Tr)[i.toNat].e0 (edgL m.Pq.length m.Tr)[i.toNat].e1 == Xc (m.Tr.getD ((idxP m.Tr (edgL m.Pq.length m.Tr)[i.toNat].e0 (edgL m.Pq.length m.Tr)[i.toNat].e1).getD 1 default).toNat default) (edgL m.Pq.length m.Tr)[i.toNat].e0 (edgL m.Pq.length m.Tr)[i.toNat].e1) _ _) _)=_
        simp only [bad]
        generalize (edgL m.Pq.length m.Tr)[i.toNat]=e
        cases decide (((idxP m.Tr e.e0 e.e1).length:Int) > 2)<;>cases (((idxP m.Tr e.e0 e.e1).length:Int) == 2)<;>cases (Xc (m.Tr.getD ((idxP m.Tr e.e0 e.e1).getD 0 default).toNat default) e.e0 e.e1 == Xc (m.Tr.getD ((idxP m.Tr e.e0 e.e1).getD 1 default).toNat default) e.e0 e.e1)<;>simp
      · rw [decide_eq_false hi,cond_false,List.drop_eq_nil_of_le (by omega)];simp
  unfold Z1s Z1r
  rw [lo _ _ (Int.le_refl 0) (by rw [hl];exact Nat.lt_succ_self _)]
  simp only [Int.toNat_zero,List.drop_zero]
  have law:=X79 ok
  cases hb:(edgL m.Pq.length m.Tr).any bad with
  | true =>
    simp only [cond_true]
    refine (decide_eq_false fun hN => ?_).symm
    obtain ⟨e,he,hbe⟩:=List.any_eq_true.1 hb
    obtain ⟨h1,h2⟩:=law.1 hN e he
    simp only [bad,Bool.or_eq_true,Bool.and_eq_true,decide_eq_true_eq,beq_iff_eq] at hbe
    rcases hbe with h | ⟨h,h'⟩
    · omega
    · exact h2 (by omega) h'
  | false =>
    simp only [cond_false]
    refine (decide_eq_true (law.2 fun e he => ?_)).symm
    have hbe:bad e=false:=by
      cases hq:bad e with
      | false=>rfl
      | true=>exact absurd (List.any_eq_true.2 ⟨e,he,hq⟩) (by rw [hb];simp)
    simp only [bad,Bool.or_eq_false_iff,Bool.and_eq_false_iff,decide_eq_false_iff_not,beq_eq_false_iff_ne] at hbe
    refine ⟨by omega,fun h => ?_⟩
    rcases hbe.2 with h' | h'
    · exact absurd (by omega) h'
    · exact h' 
def Z9 (Y9:(List Int)) (Ys:Int):Nat→Bool→Int→(List Int)→Bool × (List Int)
  | 0,_,_,_=>default
  | k + 1,Yk,Yc,Yj=>(cond (decide (Yc < (Y9.length:Int)))
    (cond Yk
      (Z9 Y9 Ys k Yk (Yc + 1) (Yj ++ [(Y9.getD Yc.toNat default)]))
      (cond (decide ((Y9.getD Yc.toNat default) ≥ Ys))
        (cond (decide ((Y9.getD Yc.toNat default) > Ys))
          (Z9 Y9 Ys k true (Yc + 1) ((Yj ++ [Ys]) ++ [(Y9.getD Yc.toNat default)]))
          (Z9 Y9 Ys k true (Yc + 1) (Yj ++ [(Y9.getD Yc.toNat default)])))
        (Z9 Y9 Ys k Yk (Yc + 1) (Yj ++ [(Y9.getD Yc.toNat default)]))))
    (Yk,Yj))
def Z2y (Y9:(List Int)) (Ys:Int) (r:Bool × (List Int)):Ex × St:=((.exit 0),⟨.any :: .i .i64 Ys :: .any :: .any :: .nils :: .own 0 :: .b r.1 :: an 42 [],[.vec 2 1 (r.2.map (cI .i64)) false]⟩)
def Z1A (Y9:(List Int)) (Ys:Int) (Yk:Bool) (Yc:Int) (Yj:(List Int)):St:=⟨.sl (Y9.map (cI .i64)) :: .i .i64 Ys :: .any :: .any :: .nils :: .own 0 :: .b Yk :: .i .i64 Yc :: an 41 [],[.vec 2 1 (Yj.map (cI .i64)) false]⟩
set_option maxHeartbeats 1000000 in
theorem Z4k (Y9:(List Int)) (Ys:Int) (hp0:Y9.length≤1073741824) (hp1:Y9.length≤100000):∀ (k:Nat) (Yk:Bool) (Yc:Int) (Yj:(List Int)) (Z37:0≤Yc) (Z38:(Yj.length:Int)≤2 * Yc) (hk:((Y9.length:Int) - Yc).toNat < k),Lp prog 0 (sub (X0 f114) [1,1,1,0,1,0,0]) (Z1A Y9 Ys Yk Yc Yj) (Z2y Y9 Ys (Z9 Y9 Ys k Yk Yc Yj)).1 (Z2y Y9 Ys (Z9 Y9 Ys k Yk Yc Yj)).2:=by
 intro k
 induction k with
 | zero=>intro Yk Yc Yj Z37 Z38 hk;exact absurd hk (Nat.not_lt_zero _)
 | succ k ih =>
  intro Yk Yc Yj Z37 Z38 hk
  have p {a C} (s:Scr a C):=sZ (cI .i64) Y9<|s
  cases Yf:(decide (Yc < (Y9.length:Int))) with
  | true =>
   have Yt:=odt Yf
   have q {a C} (s:Scr a C):=p (sB Yf<|s)
   clear p
   rcases Bool.eq_false_or_eq_true Yk with Yi | Yi
   ·
    have Yx:(0:Int)≤Yc:=by clear q;exact (by assumption)
    have Yw:Yc < (Y9.length:Int):=by clear q;exact (by assumption)
    have YC:Yj.length + ([(Y9.getD Yc.toNat default)]).length≤1073741824:=by clear q;exact (by (simp only [List.length_append,List.length_cons,List.length_nil];omega))
    have YA:(-9223372036854775808:Int)≤(Yc + 1):=by clear q;exact (by omega)
    have YE:(Yc + 1)≤(9223372036854775807:Int):=by clear q;exact (by omega)
    have e:Z9 Y9 Ys (k + 1) Yk Yc Yj=(Z9 Y9 Ys k Yk (Yc + 1) (Yj ++ [(Y9.getD Yc.toNat default)])):=by simp only [Z9,Yf,Yi,cond_true]
    rw [e]
    exact XW E0Ok Z4 [] (mR false [0,2,2,4,41]) [0] (⟨.sl (Y9.map (cI .i64)) :: .i .i64 Ys :: .any :: .any :: .nils :: .own 0 :: .b Yk :: .i .i64 (Yc + 1) :: an 41 [],[.vec 2 1 ((Yj.map (cI .i64)) ++ ([[.i .i64 (Y9.getD Yc.toNat default)]]:List (List AV))) false]⟩) (q (sB' Yi<|sB' Yi<|sB' Yi<|sB' Yi<|sB' Yi<|sB' Yi<|sB' Yi<|sB (show false=false from rfl)<|sG (cI .i64) Y9 Yc Yx Yw<|sC (show (Yj.map (cI .i64)).length + ([[.i .i64 (Y9.getD Yc.toNat default)]]:List (List AV)).length≤1073741824 from (by simpa using YC))<|sI (Yc + 1) YA YE<|sN)) (by kernel_rfl) (by simp [Z1A,cI]) (ih Yk (Yc + 1) (Yj ++ [(Y9.getD Yc.toNat default)]) (show 0≤(Yc + 1) from (by omega)) (show ((Yj ++ [(Y9.getD Yc.toNat default)]).length:Int)≤2 * (Yc + 1) from (by (simp only [List.length_append,List.length_cons,List.length_nil];omega))) (by omega))
   ·
    have Yx:(0:Int)≤Yc:=by clear q;exact (by assumption)
    have Yw:Yc < (Y9.length:Int):=by clear q;exact (by assumption)
    have p {a C} (s:Scr a C):=q (sB' Yi<|sB' Yi<|sB' Yi<|sG (cI .i64) Y9 Yc Yx Yw<|sB' Yi<|sB' Yi<|sB' Yi<|sB' Yi<|s)
    clear q
    cases Ym:(decide ((Y9.getD Yc.toNat default) ≥ Ys)) with
    | true =>
     have YQ:=odt Ym
     have q {a C} (s:Scr a C):=p (sB Ym<|sG (cI .i64) Y9 Yc Yx Yw<|s)
     clear p
     cases YF:(decide ((Y9.getD Yc.toNat default) > Ys)) with
     | true =>
      have YY:=odt YF
      have YC:Yj.length + ([Ys]).length≤1073741824:=by clear q;exact (by (simp only [List.length_append,List.length_cons,List.length_nil];omega))
      have YA:(Yj ++ [Ys]).length + ([(Y9.getD Yc.toNat default)]).length≤1073741824:=by clear q;exact (by (simp only [List.length_append,List.length_cons,List.length_nil];omega))
      have YE:(-9223372036854775808:Int)≤(Yc + 1):=by clear q;exact (by omega)
      have YL:(Yc + 1)≤(9223372036854775807:Int):=by clear q;exact (by omega)
      have e:Z9 Y9 Ys (k + 1) Yk Yc Yj=(Z9 Y9 Ys k true (Yc + 1) ((Yj ++ [Ys]) ++ [(Y9.getD Yc.toNat default)])):=by simp only [Z9,Yf,Yi,Ym,YF,cond_true,cond_false]
      rw [e]
      exact XW E0Ok Z4 [] (mR false [0,2,2,4,41]) [0] (⟨.sl (Y9.map (cI .i64)) :: .i .i64 Ys :: .any :: .any :: .nils :: .own 0 :: .b true :: .i .i64 (Yc + 1) :: an 41 [],[.vec 2 1 (((Yj.map (cI .i64)) ++ ([[.i .i64 Ys]]:List (List AV))) ++ ([[.i .i64 (Y9.getD Yc.toNat default)]]:List (List AV))) false]⟩) (q (sB YF<|sC (show (Yj.map (cI .i64)).length + ([[.i .i64 Ys]]:List (List AV)).length≤1073741824 from (by simpa using YC))<|sG (cI .i64) Y9 Yc Yx Yw<|sC (show ((Yj.map (cI .i64)) ++ ([[.i .i64 Ys]]:List (List AV))).length + ([[.i .i64 (Y9.getD Yc.toNat default)]]:List (List AV)).length≤1073741824 from (by simpa using YA))<|sI (Yc + 1) YE YL<|sN)) (by kernel_rfl) (by simp [Z1A,cI]) (ih true (Yc + 1) ((Yj ++ [Ys]) ++ [(Y9.getD Yc.toNat default)]) (show 0≤(Yc + 1) from (by omega)) (show (((Yj ++ [Ys]) ++ [(Y9.getD Yc.toNat default)]).length:Int)≤2 * (Yc + 1) from (by (simp only [List.length_append,List.length_cons,List.length_nil];omega))) (by omega))
     | false =>
      have YY:=odf YF
      have YC:Yj.length + ([(Y9.getD Yc.toNat default)]).length≤1073741824:=by clear q;exact (by (simp only [List.length_append,List.length_cons,List.length_nil];omega))
      have YA:(-9223372036854775808:Int)≤(Yc + 1):=by clear q;exact (by omega)
      have YE:(Yc + 1)≤(9223372036854775807:Int):=by clear q;exact (by omega)
      have e:Z9 Y9 Ys (k + 1) Yk Yc Yj=(Z9 Y9 Ys k true (Yc + 1) (Yj ++ [(Y9.getD Yc.toNat default)])):=by simp only [Z9,Yf,Yi,Ym,YF,cond_true,cond_false]
      rw [e]
      exact XW E0Ok Z4 [] (mR false [0,2,2,4,41]) [0] (⟨.sl (Y9.map (cI .i64)) :: .i .i64 Ys :: .any :: .any :: .nils :: .own 0 :: .b true :: .i .i64 (Yc + 1) :: an 41 [],[.vec 2 1 ((Yj.map (cI .i64)) ++ ([[.i .i64 (Y9.getD Yc.toNat default)]]:List (List AV))) false]⟩) (q (sB YF<|sG (cI .i64) Y9 Yc Yx Yw<|sC (show (Yj.map (cI .i64)).length + ([[.i .i64 (Y9.getD Yc.toNat default)]]:List (List AV)).length≤1073741824 from (by simpa using YC))<|sI (Yc + 1) YA YE<|sN)) (by kernel_rfl) (by simp [Z1A,cI]) (ih true (Yc + 1) (Yj ++ [(Y9.getD Yc.toNat default)]) (show 0≤(Yc + 1) from (by omega)) (show ((Yj ++ [(Y9.getD Yc.toNat default)]).length:Int)≤2 * (Yc + 1) from (by (simp only [List.length_append,List.length_cons,List.length_nil];omega))) (by omega))
    | false =>
     have YQ:=odf Ym
     have YC:Yj.length + ([(Y9.getD Yc.toNat default)]).length≤1073741824:=by clear p;exact (by (simp only [List.length_append,List.length_cons,List.length_nil];omega))
     have YA:(-9223372036854775808:Int)≤(Yc + 1):=by clear p;exact (by omega)
     have YE:(Yc + 1)≤(9223372036854775807:Int):=by clear p;exact (by omega)
     have e:Z9 Y9 Ys (k + 1) Yk Yc Yj=(Z9 Y9 Ys k Yk (Yc + 1) (Yj ++ [(Y9.getD Yc.toNat default)])):=by simp only [Z9,Yf,Yi,Ym,cond_true,cond_false]
     rw [e]
     exact XW E0Ok Z4 [] (mR false [0,2,2,4,41]) [0] (⟨.sl (Y9.map (cI .i64)) :: .i .i64 Ys :: .any :: .any :: .nils :: .own 0 :: .b Yk :: .i .i64 (Yc + 1) :: an 41 [],[.vec 2 1 ((Yj.map (cI .i64)) ++ ([[.i .i64 (Y9.getD Yc.toNat default)]]:List (List AV))) false]⟩) (p (sB Ym<|sG (cI .i64) Y9 Yc Yx Yw<|sC (show (Yj.map (cI .i64)).length + ([[.i .i64 (Y9.getD Yc.toNat default)]]:List (List AV)).length≤1073741824 from (by simpa using YC))<|sI (Yc + 1) YA YE<|sN)) (by kernel_rfl) (by simp [Z1A,cI]) (ih Yk (Yc + 1) (Yj ++ [(Y9.getD Yc.toNat default)]) (show 0≤(Yc + 1) from (by omega)) (show ((Yj ++ [(Y9.getD Yc.toNat default)]).length:Int)≤2 * (Yc + 1) from (by (simp only [List.length_append,List.length_cons,List.length_nil];omega))) (by omega))
  | false =>
   have Yt:=odf Yf
   have e:Z9 Y9 Ys (k + 1) Yk Yc Yj=(Yk,Yj):=by simp only [Z9,Yf,cond_false]
   rw [e]
   exact outR (e:=(.exit 0)) E0Ok Z4 [] (mR false [1,1,2,3,42]) [0] (p (sB Yf<|sN)) (by kernel_rfl) (by intro h;cases h)
def ZF (Y9:(List Int)) (Ys:Int):Bool × (List Int):=(Z9 Y9 Ys (((Y9.length:Int) - 0).toNat + 1) false 0 ([]:List Int))
theorem Z5i (l:List Int) (n:Int):∀ (k:Nat) (i:Int) (d:Bool) (r:List Int),0≤i→((l.length:Int) - i).toNat < k →
    (cond (Z9 l n k d i r).1 (Z9 l n k d i r).2 ((Z9 l n k d i r).2 ++ [n]))=r ++ cond d (l.drop i.toNat) (putP (l.drop i.toNat) n):=by
  intro k
  induction k with
  | zero=>intro i d r _ hk;exact absurd hk (Nat.not_lt_zero _)
  | succ k ih =>
    intro i d r h0 hk
    rw [Z9]
    by_cases hi:i < (l.length:Int)
    · have hn:i.toNat < l.length:=by omega
      have hg:l.getD i.toNat default=l[i.toNat]:=by rw [List.getD_eq_getElem?_getD,List.getElem?_eq_getElem hn];rfl
      rw [decide_eq_true hi,cond_true,hg,List.drop_eq_getElem_cons hn,← show (i + 1).toNat=i.toNat + 1 from by omega]
      cases d with
      | true=>rw [cond_true,ih _ _ _ (by omega) (by omega),cond_true,cond_true,List.append_assoc];rfl
      | false =>
        rw [cond_false]
        unfold putP
        by_cases h1:l[i.toNat] < n
        · rw [decide_eq_false (by omega),cond_false,ih _ _ _ (by omega) (by omega),cond_false,cond_false,if_pos h1,List.append_assoc];rfl
        · rw [decide_eq_true (by omega),cond_true,if_neg h1]
          by_cases h2:l[i.toNat]=n
          · rw [decide_eq_false (by omega),cond_false,ih _ _ _ (by omega) (by omega),cond_true,if_pos h2,List.append_assoc];rfl
          · rw [decide_eq_true (by omega),cond_true,ih _ _ _ (by omega) (by omega),cond_true,if_neg h2,List.append_assoc,List.append_assoc];rfl
    · rw [decide_eq_false hi,cond_false,List.drop_eq_nil_of_le (by omega)]
      cases d<;>simp [putP]
theorem Z5e (l:List Int) (n:Int):(ZF l n).2.length≤l.length + 1:=by
  have h:=congrArg List.length (Z5i l n (((l.length:Int) - 0).toNat + 1) 0 false [] (Int.le_refl 0) (Nat.lt_succ_self _))
  have h2:=X3B l n
  rw [List.nil_append,cond_false] at h
  simp only [Int.toNat_zero,List.drop_zero] at h
  unfold ZF
  cases hc:(Z9 l n (((l.length:Int) - 0).toNat + 1) false 0 []).1 with
  | true=>rw [hc,cond_true] at h;omega
  | false=>rw [hc,cond_false,List.length_append] at h;omega
def ZS (Y9:(List Int)) (Ys:Int):(List Int):=(cond (ZF Y9 Ys).1
  (ZF Y9 Ys).2
  ((ZF Y9 Ys).2 ++ [Ys]))
theorem Z4Y (l:List Int) (n:Int):ZS l n=putP l n:=by
  unfold ZS ZF
  have h:=Z5i l n (((l.length:Int) - 0).toNat + 1) 0 false [] (Int.le_refl 0) (Nat.lt_succ_self _)
  rw [List.nil_append,cond_false] at h
  exact h
theorem Z42 (l:List Int) (n:Int):(ZS l n).length≤l.length + 1:=by rw [Z4Y];exact X3B l n
theorem Z3H (Y9:(List Int)) (Ys:Int) (hp0:Y9.length≤1073741824) (hp1:Y9.length≤100000)  : Fn prog 114 [.sl (Y9.map (cI .i64)), .i .i64 Ys] (.own 0) [.vec 2 1 ((ZS Y9 Ys).map (cI .i64)) false]:=by
 have p {a C} (s:Scr a C):=sL (mR false [0,2,2,4,41]) 1 (XV (st2:=⟨.sl (Y9.map (cI .i64)) :: .i .i64 Ys :: .any :: .any :: .nils :: .own 0 :: .b false :: .i .i64 0 :: an 41 [],[.vec 2 1 ([]:List (List AV)) false]⟩) (X6 (Z2y Y9 Ys) (x:=(ZF Y9 Ys)) (Z4k Y9 Ys hp0 hp1 (((Y9.length:Int) - 0).toNat + 1) false 0 ([]:List Int) (show 0≤0 from (by omega)) (show (([]:List Int).length:Int)≤2 * 0 from (by simp)) (Nat.lt_succ_self _)) rfl) (by simp [Z1A,cI]))<|s
 cases h0:(ZF Y9 Ys).1 with
 | true =>
  refine fnS E0Ok Z4 (c:=X0 f114) [] (.own 0) [.vec 2 1 (((ZF Y9 Ys).2).map (cI .i64)) false] func114 (p (sB' h0<|sK [0] sN)) rfl (by kernel_rfl) (by kernel_rfl) rfl ?_ ?_
  · simp only [ZS,h0,cond_true]
  · simp [ZS,h0]
 | false =>
  have y0:((ZF Y9 Ys).2).length + ([Ys]).length≤1073741824:=by clear p;exact (by (have q:=Z5e Y9 Ys;simp only [List.length_append,List.length_cons,List.length_nil];omega))
  refine fnS E0Ok Z4 (c:=X0 f114) [] (.own 0) [.vec 2 1 ((((ZF Y9 Ys).2).map (cI .i64)) ++ ([[.i .i64 Ys]]:List (List AV))) false] func114 (p (sB' h0<|sC (show (((ZF Y9 Ys).2).map (cI .i64)).length + ([[.i .i64 Ys]]:List (List AV)).length≤1073741824 from (by simpa using y0))<|sK [0] sN)) rfl (by kernel_rfl) (by kernel_rfl) rfl ?_ ?_
  · simp only [ZS,h0,cond_false]
  · simp [ZS,h0,cI]
def Z1g (Y0:Gm) (Y3:Int) (Y6:(List Int)):(List Int):=(ZS (ZS Y6 (((Z1 Y0).getD Y3.toNat default).getD 0 default)) (((Z1 Y0).getD Y3.toNat default).getD 1 default))
def Zm (Y0:Gm):Nat→Int→(List Int)→(List Int)
  | 0,_,_=>default
  | k + 1,Y3,Y6=>(cond (decide (Y3 < ((Z1 Y0).length:Int)))
    (cond (((Z7 Y0 (((Z1 Y0).getD Y3.toNat default).getD 0 default) (((Z1 Y0).getD Y3.toNat default).getD 1 default)).length:Int) == 1)
      (Zm Y0 k (Y3 + 1) (Z1g Y0 Y3 Y6))
      (Zm Y0 k (Y3 + 1) Y6))
    Y6)
def Z2e (Y0:Gm) (r:(List Int)):Ex × St:=((.exit 0),⟨.ref (Gm.c Y0) 0 :: .any :: .nils :: .any :: .own 0 :: .any :: .ref (Gm.c Y0) 0 :: .own 1 :: an 39 [],[.vec 2 1 (r.map (cI .i64)) false, .nest 79 ((Z1 Y0).map fun l=>l.map (cI .i64)) false]⟩)
def Z2W (Y0:Gm) (Y3:Int) (Y6:(List Int)):St:=⟨.ref (Gm.c Y0) 0 :: .any :: .nils :: .own 0 :: .own 1 :: .i .i64 Y3 :: .ref (Gm.c Y0) 0 :: .own 0 :: an 39 [],[.nest 79 ((Z1 Y0).map fun l=>l.map (cI .i64)) false, .vec 2 1 (Y6.map (cI .i64)) false]⟩
set_option maxHeartbeats 1000000 in
theorem Z3M (Y0:Gm) (hp0:Y0.Pq.length≤1073741824) (hp1:Y0.Tr.length≤1073741824) (hp2:∀ t∈Y0.Tr,t.length≤1073741824) (hp3:OkE Y0.Pq.length Y0.Tr):∀ (k:Nat) (Y3:Int) (Y6:(List Int)) (Zw:0≤Y3) (Z2F:(Y6.length:Int)≤2 * Y3) (hk:(((Z1 Y0).length:Int) - Y3).toNat < k),Lp prog 0 (sub (X0 f81) [1,1,1,0,1,0,0]) (Z2W Y0 Y3 Y6) (Z2e Y0 (Zm Y0 k Y3 Y6)).1 (Z2e Y0 (Zm Y0 k Y3 Y6)).2:=by
 intro k
 induction k with
 | zero=>intro Y3 Y6 Zw Z2F hk;exact absurd hk (Nat.not_lt_zero _)
 | succ k ih =>
  intro Y3 Y6 Zw Z2F hk
  have p {a C} (s:Scr a C):=sM (X67 (l:=(Z1 Y0)) (f:=fun l=>l.map (cI .i64)))<|s
  cases Yf:(decide (Y3 < ((Z1 Y0).length:Int))) with
  | true =>
   have Yt:=odt Yf
   have Yx:(0:Int)≤Y3:=by clear p;exact (by assumption)
   have Yw:Int.toNat Y3 < (Z1 Y0).length:=by clear p;exact (by omega)
   have YC:Y3.toNat < (Z1 Y0).length:=by clear p;exact (by assumption)
   have YA:(0:Int)≤0:=by clear p;exact (by omega)
   have YE:0 < (((Z1 Y0).getD Y3.toNat default).length:Int):=by clear p;exact (by ((have q:=Z17 Y0 hp3 Zw (odt Yf);omega)))
   have YL:0 < ((Z1 Y0).getD Y3.toNat default).length:=by clear p;exact (by omega)
   have YW:(0:Int)≤1:=by clear p;exact (by omega)
   have y_7:1 < (((Z1 Y0).getD Y3.toNat default).length:Int):=by clear p;exact (by ((have q:=Z17 Y0 hp3 Zw (odt Yf);omega)))
   have y_8:1 < ((Z1 Y0).getD Y3.toNat default).length:=by clear p;exact (by omega)
   have q {a C} (s:Scr a C):=p (sB Yf<|sK [13,13]<|sC (X2a (c:=(cI .i64)) (l:=(Z1 Y0)) (i:=Y3) Yx Yw)<|sC (X2C (c:=(cI .i64)) (l:=(Z1 Y0)) YC)<|sC (X20 (c:=(cI .i64)) (l:=(Z1 Y0)) (j:=Y3.toNat) (i:=0) YA YE)<|sE (X1Z (c:=(cI .i64)) (l:=(Z1 Y0)) (j:=Y3.toNat) (k:=0) YL)<|sC (X2a (c:=(cI .i64)) (l:=(Z1 Y0)) (i:=Y3) Yx Yw)<|sC (X2C (c:=(cI .i64)) (l:=(Z1 Y0)) YC)<|sC (X20 (c:=(cI .i64)) (l:=(Z1 Y0)) (j:=Y3.toNat) (i:=1) YW y_7)<|sE (X1Z (c:=(cI .i64)) (l:=(Z1 Y0)) (j:=Y3.toNat) (k:=1) y_8)<|sF (Z3Y Y0 (((Z1 Y0).getD Y3.toNat default).getD 0 default) (((Z1 Y0).getD Y3.toNat default).getD 1 default) hp0 hp1 hp2 hp3)<|sZ (cI .i64) (Z7 Y0 (((Z1 Y0).getD Y3.toNat default).getD 0 default) (((Z1 Y0).getD Y3.toNat default).getD 1 default))<|s)
   clear p
   cases Yi:(((Z7 Y0 (((Z1 Y0).getD Y3.toNat default).getD 0 default) (((Z1 Y0).getD Y3.toNat default).getD 1 default)).length:Int) == 1) with
   | true =>
    have YM:=eq_of_beq Yi
    have y_9:Y6.length≤1073741824:=by clear q;exact (by have q:=Z17 Y0 hp3 Zw (odt Yf);omega)
    have YV:Y6.length≤100000:=by clear q;exact (by have q:=Z17 Y0 hp3 Zw (odt Yf);omega)
    have Y12:(ZS Y6 (((Z1 Y0).getD Y3.toNat default).getD 0 default)).length≤1073741824:=by clear q;exact (by (have q:=Z17 Y0 hp3 Zw (odt Yf);(have q2:=Z42 Y6 (((Z1 Y0).getD Y3.toNat default).getD 0 default);omega)))
    have Y13:(ZS Y6 (((Z1 Y0).getD Y3.toNat default).getD 0 default)).length≤100000:=by clear q;exact (by (have q:=Z17 Y0 hp3 Zw (odt Yf);(have q2:=Z42 Y6 (((Z1 Y0).getD Y3.toNat default).getD 0 default);omega)))
    have Y14:(-9223372036854775808:Int)≤(Y3 + 1):=by clear q;exact (by omega)
    have Y15:(Y3 + 1)≤(9223372036854775807:Int):=by clear q;exact (by ((have q:=Z17 Y0 hp3 Zw (odt Yf);omega)))
    have e:Zm Y0 (k + 1) Y3 Y6=(Zm Y0 k (Y3 + 1) (Z1g Y0 Y3 Y6)):=by simp only [Zm,Yf,Yi,cond_true]
    rw [e]
    exact Xp E0Ok Z4 [] (mR false [0,1,1,6,39]) [0,4] (ih (Y3 + 1) (Z1g Y0 Y3 Y6) (show 0≤(Y3 + 1) from (by omega)) (show ((Z1g Y0 Y3 Y6).length:Int)≤2 * (Y3 + 1) from (by ((have q:=Z17 Y0 hp3 Zw (odt Yf);(unfold Z1g;have q2:=Z42 Y6 (((Z1 Y0).getD Y3.toNat default).getD 0 default);have q3:=Z42 (ZS Y6 (((Z1 Y0).getD Y3.toNat default).getD 0 default)) (((Z1 Y0).getD Y3.toNat default).getD 1 default);omega))))) (by omega)) (q (sB Yi<|sK [14,14]<|sC (X2a (c:=(cI .i64)) (l:=(Z1 Y0)) (i:=Y3) Yx Yw)<|sC (X2C (c:=(cI .i64)) (l:=(Z1 Y0)) YC)<|sC (X20 (c:=(cI .i64)) (l:=(Z1 Y0)) (j:=Y3.toNat) (i:=0) YA YE)<|sE (X1Z (c:=(cI .i64)) (l:=(Z1 Y0)) (j:=Y3.toNat) (k:=0) YL)<|sF (Z3H Y6 (((Z1 Y0).getD Y3.toNat default).getD 0 default) y_9 YV)<|sC (X2a (c:=(cI .i64)) (l:=(Z1 Y0)) (i:=Y3) Yx Yw)<|sC (X2C (c:=(cI .i64)) (l:=(Z1 Y0)) YC)<|sC (X20 (c:=(cI .i64)) (l:=(Z1 Y0)) (j:=Y3.toNat) (i:=1) YW y_7)<|sE (X1Z (c:=(cI .i64)) (l:=(Z1 Y0)) (j:=Y3.toNat) (k:=1) y_8)<|sF (Z3H (ZS Y6 (((Z1 Y0).getD Y3.toNat default).getD 0 default)) (((Z1 Y0).getD Y3.toNat default).getD 1 default) Y12 Y13)<|sI (Y3 + 1) Y14 Y15<|sN)) (by kernel_rfl)
   | false =>
    have YM:=ne_of_beq_false Yi
    have y_9:(-9223372036854775808:Int)≤(Y3 + 1):=by clear q;exact (by omega)
    have YV:(Y3 + 1)≤(9223372036854775807:Int):=by clear q;exact (by ((have q:=Z17 Y0 hp3 Zw (odt Yf);omega)))
    have e:Zm Y0 (k + 1) Y3 Y6=(Zm Y0 k (Y3 + 1) Y6):=by simp only [Zm,Yf,Yi,cond_true,cond_false]
    rw [e]
    exact Xp E0Ok Z4 [] (mR false [0,1,1,6,39]) [0,1] (ih (Y3 + 1) Y6 (show 0≤(Y3 + 1) from (by omega)) (show (Y6.length:Int)≤2 * (Y3 + 1) from (by omega)) (by omega)) (q (sB Yi<|sI (Y3 + 1) y_9 YV<|sN)) (by kernel_rfl)
  | false =>
   have Yt:=odf Yf
   have e:Zm Y0 (k + 1) Y3 Y6=Y6:=by simp only [Zm,Yf,cond_false]
   rw [e]
   exact outR (e:=(.exit 0)) E0Ok Z4 [] (mR false [0,1,1,1,1,1,1,2,39]) [1,0] (p (sB Yf<|sN)) (by kernel_rfl) (by intro h;cases h)
end Go.Ab
