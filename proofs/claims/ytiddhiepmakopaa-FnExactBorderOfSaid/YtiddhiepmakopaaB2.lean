/- The functions of this seat as plain Lean, and that the program's are these. Printed by a program of the prover's own. -/
import Derived.Test.YtiddhiepmakopaaB1
set_option linter.unusedVariables false
set_option linter.unusedSimpArgs false
set_option maxRecDepth 100000
namespace Go.Ab
open Go.RowKit Go.Proofs.Try
def Z11 (Y0:Gm) (Yg:Int) (Ya:(List (List Int))):(List (List Int)):=(Zp Y0 Yg Ya (((Y0.Pq.length:Int) - (Yg + 1)).toNat + 1) (Yg + 1) Ya)
theorem Z5X (m:Gm) (a:Int) (r1:List (List Int)):∀ (k:Nat) (b:Int) (r:List (List Int)),(Zp m a r1 k b r).length≤r.length + k:=by
  intro k
  induction k with
  | zero=>intro b r;exact Nat.zero_le _
  | succ k ih =>
    intro b r
    rw [Zp]
    cases decide (b < (m.Pq.length:Int)) with
    | false=>rw [cond_false];omega
    | true =>
      rw [cond_true]
      cases ((Zb m).getD ((IntKind.wrap .i64 ((IntKind.wrap .i64 (a * (m.Pq.length:Int))) + b)).toNat) default) with
      | true=>rw [cond_true];have:=ih (b + 1) (r ++ [[a,b]]);simp only [List.length_append,List.length_cons,List.length_nil] at this;omega
      | false=>rw [cond_false];have:=ih (b + 1) r;omega
def ZV (Y0:Gm):Nat→Int→(List (List Int))→(List (List Int))
  | 0,_,_=>default
  | k + 1,Yg,Ya=>(cond (decide (Yg < (Y0.Pq.length:Int)))
    (ZV Y0 k (Yg + 1) (Z11 Y0 Yg Ya))
    Ya)
def Z2A (Y0:Gm) (r:(List (List Int))):Ex × St:=((.exit 4),⟨.ref (Gm.c Y0) 0 :: .any :: .nils :: .i .i64 (Y0.Pq.length:Int) :: .own 0 :: an 5 (.own 1 :: .any :: .any :: .ref (Gm.c Y0) 0 :: .ref (Gm.c Y0) 0 :: .ref (Gm.c Y0) 0 :: .sl (Y0.Pq.map Gv.c) :: .i .i64 (Y0.Pq.length:Int) :: .i .i64 (Y0.Pq.length:Int) :: .i .i64 (Y0.Pq.length:Int) :: .i .i64 (IntKind.wrap .i64 ((Y0.Pq.length:Int) * (Y0.Pq.length:Int))) :: .own 0 :: an 69 []),[.vec 4 1 ((Zb Y0).map cB) false, .nest 79 (r.map fun l=>l.map (cI .i64)) false]⟩)
def Z3o (Y0:Gm) (Yg:Int) (Ya:(List (List Int))):St:=⟨.ref (Gm.c Y0) 0 :: .any :: .nils :: .i .i64 (Y0.Pq.length:Int) :: .own 0 :: an 5 (.own 1 :: .i .i64 Yg :: .any :: .ref (Gm.c Y0) 0 :: .ref (Gm.c Y0) 0 :: .ref (Gm.c Y0) 0 :: .sl (Y0.Pq.map Gv.c) :: .i .i64 (Y0.Pq.length:Int) :: .i .i64 (Y0.Pq.length:Int) :: .i .i64 (Y0.Pq.length:Int) :: .i .i64 (IntKind.wrap .i64 ((Y0.Pq.length:Int) * (Y0.Pq.length:Int))) :: .own 0 :: an 69 []),[.vec 4 1 ((Zb Y0).map cB) false, .nest 79 (Ya.map fun l=>l.map (cI .i64)) false]⟩
theorem Z4v (Y0:Gm) (hp0:Y0.Pq.length≤1073741824) (hp1:Y0.Tr.length≤1073741824) (hp2:∀ t∈Y0.Tr,t.length≤1073741824) (hp3:OkE Y0.Pq.length Y0.Tr):∀ (k:Nat) (Yg:Int) (Ya:(List (List Int))) (Z1G:0≤Yg) (Z1H:(Ya.length:Int)≤64 * Yg) (hk:((Y0.Pq.length:Int) - Yg).toNat < k),Lp prog 0 (sub (X0 f66) [1,1,1,1,1,0,1,0,0]) (Z3o Y0 Yg Ya) (Z2A Y0 (ZV Y0 k Yg Ya)).1 (Z2A Y0 (ZV Y0 k Yg Ya)).2:=by
 intro k
 induction k with
 | zero=>intro Yg Ya Z1G Z1H hk;exact absurd hk (Nat.not_lt_zero _)
 | succ k ih =>
  intro Yg Ya Z1G Z1H hk
  cases Yh:(decide (Yg < (Y0.Pq.length:Int))) with
  | true =>
   have Yq:=odt Yh
   have Yu:(-9223372036854775808:Int)≤(Yg + 1):=(by omega)
   have Ys:(Yg + 1)≤(9223372036854775807:Int):=(by omega)
   have e:ZV Y0 (k + 1) Yg Ya=(ZV Y0 k (Yg + 1) (Z11 Y0 Yg Ya)):=by simp only [ZV,Yh,cond_true]
   rw [e]
   exact Xw E0Ok Z2 [] (mR false [0,1,1,3,5,2,1,9,69]) [0,1] (ih (Yg + 1) (Z11 Y0 Yg Ya) (show 0≤(Yg + 1) from (by omega)) (show ((Z11 Y0 Yg Ya).length:Int)≤64 * (Yg + 1) from (by ((have:=hp3.1;have g4:=odt Yh;have q:=Z5X Y0 Yg Ya (((Y0.Pq.length:Int) - (Yg + 1)).toNat + 1) (Yg + 1) Ya;unfold Z11;omega)))) (by omega)) (sB Yh<|sI (Yg + 1) Yu Ys<|sL Z2d 2 (X6 (Z2z Y0 Yg Ya) (x:=(Z11 Y0 Yg Ya)) (Z4u Y0 Yg Ya hp0 hp1 hp2 hp3 Z1G Z1H Yh (((Y0.Pq.length:Int) - (Yg + 1)).toNat + 1) (Yg + 1) Ya (show Yg < (Yg + 1) from (by omega)) (show (Ya.length:Int)≤(Ya.length:Int) + (Yg + 1) from (by omega)) (Nat.lt_succ_self _)) rfl)<|sI (Yg + 1) Yu Ys<|sN) (by kernel_rfl)
  | false =>
   have Yq:=odf Yh
   have e:ZV Y0 (k + 1) Yg Ya=Ya:=by simp only [ZV,Yh,cond_false]
   rw [e]
   exact outR (e:=(.exit 4)) E0Ok Z2 [] (mR false [0,1,1,3,5,1,2,9,69]) [0,1] (sB Yh<|sN) (by kernel_rfl) (by intro h;cases h)
def Z1J (Y0:Gm):(List (List Int)):=(ZV Y0 (((Y0.Pq.length:Int) - 0).toNat + 1) 0 ([]:List (List Int)))
def Z3 (Y0:Gm):(List (List Int)):=(Z1J Y0)
theorem Z5R (m:Gm) (i:Int) (r:List Bool):ZI m i r=((r.set (IntKind.wrap .i64 (IntKind.wrap .i64 (Z15 ((m.Tr.getD i.toNat default).getD 0 default) ((m.Tr.getD i.toNat default).getD 1 default) * (m.Pq.length:Int)) + Z16 ((m.Tr.getD i.toNat default).getD 0 default) ((m.Tr.getD i.toNat default).getD 1 default))).toNat true).set (IntKind.wrap .i64 (IntKind.wrap .i64 (Z15 ((m.Tr.getD i.toNat default).getD 1 default) ((m.Tr.getD i.toNat default).getD 2 default) * (m.Pq.length:Int)) + Z16 ((m.Tr.getD i.toNat default).getD 1 default) ((m.Tr.getD i.toNat default).getD 2 default))).toNat true).set (IntKind.wrap .i64 (IntKind.wrap .i64 (Z15 ((m.Tr.getD i.toNat default).getD 2 default) ((m.Tr.getD i.toNat default).getD 0 default) * (m.Pq.length:Int)) + Z16 ((m.Tr.getD i.toNat default).getD 2 default) ((m.Tr.getD i.toNat default).getD 0 default))).toNat true:=by
  have one:∀ (r0:List Bool) (k:Nat) (x:Int) (s:List Bool),x < 3→Zh m i r0 (k + 1) x s=Zh m i r0 k (x + 1) (s.set (IntKind.wrap .i64 (IntKind.wrap .i64 (Zr m i x * (m.Pq.length:Int)) + Zv m i x)).toNat true):=by
    intro r0 k x s hx
    rw [Zh,decide_eq_true hx,cond_true]
  unfold ZI
  show Zh m i r 4 0 r=_
  rw [one r 3 0 r (by omega),one r 2 (0 + 1) _ (by omega),one r 1 (0 + 1 + 1) _ (by omega),Zh]
  show cond (decide ((3:Int) < 3)) _ _=_
  rw [decide_eq_false (by omega),cond_false]
  rfl
theorem Z5S (m:Gm) (ok:OkE m.Pq.length m.Tr) {a b:Int} (ha:0≤a) (hab:a < b) (hb:b < (m.Pq.length:Int)):∀ (k:Nat) (i:Nat) (r:List Bool),i≤m.Tr.length→((m.Tr.length:Int) - i).toNat < k→r.length=(IntKind.wrap .i64 ((m.Pq.length:Int) * (m.Pq.length:Int))).toNat →
    (Zo m k i r).getD (IntKind.wrap .i64 (IntKind.wrap .i64 (a * (m.Pq.length:Int)) + b)).toNat default=(r.getD (IntKind.wrap .i64 (IntKind.wrap .i64 (a * (m.Pq.length:Int)) + b)).toNat default || (m.Tr.drop i).any fun t=>tHas t a b):=by
  intro k
  induction k with
  | zero=>intro i r _ hk;exact absurd hk (Nat.not_lt_zero _)
  | succ k ih =>
    intro i r hle hk hr
    rw [Zo]
    by_cases hi:(i:Int) < (m.Tr.length:Int)
    · have hn:i < m.Tr.length:=by omega
      rw [decide_eq_true hi,cond_true]
      have:=ih (i + 1) (ZI m i r) (by omega) (by omega) (by rw [Z3x];exact hr)
      rw [show ((i:Int) + 1)=((i + 1:Nat):Int) from by omega,this,Z5R,List.drop_eq_getElem_cons hn,List.any_cons]
      have hg:m.Tr.getD ((i:Nat):Int).toNat default=m.Tr[i]:=by rw [show ((i:Nat):Int).toNat=i from by omega,List.getD_eq_getElem?_getD,List.getElem?_eq_getElem hn];rfl
      obtain ⟨x,y,z,ht,r1,r2,r3,n1,n2,n3⟩:=ok.2.2 _ (List.getElem_mem hn)
      have h64:(m.Pq.length:Int)≤64:=by have:=ok.1;omega
      rw [hg,ht]
      simp only [List.getD_cons_zero,List.getD_cons_succ]
      rw [X3z h64 (Z4a z x) (Z3K r3 r1) (Z3L r3 r1) ha hab hb (by simpa using hr),X3z h64 (Z4a y z) (Z3K r2 r3) (Z3L r2 r3) ha hab hb (by simpa using hr),X3z h64 (Z4a x y) (Z3K r1 r2) (Z3L r1 r2) ha hab hb hr]
      have hT:=X3Y n1 n2 n3 hab
      unfold tE at hT
      simp only [List.getD_cons_zero,List.getD_cons_succ,List.mem_cons,List.not_mem_nil,or_false] at hT
      generalize r.getD (IntKind.wrap .i64 (IntKind.wrap .i64 (a * (m.Pq.length:Int)) + b)).toNat default=q
      generalize ((m.Tr.drop (i + 1)).any fun t=>tHas t a b)=q2
      have hB:tHas [x,y,z] a b=(decide ((⟨a,b⟩:Gedge)=mkE x y) || (decide ((⟨a,b⟩:Gedge)=mkE y z) || decide ((⟨a,b⟩:Gedge)=mkE z x))):=by
        rw [Bool.eq_iff_iff,← hT];simp only [Bool.or_eq_true,decide_eq_true_eq]
      rw [hB]
      cases decide ((⟨a,b⟩:Gedge)=mkE x y)<;>cases decide ((⟨a,b⟩:Gedge)=mkE y z)<;>cases decide ((⟨a,b⟩:Gedge)=mkE z x)<;>cases q<;>cases q2<;>rfl
    · rw [decide_eq_false hi,cond_false,List.drop_eq_nil_of_le (by omega)];simp
theorem Z5Y (m:Gm) (ok:OkE m.Pq.length m.Tr) {a b:Int} (ha:0≤a) (hab:a < b) (hb:b < (m.Pq.length:Int)) :
    (Zb m).getD (IntKind.wrap .i64 (IntKind.wrap .i64 (a * (m.Pq.length:Int)) + b)).toNat default=m.Tr.any fun t=>tHas t a b:=by
  unfold Zb
  have:=Z5S m ok ha hab hb (((m.Tr.length:Int) - 0).toNat + 1) 0 (List.replicate (IntKind.wrap .i64 ((m.Pq.length:Int) * (m.Pq.length:Int))).toNat false) (Nat.zero_le _) (by omega) (by simp)
  rw [List.drop_zero] at this
  refine this.trans ?_
  rw [List.getD_eq_getElem?_getD,List.getElem?_replicate]
  split<;>simp
theorem Z3Y (m:Gm) (ok:OkE m.Pq.length m.Tr):Z3 m=(edgL m.Pq.length m.Tr).map e2:=by
  rw [X7B]
  unfold Z3 Z1J
  refine X7i (n:=m.Pq.length) (p:=fun a b=>m.Tr.any fun t=>tHas t a b) (g:=fun a b=>e2 ⟨a,b⟩) (lo:=ZV m) (li:=Z11 m) (fun k a r=>rfl) (fun a r ha => ?_) _ 0 (Nat.zero_le _) (by omega)
  unfold Z11
  have hf:=X4w (n:=(m.Pq.length:Int)) (f:=fun b => !((Zb m).getD ((IntKind.wrap .i64 ((IntKind.wrap .i64 ((a:Int) * (m.Pq.length:Int))) + b)).toNat) default)) (g:=fun b => [(a:Int),b]) (lo:=Zp m a r) (fun k i r'=>by
    rw [Zp]
    cases ((Zb m).getD ((IntKind.wrap .i64 ((IntKind.wrap .i64 ((a:Int) * (m.Pq.length:Int))) + i)).toNat) default)<;>rfl) (((m.Pq.length:Int) - ((a:Int) + 1)).toNat + 1) ((a:Int) + 1) r (Nat.lt_succ_self _)
  rw [hf,show ((m.Pq.length:Int) - ((a:Int) + 1)).toNat=m.Pq.length - (a + 1) from by omega]
  congr 1
  have hfc:((List.range (m.Pq.length - (a + 1))).filter fun (j:Nat) => !(!((Zb m).getD ((IntKind.wrap .i64 ((IntKind.wrap .i64 ((a:Int) * (m.Pq.length:Int))) + ((a:Int) + 1 + (j:Int)))).toNat) default)))=(List.range (m.Pq.length - (a + 1))).filter fun (j:Nat)=>m.Tr.any fun t=>tHas t a ((a:Int) + 1 + j):=by
    refine List.filter_congr fun j hj => ?_
    rw [List.mem_range] at hj
    rw [Bool.not_not,Z5Y m ok (by omega) (by omega) (by omega)]
  rw [hfc]
  rfl
theorem Z5t (m:Gm) (ok:OkE m.Pq.length m.Tr):(Z3 m).length≤4096:=by
  rw [Z3Y m ok,List.length_map];exact X2R ok
theorem Z2j (m:Gm) (ok:OkE m.Pq.length m.Tr) {i:Int} (h0:0≤i) (hi:i < ((Z3 m).length:Int)) :
    ((Z3 m).getD i.toNat default).length=2∧0≤((Z3 m).getD i.toNat default).getD 0 default∧((Z3 m).getD i.toNat default).getD 0 default < ((Z3 m).getD i.toNat default).getD 1 default∧((Z3 m).getD i.toNat default).getD 1 default < (m.Pq.length:Int)∧(m.Pq.length:Int)≤64∧((Z3 m).length:Int)≤4096:=by
  have hl:=Z5t m ok
  have h64:=ok.1
  rw [Z3Y m ok] at hi hl ⊢
  rw [List.length_map] at hi hl
  have hn:i.toNat < (edgL m.Pq.length m.Tr).length:=by omega
  have hg:((edgL m.Pq.length m.Tr).map e2).getD i.toNat default=e2 (edgL m.Pq.length m.Tr)[i.toNat]:=by rw [List.getD_eq_getElem?_getD,List.getElem?_map,List.getElem?_eq_getElem hn];rfl
  have hb:=X6l (List.getElem_mem hn)
  rw [hg,List.length_map]
  exact ⟨rfl,hb.1,hb.2.1,hb.2.2,by omega,by omega⟩
theorem Z54 (Y0:Gm) (hp0:Y0.Pq.length≤1073741824) (hp1:Y0.Tr.length≤1073741824) (hp2:∀ t∈Y0.Tr,t.length≤1073741824) (hp3:OkE Y0.Pq.length Y0.Tr)  : Fn prog 66 [.ref (Gm.c Y0) 0] (.own 0) [.nest 79 ((Z3 Y0).map fun l=>l.map (cI .i64)) false]:=by
 have y0:(0:Int)≤(IntKind.wrap .i64 ((Y0.Pq.length:Int) * (Y0.Pq.length:Int))):=(by (have q2:=ixN hp3.1;omega))
 have y1:((IntKind.wrap .i64 ((Y0.Pq.length:Int) * (Y0.Pq.length:Int))):Int)≤2147483648:=(by (have q2:=ixN hp3.1;omega))
 refine fnS E0Ok Z2 (c:=X0 f66) [] (.own 0) [.nest 79 ((Z1J Y0).map fun l=>l.map (cI .i64)) false] func66 (sZ Gv.c Y0.Pq<|sW .i64 ((Y0.Pq.length:Int) * (Y0.Pq.length:Int))<|sC (show (IntKind.wrap .i64 ((Y0.Pq.length:Int) * (Y0.Pq.length:Int)))=(IntKind.wrap .i64 ((Y0.Pq.length:Int) * (Y0.Pq.length:Int))) from rfl)<|sC y0<|sC y1<|sL (mR false [0,1,1,4,7,9,69]) 1 (XU (st2:=⟨.ref (Gm.c Y0) 0 :: .any :: .nils :: .i .i64 (Y0.Pq.length:Int) :: .own 0 :: .i .i64 0 :: an 7 (.ref (Gm.c Y0) 0 :: .ref (Gm.c Y0) 0 :: .ref (Gm.c Y0) 0 :: .sl (Y0.Pq.map Gv.c) :: .i .i64 (Y0.Pq.length:Int) :: .i .i64 (Y0.Pq.length:Int) :: .i .i64 (Y0.Pq.length:Int) :: .i .i64 (IntKind.wrap .i64 ((Y0.Pq.length:Int) * (Y0.Pq.length:Int))) :: .own 0 :: an 69 []),[.vec 4 1 (List.replicate (Int.toNat (IntKind.wrap .i64 ((Y0.Pq.length:Int) * (Y0.Pq.length:Int)))) [.b false]) false]⟩) (X6 (Z2y Y0) (x:=(Zb Y0)) (Z4t Y0 hp0 hp1 hp2 hp3 (((Y0.Tr.length:Int) - 0).toNat + 1) 0 (List.replicate (IntKind.wrap .i64 ((Y0.Pq.length:Int) * (Y0.Pq.length:Int))).toNat false) (show 0≤0 from (by omega)) (show (List.replicate (IntKind.wrap .i64 ((Y0.Pq.length:Int) * (Y0.Pq.length:Int))).toNat false).length=(IntKind.wrap .i64 ((Y0.Pq.length:Int) * (Y0.Pq.length:Int))).toNat from (by simp)) (Nat.lt_succ_self _)) rfl) (by simp [Z3m,cB]))<|sL (mR false [0,1,1,3,5,2,1,9,69]) 2 (XU (st2:=⟨.ref (Gm.c Y0) 0 :: .any :: .nils :: .i .i64 (Y0.Pq.length:Int) :: .own 0 :: an 5 (.own 1 :: .i .i64 0 :: .any :: .ref (Gm.c Y0) 0 :: .ref (Gm.c Y0) 0 :: .ref (Gm.c Y0) 0 :: .sl (Y0.Pq.map Gv.c) :: .i .i64 (Y0.Pq.length:Int) :: .i .i64 (Y0.Pq.length:Int) :: .i .i64 (Y0.Pq.length:Int) :: .i .i64 (IntKind.wrap .i64 ((Y0.Pq.length:Int) * (Y0.Pq.length:Int))) :: .own 0 :: an 69 []),[.vec 4 1 ((Zb Y0).map cB) false, .nest 79 [] false]⟩) (X6 (Z2A Y0) (x:=(Z1J Y0)) (Z4v Y0 hp0 hp1 hp2 hp3 (((Y0.Pq.length:Int) - 0).toNat + 1) 0 ([]:List (List Int)) (show 0≤0 from (by omega)) (show (([]:List (List Int)).length:Int)≤64 * 0 from (by simp)) (Nat.lt_succ_self _)) rfl) (by simp [Z3o,cL,cI]))<|sK [1] sN) rfl (by kernel_rfl) (by kernel_rfl) rfl ?_ ?_
 · rfl
 · simp [Z3]
def Z1n (Yt:(List Int)) (Yx:Int):Bool:=(cond ((Yt.getD 0 default) == Yx)
  true
  (cond ((Yt.getD 1 default) == Yx)
    true
    ((Yt.getD 2 default) == Yx)))
theorem Z4i (Yt:(List Int)) (Yx:Int) (hp0:Yt.length≤1073741824) (hp1:Yt.length=3)  : Fn prog 108 [.sl (Yt.map (cI .i64)), .i .i64 Yx] (.b (Z1n Yt Yx)) []:=by
 have y0:(0:Int)≤0:=(by omega)
 have y1:0 < (Yt.length:Int):=(by omega)
 have p {a C} (s:Scr a C):=sG (cI .i64) Yt 0 y0 y1<|s
 cases h0:((Yt.getD 0 default) == Yx) with
 | true =>
  have gh0:=eq_of_beq h0
  refine fnS E0Ok Z2 (c:=X0 f108) [] (.b true) [] func108 (p (sB h0<|sB h0<|sB h0<|sB h0<|sB h0<|sB h0<|sB (show true=true from rfl)<|sB (show true=true from rfl)<|sB (show true=true from rfl)<|sB (show true=true from rfl)<|sB (show true=true from rfl)<|sB (show true=true from rfl)<|sK [] sN)) rfl (by kernel_rfl) (by kernel_rfl) rfl ?_ ?_
  · simp only [Z1n,h0,cond_true]
  · rfl
 | false =>
  have gh0:=ne_of_beq_false h0
  have y2:(0:Int)≤1:=by clear p;exact (by omega)
  have y3:1 < (Yt.length:Int):=by clear p;exact (by omega)
  have q {a C} (s:Scr a C):=p (sB h0<|sB h0<|sG (cI .i64) Yt 1 y2 y3<|sB h0<|sB h0<|sB h0<|sB h0<|s)
  clear p
  cases h1:((Yt.getD 1 default) == Yx) with
  | true =>
   have gh1:=eq_of_beq h1
   refine fnS E0Ok Z2 (c:=X0 f108) [] (.b true) [] func108 (q (sB h1<|sB h1<|sB h1<|sB h1<|sB h1<|sB h1<|sK [] sN)) rfl (by kernel_rfl) (by kernel_rfl) rfl ?_ ?_
   · simp only [Z1n,h0,h1,cond_true,cond_false]
   · rfl
  | false =>
   have gh1:=ne_of_beq_false h1
   have y4:(0:Int)≤2:=by clear q;exact (by omega)
   have y5:2 < (Yt.length:Int):=by clear q;exact (by omega)
   refine fnS E0Ok Z2 (c:=X0 f108) [] (.b ((Yt.getD 2 default) == Yx)) [] func108 (q (sB h1<|sB h1<|sG (cI .i64) Yt 2 y4 y5<|sB h1<|sB h1<|sB h1<|sB h1<|sK [] sN)) rfl (by kernel_rfl) (by kernel_rfl) rfl ?_ ?_
   · simp only [Z1n,h0,h1,cond_false]
   · rfl
def Zs (Y0:Gm) (YD:Int) (YE:Int):Nat→Int→(List Int)→(List Int)
  | 0,_,_=>default
  | k + 1,Y2,Y7=>(cond (decide (Y2 < (Y0.Tr.length:Int)))
    (cond (Z1n (Y0.Tr.getD Y2.toNat default) YD)
      (cond (Z1n (Y0.Tr.getD Y2.toNat default) YE)
        (Zs Y0 YD YE k (Y2 + 1) (Y7 ++ [Y2]))
        (Zs Y0 YD YE k (Y2 + 1) Y7))
      (Zs Y0 YD YE k (Y2 + 1) Y7))
    Y7)
def Z36 (Y0:Gm) (YD:Int) (YE:Int) (r:(List Int)):Ex × St:=((.exit 0),⟨an 6 (.nils :: .own 0 :: an 36 []),[.vec 2 1 (r.map (cI .i64)) false]⟩)
def Z37 (Y0:Gm) (YD:Int) (YE:Int) (Y2:Int) (Y7:(List Int)):St:=⟨.ref (Gm.c Y0) 0 :: .i .i64 YD :: .i .i64 YE :: .any :: .any :: .any :: .nils :: .own 0 :: .i .i64 Y2 :: an 35 [],[.vec 2 1 (Y7.map (cI .i64)) false]⟩
theorem Z55 (Y0:Gm) (YD:Int) (YE:Int) (hp0:Y0.Pq.length≤1073741824) (hp1:Y0.Tr.length≤1073741824) (hp2:∀ t∈Y0.Tr,t.length≤1073741824) (hp3:OkE Y0.Pq.length Y0.Tr):∀ (k:Nat) (Y2:Int) (Y7:(List Int)) (Z3B:0≤Y2) (Z3C:(Y7.length:Int)≤Y2) (hk:((Y0.Tr.length:Int) - Y2).toNat < k),Lp prog 0 (sub (X0 f67) [1,1,0,1,0,0]) (Z37 Y0 YD YE Y2 Y7) (Z36 Y0 YD YE (Zs Y0 YD YE k Y2 Y7)).1 (Z36 Y0 YD YE (Zs Y0 YD YE k Y2 Y7)).2:=by
 intro k
 induction k with
 | zero=>intro Y2 Y7 Z3B Z3C hk;exact absurd hk (Nat.not_lt_zero _)
 | succ k ih =>
  intro Y2 Y7 Z3B Z3C hk
  have p {a C} (s:Scr a C):=sZ (cL (cI .i64)) Y0.Tr<|s
  cases Yh:(decide (Y2 < (Y0.Tr.length:Int))) with
  | true =>
   have Yq:=odt Yh
   have Yu:(0:Int)≤Y2:=by clear p;exact (by assumption)
   have Ys:Y2 < (Y0.Tr.length:Int):=by clear p;exact (by assumption)
   have Yw:(Y0.Tr.getD Y2.toNat default).length≤1073741824:=by clear p;exact (by exact X8b hp3 (by assumption) Yh)
   have Yv:(Y0.Tr.getD Y2.toNat default).length=3:=by clear p;exact (by exact (tri3 hp3 (by assumption) Yh).1)
   have q {a C} (s:Scr a C):=p (sB Yh<|sG (cL (cI .i64)) Y0.Tr Y2 Yu Ys<|sF (Z4i (Y0.Tr.getD Y2.toNat default) YD Yw Yv)<|s)
   clear p
   cases Yl:(Z1n (Y0.Tr.getD Y2.toNat default) YD) with
   | true =>
    have p {a C} (s:Scr a C):=q (sB Yl<|sB Yl<|sB Yl<|sB Yl<|sB Yl<|sB Yl<|sG (cL (cI .i64)) Y0.Tr Y2 Yu Ys<|sB Yl<|sB Yl<|sB Yl<|sF (Z4i (Y0.Tr.getD Y2.toNat default) YE Yw Yv)<|sB Yl<|s)
    clear q
    cases YB:(Z1n (Y0.Tr.getD Y2.toNat default) YE) with
    | true =>
     have Yz:Y7.length + ([Y2]).length≤1073741824:=by clear p;exact (by have q:=hp3.2.1;(simp only [List.length_cons,List.length_nil];omega))
     have YI:(-9223372036854775808:Int)≤(Y2 + 1):=by clear p;exact (by omega)
     have YV:(Y2 + 1)≤(9223372036854775807:Int):=by clear p;exact (by omega)
     have e:Zs Y0 YD YE (k + 1) Y2 Y7=(Zs Y0 YD YE k (Y2 + 1) (Y7 ++ [Y2])):=by simp only [Zs,Yh,Yl,YB,cond_true]
     rw [e]
     exact XP E0Ok Z2 [] (mR false [0,3,3,3,35]) [0] (⟨.ref (Gm.c Y0) 0 :: .i .i64 YD :: .i .i64 YE :: .any :: .any :: .any :: .nils :: .own 0 :: .i .i64 (Y2 + 1) :: an 35 [],[.vec 2 1 ((Y7.map (cI .i64)) ++ ([[.i .i64 Y2]]:List (List AV))) false]⟩) (p (sB YB<|sC (show (Y7.map (cI .i64)).length + ([[.i .i64 Y2]]:List (List AV)).length≤1073741824 from (by simpa using Yz))<|sI (Y2 + 1) YI YV<|sN)) (by kernel_rfl) (by simp [Z37,cI]) (ih (Y2 + 1) (Y7 ++ [Y2]) (show 0≤(Y2 + 1) from (by omega)) (show ((Y7 ++ [Y2]).length:Int)≤(Y2 + 1) from (by simp_all<;>omega)) (by omega))
    | false =>
     have Yz:(-9223372036854775808:Int)≤(Y2 + 1):=by clear p;exact (by omega)
     have YI:(Y2 + 1)≤(9223372036854775807:Int):=by clear p;exact (by omega)
     have e:Zs Y0 YD YE (k + 1) Y2 Y7=(Zs Y0 YD YE k (Y2 + 1) Y7):=by simp only [Zs,Yh,Yl,YB,cond_true,cond_false]
     rw [e]
     exact Xw E0Ok Z2 [] (mR false [0,3,3,3,35]) [0] (ih (Y2 + 1) Y7 (show 0≤(Y2 + 1) from (by omega)) (show (Y7.length:Int)≤(Y2 + 1) from (by omega)) (by omega)) (p (sB YB<|sI (Y2 + 1) Yz YI<|sN)) (by kernel_rfl)
   | false =>
    have Yz:(-9223372036854775808:Int)≤(Y2 + 1):=by clear q;exact (by omega)
    have YI:(Y2 + 1)≤(9223372036854775807:Int):=by clear q;exact (by omega)
    have e:Zs Y0 YD YE (k + 1) Y2 Y7=(Zs Y0 YD YE k (Y2 + 1) Y7):=by simp only [Zs,Yh,Yl,cond_true,cond_false]
    rw [e]
    exact Xw E0Ok Z2 [] (mR false [0,3,3,3,35]) [0] (ih (Y2 + 1) Y7 (show 0≤(Y2 + 1) from (by omega)) (show (Y7.length:Int)≤(Y2 + 1) from (by omega)) (by omega)) (q (sB Yl<|sB Yl<|sB Yl<|sB Yl<|sB Yl<|sB Yl<|sB Yl<|sB Yl<|sB Yl<|sB Yl<|sB (show false=false from rfl)<|sI (Y2 + 1) Yz YI<|sN)) (by kernel_rfl)
  | false =>
   have Yq:=odf Yh
   have e:Zs Y0 YD YE (k + 1) Y2 Y7=Y7:=by simp only [Zs,Yh,cond_false]
   rw [e]
   exact outR (e:=(.exit 0)) E0Ok Z2 [] (mR false [6,2,36]) [0] (p (sB Yh<|sN)) (by kernel_rfl) (by intro h;cases h)
def Z22 (Y0:Gm) (YD:Int) (YE:Int):(List Int):=(Zs Y0 YD YE (((Y0.Tr.length:Int) - 0).toNat + 1) 0 ([]:List Int))
def Z1S (Y0:Gm) (YD:Int) (YE:Int):(List Int):=(Z22 Y0 YD YE)
theorem Z5T (m:Gm) (a b:Int):Z1S m a b=idxP m.Tr a b:=by
  unfold Z1S Z22
  rw [X4w (n:=(m.Tr.length:Int)) (f:=fun i => !(tHas (m.Tr.getD i.toNat default) a b)) (g:=fun i=>i) (lo:=Zs m a b) (fun k i r=>by
    rw [Zs]
    unfold Z1n tHas
    generalize m.Tr.getD i.toNat default=t
    cases decide (i < (m.Tr.length:Int))<;>cases (t.getD 0 default == a)<;>cases (t.getD 1 default == a)<;>cases (t.getD 2 default == a)<;>cases (t.getD 0 default == b)<;>cases (t.getD 1 default == b)<;>cases (t.getD 2 default == b)<;>rfl) _ _ _ (Nat.lt_succ_self _)]
  unfold idxP
  rw [List.nil_append,show ((m.Tr.length:Int) - 0).toNat=m.Tr.length from by omega]
  have h1:∀ j:Nat,((0:Int) + (j:Int)).toNat=j:=fun j=>by omega
  have h2:∀ j:Nat,((0:Int) + (j:Int))=(j:Int):=fun j=>by omega
  simp only [Bool.not_not,h1,h2,Int.toNat_natCast]
theorem Z5u (Y0:Gm) (YD:Int) (YE:Int) (hp0:Y0.Pq.length≤1073741824) (hp1:Y0.Tr.length≤1073741824) (hp2:∀ t∈Y0.Tr,t.length≤1073741824) (hp3:OkE Y0.Pq.length Y0.Tr)  : Fn prog 67 [.ref (Gm.c Y0) 0, .i .i64 YD, .i .i64 YE] (.own 0) [.vec 2 1 ((Z1S Y0 YD YE).map (cI .i64)) false]:=by
 refine fnS E0Ok Z2 (c:=X0 f67) [] (.own 0) [.vec 2 1 ((Z22 Y0 YD YE).map (cI .i64)) false] func67 (sL (mR false [0,3,3,3,35]) 1 (XU (st2:=⟨.ref (Gm.c Y0) 0 :: .i .i64 YD :: .i .i64 YE :: .any :: .any :: .any :: .nils :: .own 0 :: .i .i64 0 :: an 35 [],[.vec 2 1 ([]:List (List AV)) false]⟩) (X6 (Z36 Y0 YD YE) (x:=(Z22 Y0 YD YE)) (Z55 Y0 YD YE hp0 hp1 hp2 hp3 (((Y0.Tr.length:Int) - 0).toNat + 1) 0 ([]:List Int) (show 0≤0 from (by omega)) (show (([]:List Int).length:Int)≤0 from (by simp)) (Nat.lt_succ_self _)) rfl) (by simp [Z37,cI]))<|sK [0] sN) rfl (by kernel_rfl) (by kernel_rfl) rfl ?_ ?_
 · rfl
 · simp [Z1S]
def Zc (Y0:Gm):Nat→Int→Int→(List (List Int))→(List (List Int))
  | 0,_,_,_=>default
  | k + 1,Y2,YF,Yd=>(cond (decide (Y2 < ((Z3 Y0).length:Int)))
    (cond (((Z1S Y0 (((Z3 Y0).getD Y2.toNat default).getD 0 default) (((Z3 Y0).getD Y2.toNat default).getD 1 default)).length:Int) == 1)
      (Zc Y0 k (Y2 + 1) (Y2 + 1) (Yd ++ [((Z3 Y0).getD Y2.toNat default)]))
      (Zc Y0 k (Y2 + 1) YF Yd))
    Yd)
def Z2B (Y0:Gm) (r:(List (List Int))):Ex × St:=((.exit 0),⟨.agg [.sl (Y0.Pq.map Gv.c), .sl (Y0.Tr.map (cL (cI .i64)))] :: .ptr 0 0 0 :: .nils :: .b false :: .any :: .own 1 :: .any :: .b (Zl Y0) :: .b (!(Zl Y0)) :: an 31 [],[.box 35 [.sl (Y0.Pq.map Gv.c), .sl (Y0.Tr.map (cL (cI .i64)))], .nest 79 (r.map fun l=>l.map (cI .i64)) false]⟩)
def Z3p (Y0:Gm) (Y2:Int) (YF:Int) (Yd:(List (List Int))):St:=⟨.agg [.sl (Y0.Pq.map Gv.c), .sl (Y0.Tr.map (cL (cI .i64)))] :: .ptr 0 0 0 :: .nils :: .b false :: .own 1 :: .own 2 :: .i .i64 Y2 :: .b (Zl Y0) :: .b (!(Zl Y0)) :: .own 1 :: an 30 [],[.box 35 [.sl (Y0.Pq.map Gv.c), .sl (Y0.Tr.map (cL (cI .i64)))], .nestD 79 ((Z3 Y0).map fun l=>l.map (cI .i64)) (Int.toNat YF), .nest 79 (Yd.map fun l=>l.map (cI .i64)) false]⟩
set_option maxHeartbeats 1000000 in
theorem Z4w (Y0:Gm) (hp0:Y0.Pq.length≤1073741824) (hp1:Y0.Tr.length≤1073741824) (hp2:∀ t∈Y0.Tr,t.length≤1073741824) (Z1j:(Zl Y0)=true):∀ (k:Nat) (Y2:Int) (YF:Int) (Yd:(List (List Int))) (Z12:0≤Y2) (Z38:(Yd.length:Int)≤Y2) (Z39:YF≤Y2) (hk:(((Z3 Y0).length:Int) - Y2).toNat < k),Lp prog 0 (sub (X0 f21) [1,1,1,1,0,1,0,0]) (Z3p Y0 Y2 YF Yd) (Z2B Y0 (Zc Y0 k Y2 YF Yd)).1 (Z2B Y0 (Zc Y0 k Y2 YF Yd)).2:=by
 intro k
 induction k with
 | zero=>intro Y2 YF Yd Z12 Z38 Z39 hk;exact absurd hk (Nat.not_lt_zero _)
 | succ k ih =>
  intro Y2 YF Yd Z12 Z38 Z39 hk
  have p {a C} (s:Scr a C):=sM (X6d (l:=(Z3 Y0)) (f:=fun l=>l.map (cI .i64)))<|s
  cases Yh:(decide (Y2 < ((Z3 Y0).length:Int))) with
  | true =>
   have Yq:=odt Yh
   have Yu:(0:Int)≤Y2:=by clear p;exact (by assumption)
   have Ys:Int.toNat Y2 < (Z3 Y0).length:=by clear p;exact (by omega)
   have Yw:Y2.toNat < (Z3 Y0).length:=by clear p;exact (by assumption)
   have Yv:Int.toNat YF≤Y2.toNat:=by clear p;exact (by omega)
   have Yz:(0:Int)≤0:=by clear p;exact (by omega)
   have YI:0 < (((Z3 Y0).getD Y2.toNat default).length:Int):=by clear p;exact (by ((have q:=Z2j Y0 (Z1R Y0 Z1j) Z12 (odt (by assumption));omega)))
   have YV:0 < ((Z3 Y0).getD Y2.toNat default).length:=by clear p;exact (by omega)
   have y_7:(0:Int)≤1:=by clear p;exact (by omega)
   have y_8:1 < (((Z3 Y0).getD Y2.toNat default).length:Int):=by clear p;exact (by ((have q:=Z2j Y0 (Z1R Y0 Z1j) Z12 (odt (by assumption));omega)))
   have y_9:1 < ((Z3 Y0).getD Y2.toNat default).length:=by clear p;exact (by omega)
   have y_10:OkE Y0.Pq.length Y0.Tr:=by clear p;exact (by exact Z1R _ (by assumption))
   have q {a C} (s:Scr a C):=p (sB Yh<|sK [12,12]<|sC (X3c (c:=(cI .i64)) (l:=(Z3 Y0)) (i:=Y2) Yu Ys)<|sC (X3b (c:=(cI .i64)) (l:=(Z3 Y0)) Yw)<|sC Yv<|sC (X6f (c:=(cI .i64)) (l:=(Z3 Y0)) (j:=Y2.toNat) (i:=0) Yz YI)<|sC Yv<|sE (X6e (c:=(cI .i64)) (l:=(Z3 Y0)) (j:=Y2.toNat) (k:=0) YV)<|sC Yv<|sC (X3c (c:=(cI .i64)) (l:=(Z3 Y0)) (i:=Y2) Yu Ys)<|sC (X3b (c:=(cI .i64)) (l:=(Z3 Y0)) Yw)<|sC Yv<|sC (X6f (c:=(cI .i64)) (l:=(Z3 Y0)) (j:=Y2.toNat) (i:=1) y_7 y_8)<|sC Yv<|sE (X6e (c:=(cI .i64)) (l:=(Z3 Y0)) (j:=Y2.toNat) (k:=1) y_9)<|sC Yv<|sF (Z5u Y0 (((Z3 Y0).getD Y2.toNat default).getD 0 default) (((Z3 Y0).getD Y2.toNat default).getD 1 default) hp0 hp1 hp2 y_10)<|sZ (cI .i64) (Z1S Y0 (((Z3 Y0).getD Y2.toNat default).getD 0 default) (((Z3 Y0).getD Y2.toNat default).getD 1 default))<|s)
   clear p
   cases Yl:(((Z1S Y0 (((Z3 Y0).getD Y2.toNat default).getD 0 default) (((Z3 Y0).getD Y2.toNat default).getD 1 default)).length:Int) == 1) with
   | true =>
    have YG:=eq_of_beq Yl
    have Y10:Y2.toNat < Int.toNat (Y2 + 1):=by clear q;exact (by omega)
    have Y11:Yd.length + [((Z3 Y0).getD Y2.toNat default)].length≤1073741824:=by clear q;exact (by ((have q:=Z2j Y0 (Z1R Y0 Z1j) Z12 (odt (by assumption));(simp only [List.length_append,List.length_cons,List.length_nil];omega))))
    have y_13:(-9223372036854775808:Int)≤(Y2 + 1):=by clear q;exact (by omega)
    have y_14:(Y2 + 1)≤(9223372036854775807:Int):=by clear q;exact (by ((have q:=Z2j Y0 (Z1R Y0 Z1j) Z12 (odt (by assumption));omega)))
    have e:Zc Y0 (k + 1) Y2 YF Yd=(Zc Y0 k (Y2 + 1) (Y2 + 1) (Yd ++ [((Z3 Y0).getD Y2.toNat default)])):=by simp only [Zc,Yh,Yl,cond_true]
    rw [e]
    exact XP E0Ok Z2 [] (mR false [0,10,30]) [0,1,2] (⟨.agg [.sl (Y0.Pq.map Gv.c), .sl (Y0.Tr.map (cL (cI .i64)))] :: .ptr 0 0 0 :: .nils :: .b false :: .own 1 :: .own 2 :: .i .i64 (Y2 + 1) :: .b (Zl Y0) :: .b (!(Zl Y0)) :: .own 1 :: an 30 [],[.box 35 [.sl (Y0.Pq.map Gv.c), .sl (Y0.Tr.map (cL (cI .i64)))], .nestD 79 ((Z3 Y0).map fun l=>l.map (cI .i64)) (Int.toNat (Y2 + 1)), .nest 79 ((Yd.map fun l=>l.map (cI .i64)) ++ [(((Z3 Y0).map fun l=>l.map (cI .i64)).getD Y2.toNat [])]) false]⟩) (q (sB Yl<|sC (X3c (c:=(cI .i64)) (l:=(Z3 Y0)) (i:=Y2) Yu Ys)<|sC (X3b (c:=(cI .i64)) (l:=(Z3 Y0)) Yw)<|sC Yv<|sA (.loop [] (Int.toNat (Y2 + 1)) .ret ⟨[],[]⟩)<|sC (X3b (c:=(cI .i64)) (l:=(Z3 Y0)) Yw)<|sC Yv<|sC Y10<|sC (show (Yd.map fun l=>l.map (cI .i64)).length + [(((Z3 Y0).map fun l=>l.map (cI .i64)).getD Y2.toNat [])].length≤1073741824 from (by simpa using Y11))<|sI (Y2 + 1) y_13 y_14<|sN)) (by kernel_rfl) (show _=⟨.agg [.sl (Y0.Pq.map Gv.c), .sl (Y0.Tr.map (cL (cI .i64)))] :: .ptr 0 0 0 :: .nils :: .b false :: .own 1 :: .own 2 :: .i .i64 (Y2 + 1) :: .b (Zl Y0) :: .b (!(Zl Y0)) :: .own 1 :: an 30 [],[.box 35 [.sl (Y0.Pq.map Gv.c), .sl (Y0.Tr.map (cL (cI .i64)))], .nestD 79 ((Z3 Y0).map fun l=>l.map (cI .i64)) (Int.toNat (Y2 + 1)), .nest 79 ((Yd ++ [((Z3 Y0).getD Y2.toNat default)]).map fun l=>l.map (cI .i64)) false]⟩ from (by simp only [List.map_append,List.map_cons,List.map_nil,nest_getD])) (ih (Y2 + 1) (Y2 + 1) (Yd ++ [((Z3 Y0).getD Y2.toNat default)]) (show 0≤(Y2 + 1) from (by omega)) (show ((Yd ++ [((Z3 Y0).getD Y2.toNat default)]).length:Int)≤(Y2 + 1) from (by ((have q:=Z2j Y0 (Z1R Y0 Z1j) Z12 (odt (by assumption));(simp only [List.length_append,List.length_cons,List.length_nil];omega))))) (show (Y2 + 1)≤(Y2 + 1) from (by omega)) (by omega))
   | false =>
    have YG:=ne_of_beq_false Yl
    have Y10:(-9223372036854775808:Int)≤(Y2 + 1):=by clear q;exact (by omega)
    have Y11:(Y2 + 1)≤(9223372036854775807:Int):=by clear q;exact (by ((have q:=Z2j Y0 (Z1R Y0 Z1j) Z12 (odt (by assumption));omega)))
    have e:Zc Y0 (k + 1) Y2 YF Yd=(Zc Y0 k (Y2 + 1) YF Yd):=by simp only [Zc,Yh,Yl,cond_true,cond_false]
    rw [e]
    exact Xw E0Ok Z2 [] (mR false [0,10,30]) [0,1,2] (ih (Y2 + 1) YF Yd (show 0≤(Y2 + 1) from (by omega)) (show (Yd.length:Int)≤(Y2 + 1) from (by omega)) (show YF≤(Y2 + 1) from (by omega)) (by omega)) (q (sB Yl<|sI (Y2 + 1) Y10 Y11<|sN)) (by kernel_rfl)
  | false =>
   have Yq:=odf Yh
   have e:Zc Y0 (k + 1) Y2 YF Yd=Yd:=by simp only [Zc,Yh,cond_false]
   rw [e]
   exact outR (e:=(.exit 0)) E0Ok Z2 [] (mR false [0,4,1,1,1,2,31]) [0,2] (p (sB Yh<|sN)) (by kernel_rfl) (by intro h;cases h)
def Z1v (Y0:Gm):(List (List Int)):=(Zc Y0 ((((Z3 Y0).length:Int) - 0).toNat + 1) 0 0 ([]:List (List Int)))
def Ze (Y0:Gm):(List (List Int)) × Bool:=(cond (Zl Y0)
  ((Z1v Y0),true)
  (([]:List (List Int)),false))
theorem Z64 (m:Gm):∀ (k:Nat) (i d d':Int) (r:List (List Int)),Zc m k i d r=Zc m k i d' r:=by
  intro k
  induction k with
  | zero=>intro i d d' r;rfl
  | succ k ih =>
    intro i d d' r
    rw [Zc,Zc,ih (i + 1) d d' r]
theorem Z3M (m:Gm) (ok:OkE m.Pq.length m.Tr):Z1v m=(brL m.Pq.length m.Tr).map e2:=by
  unfold Z1v
  have q:=X3Z (a:=Z3 m) (p:=fun t=>decide ((idxP m.Tr (t.getD 0 default) (t.getD 1 default)).length=1)) (f:=fun t=>t) (lo:=fun k i r=>Zc m k i 0 r) (fun k i r h0 hi=>by
    show Zc m (k + 1) i 0 r=_
    rw [Zc,decide_eq_true hi,cond_true,Z5T,Z64 m k (i + 1) (i + 1) 0]
    have hc:((((idxP m.Tr (((Z3 m).getD i.toNat default).getD 0 default) (((Z3 m).getD i.toNat default).getD 1 default)).length:Nat):Int) == 1)=decide ((idxP m.Tr (((Z3 m).getD i.toNat default).getD 0 default) (((Z3 m).getD i.toNat default).getD 1 default)).length=1):=by
      rw [Bool.eq_iff_iff,beq_iff_eq,decide_eq_true_iff];omega
    rw [hc]) (fun k i r hi=>by
    show Zc m (k + 1) i 0 r=_
    rw [Zc,decide_eq_false (by omega),cond_false])
  refine q.trans ?_
  rw [List.map_id',Z3Y m ok,List.filter_map]
  rfl
theorem Z3N (m:Gm):(Ze m).1.length≤4096:=by
  unfold Ze
  cases h:Zl m with
  | false=>exact Nat.zero_le _
  | true=>rw [cond_true,Z3M m (Z1R m h),List.length_map];exact X6m (Z1R m h)
theorem Z3q (m:Gm):∀ t∈(Ze m).1,t.length≤2:=by
  unfold Ze
  cases h:Zl m with
  | false=>intro t ht;cases ht
  | true =>
    rw [cond_true,Z3M m (Z1R m h)]
    intro t ht
    rw [List.mem_map] at ht
    obtain ⟨e,-,rfl⟩:=ht
    exact Nat.le_refl _
theorem Z56 (Y0:Gm) (hp0:Y0.Pq.length≤1073741824) (hp1:Y0.Tr.length≤1073741824) (hp2:∀ t∈Y0.Tr,t.length≤1073741824)  : Fn prog 21 [.agg [.sl (Y0.Pq.map Gv.c), .sl (Y0.Tr.map (cL (cI .i64)))]] (.tup [.own 0, .b ((Ze Y0).2)]) [.nest 79 (((Ze Y0).1).map fun l=>l.map (cI .i64)) false]:=by
 have p {a C} (s:Scr a C):=sF (Z5s Y0 hp0 hp1 hp2)<|s
 cases h0:(Zl Y0) with
 | true =>
  have y0:OkE Y0.Pq.length Y0.Tr:=by clear p;exact (by exact Z1R _ (by assumption))
  refine fnS E0Ok Z2 (c:=X0 f21) [] (.tup [.own 0, .b true]) [.nest 79 ((Z1v Y0).map fun l=>l.map (cI .i64)) false] func21 (p (sB' h0<|sF (Z54 Y0 hp0 hp1 hp2 y0)<|sL (mR false [0,10,30]) 3 (Lp.nil (st:=⟨.agg [.sl (Y0.Pq.map Gv.c), .sl (Y0.Tr.map (cL (cI .i64)))] :: .ptr 0 0 0 :: .nils :: .b false :: .own 1 :: .own 2 :: .i .i64 0 :: .b (Zl Y0) :: .b (!(Zl Y0)) :: .own 1 :: an 30 [],[.box 35 [.sl (Y0.Pq.map Gv.c), .sl (Y0.Tr.map (cL (cI .i64)))], .nest 79 ((Z3 Y0).map fun l=>l.map (cI .i64)) false, .nest 79 [] false]⟩) (st2:=⟨.agg [.sl (Y0.Pq.map Gv.c), .sl (Y0.Tr.map (cL (cI .i64)))] :: .ptr 0 0 0 :: .nils :: .b false :: .own 1 :: .own 2 :: .i .i64 0 :: .b (Zl Y0) :: .b (!(Zl Y0)) :: .own 1 :: an 30 [],[.box 35 [.sl (Y0.Pq.map Gv.c), .sl (Y0.Tr.map (cL (cI .i64)))], .nestD 79 ((Z3 Y0).map fun l=>l.map (cI .i64)) (Int.toNat 0), .nest 79 [] false]⟩) (ps:=[(.dn 1, .dead)]) rfl (XU (st2:=⟨.agg [.sl (Y0.Pq.map Gv.c), .sl (Y0.Tr.map (cL (cI .i64)))] :: .ptr 0 0 0 :: .nils :: .b false :: .own 1 :: .own 2 :: .i .i64 0 :: .b (Zl Y0) :: .b (!(Zl Y0)) :: .own 1 :: an 30 [],[.box 35 [.sl (Y0.Pq.map Gv.c), .sl (Y0.Tr.map (cL (cI .i64)))], .nestD 79 ((Z3 Y0).map fun l=>l.map (cI .i64)) (Int.toNat 0), .nest 79 [] false]⟩) (X6 (Z2B Y0) (x:=(Z1v Y0)) (Z4w Y0 hp0 hp1 hp2 h0 ((((Z3 Y0).length:Int) - 0).toNat + 1) 0 0 ([]:List (List Int)) (show 0≤0 from (by omega)) (show (([]:List (List Int)).length:Int)≤0 from (by simp)) (show 0≤0 from (by omega)) (Nat.lt_succ_self _)) rfl) (by simp [Z3p,cL,cI])))<|sK [1] sN)) rfl (by kernel_rfl) (by kernel_rfl) rfl ?_ ?_
  · simp only [Ze,h0,cond_true]
  · simp [Ze,h0]
 | false =>
  refine fnS E0Ok Z2 (c:=X0 f21) [(.tm 2, .nest 79 [] false)] (.tup [.own 0, .b false]) [.nest 79 [] false] func21 (p (sB' h0<|sK [1] sN)) rfl (by kernel_rfl) (by kernel_rfl) rfl ?_ ?_
  · simp only [Ze,h0,cond_false]
  · simp [Ze,h0,cL,cI]
def Z1i (YO:Int) (YC:Int) (Yy:Int):Bool:=(cond (decide (YO ≥ YC))
  (decide (YO≤Yy))
  false)
theorem Z5m (YO:Int) (YC:Int) (Yy:Int)   : Fn prog 75 [.i .i64 YO, .i .i64 YC, .i .i64 Yy] (.b (Z1i YO YC Yy)) []:=by
 cases h0:(decide (YO ≥ YC)) with
 | true =>
  have gh0:=odt h0
  refine fnS E0Ok Z2 (c:=X0 f75) [] (.b (decide (YO≤Yy))) [] func75 (sB h0<|sB h0<|sB h0<|sB h0<|sK [] sN) rfl (by kernel_rfl) (by kernel_rfl) rfl ?_ ?_
  · simp only [Z1i,h0,cond_true]
  · rfl
 | false =>
  have gh0:=odf h0
  refine fnS E0Ok Z2 (c:=X0 f75) [] (.b false) [] func75 (sB h0<|sB h0<|sB h0<|sB h0<|sK [] sN) rfl (by kernel_rfl) (by kernel_rfl) rfl ?_ ?_
  · simp only [Z1i,h0,cond_false]
  · rfl
def ZF (Y0:Gm) (Y1:Int):Nat→Int→(Unit) ⊕ (Unit)
  | 0,_ => .inl default
  | k + 1,Y5=>(cond (decide (Y5 < ((Y0.Tr.getD Y1.toNat default).length:Int)))
    (cond (Z1i ((Y0.Tr.getD Y1.toNat default).getD Y5.toNat default) 0 (IntKind.wrap .i64 ((Y0.Pq.length:Int) - 1)))
      (ZF Y0 Y1 k (Y5 + 1))
      (.inl ()))
    (.inr ()))
def Z1V (Y0:Gm) (Y1:Int):(Unit) ⊕ (Unit)→Ex × St
  | .inl r=>(.ret,⟨.any :: .any :: .b false :: an 66 [],[]⟩)
  | .inr r=>((.exit 2),⟨.agg [.sl (Y0.Pq.map Gv.c), .sl (Y0.Tr.map (cL (cI .i64)))] :: .ptr 0 0 0 :: .any :: .i .i64 (Y0.Pq.length:Int) :: .any :: .sl ((Y0.Tr.getD Y1.toNat default).map (cI .i64)) :: .any :: .any :: .ptr 0 0 0 :: .sl (Y0.Pq.map Gv.c) :: .i .i64 (Y0.Pq.length:Int) :: .i .i64 (Y0.Pq.length:Int) :: .b (decide ((Y0.Pq.length:Int) > 64)) :: .b (decide ((Y0.Pq.length:Int) > 64)) :: .ptr 0 0 1 :: .sl (Y0.Tr.map (cL (cI .i64))) :: .i .i64 (Y0.Tr.length:Int) :: .b (decide ((Y0.Tr.length:Int) > 128)) :: .b (decide ((Y0.Tr.length:Int) > 128)) :: .ptr 0 0 1 :: .sl (Y0.Tr.map (cL (cI .i64))) :: .i .i64 (Y0.Tr.length:Int) :: .i .i64 Y1 :: .b (decide (Y1 < (Y0.Tr.length:Int))) :: .ref [.sl ((Y0.Tr.getD Y1.toNat default).map (cI .i64))] 0 :: .sl ((Y0.Tr.getD Y1.toNat default).map (cI .i64)) :: .sl ((Y0.Tr.getD Y1.toNat default).map (cI .i64)) :: .i .i64 ((Y0.Tr.getD Y1.toNat default).length:Int) :: .b (((Y0.Tr.getD Y1.toNat default).length:Int) != 3) :: .b (((Y0.Tr.getD Y1.toNat default).length:Int) != 3) :: .sl ((Y0.Tr.getD Y1.toNat default).map (cI .i64)) :: .ref [.i .i64 ((Y0.Tr.getD Y1.toNat default).getD 0 default)] 0 :: .i .i64 ((Y0.Tr.getD Y1.toNat default).getD 0 default) :: .sl ((Y0.Tr.getD Y1.toNat default).map (cI .i64)) :: .ref [.i .i64 ((Y0.Tr.getD Y1.toNat default).getD 1 default)] 0 :: .i .i64 ((Y0.Tr.getD Y1.toNat default).getD 1 default) :: .b (((Y0.Tr.getD Y1.toNat default).getD 0 default) == ((Y0.Tr.getD Y1.toNat default).getD 1 default)) :: .b (((Y0.Tr.getD Y1.toNat default).getD 0 default) == ((Y0.Tr.getD Y1.toNat default).getD 1 default)) :: .b (((Y0.Tr.getD Y1.toNat default).getD 0 default) == ((Y0.Tr.getD Y1.toNat default).getD 1 default)) :: .sl ((Y0.Tr.getD Y1.toNat default).map (cI .i64)) :: .ref [.i .i64 ((Y0.Tr.getD Y1.toNat default).getD 1 default)] 0 :: .i .i64 ((Y0.Tr.getD Y1.toNat default).getD 1 default) :: .sl ((Y0.Tr.getD Y1.toNat default).map (cI .i64)) :: .ref [.i .i64 ((Y0.Tr.getD Y1.toNat default).getD 2 default)] 0 :: .i .i64 ((Y0.Tr.getD Y1.toNat default).getD 2 default) :: .b (((Y0.Tr.getD Y1.toNat default).getD 1 default) == ((Y0.Tr.getD Y1.toNat default).getD 2 default)) :: .b (((Y0.Tr.getD Y1.toNat default).getD 1 default) == ((Y0.Tr.getD Y1.toNat default).getD 2 default)) :: .b (((Y0.Tr.getD Y1.toNat default).getD 1 default) == ((Y0.Tr.getD Y1.toNat default).getD 2 default)) :: .sl ((Y0.Tr.getD Y1.toNat default).map (cI .i64)) :: .ref [.i .i64 ((Y0.Tr.getD Y1.toNat default).getD 0 default)] 0 :: .i .i64 ((Y0.Tr.getD Y1.toNat default).getD 0 default) :: .sl ((Y0.Tr.getD Y1.toNat default).map (cI .i64)) :: .ref [.i .i64 ((Y0.Tr.getD Y1.toNat default).getD 2 default)] 0 :: .i .i64 ((Y0.Tr.getD Y1.toNat default).getD 2 default) :: .b (((Y0.Tr.getD Y1.toNat default).getD 0 default) == ((Y0.Tr.getD Y1.toNat default).getD 2 default)) :: .b (((Y0.Tr.getD Y1.toNat default).getD 0 default) == ((Y0.Tr.getD Y1.toNat default).getD 2 default)) :: .sl ((Y0.Tr.getD Y1.toNat default).map (cI .i64)) :: .i .i64 ((Y0.Tr.getD Y1.toNat default).length:Int) :: an 11 [],[.box 35 [.sl (Y0.Pq.map Gv.c), .sl (Y0.Tr.map (cL (cI .i64)))]]⟩)
def Z4m (Y0:Gm) (Y1:Int) (Y5:Int):St:=⟨.agg [.sl (Y0.Pq.map Gv.c), .sl (Y0.Tr.map (cL (cI .i64)))] :: .ptr 0 0 0 :: .any :: .i .i64 (Y0.Pq.length:Int) :: .any :: .sl ((Y0.Tr.getD Y1.toNat default).map (cI .i64)) :: .any :: .any :: .ptr 0 0 0 :: .sl (Y0.Pq.map Gv.c) :: .i .i64 (Y0.Pq.length:Int) :: .i .i64 (Y0.Pq.length:Int) :: .b (decide ((Y0.Pq.length:Int) > 64)) :: .b (decide ((Y0.Pq.length:Int) > 64)) :: .ptr 0 0 1 :: .sl (Y0.Tr.map (cL (cI .i64))) :: .i .i64 (Y0.Tr.length:Int) :: .b (decide ((Y0.Tr.length:Int) > 128)) :: .b (decide ((Y0.Tr.length:Int) > 128)) :: .ptr 0 0 1 :: .sl (Y0.Tr.map (cL (cI .i64))) :: .i .i64 (Y0.Tr.length:Int) :: .i .i64 Y1 :: .b (decide (Y1 < (Y0.Tr.length:Int))) :: .ref [.sl ((Y0.Tr.getD Y1.toNat default).map (cI .i64))] 0 :: .sl ((Y0.Tr.getD Y1.toNat default).map (cI .i64)) :: .sl ((Y0.Tr.getD Y1.toNat default).map (cI .i64)) :: .i .i64 ((Y0.Tr.getD Y1.toNat default).length:Int) :: .b (((Y0.Tr.getD Y1.toNat default).length:Int) != 3) :: .b (((Y0.Tr.getD Y1.toNat default).length:Int) != 3) :: .sl ((Y0.Tr.getD Y1.toNat default).map (cI .i64)) :: .ref [.i .i64 ((Y0.Tr.getD Y1.toNat default).getD 0 default)] 0 :: .i .i64 ((Y0.Tr.getD Y1.toNat default).getD 0 default) :: .sl ((Y0.Tr.getD Y1.toNat default).map (cI .i64)) :: .ref [.i .i64 ((Y0.Tr.getD Y1.toNat default).getD 1 default)] 0 :: .i .i64 ((Y0.Tr.getD Y1.toNat default).getD 1 default) :: .b (((Y0.Tr.getD Y1.toNat default).getD 0 default) == ((Y0.Tr.getD Y1.toNat default).getD 1 default)) :: .b (((Y0.Tr.getD Y1.toNat default).getD 0 default) == ((Y0.Tr.getD Y1.toNat default).getD 1 default)) :: .b (((Y0.Tr.getD Y1.toNat default).getD 0 default) == ((Y0.Tr.getD Y1.toNat default).getD 1 default)) :: .sl ((Y0.Tr.getD Y1.toNat default).map (cI .i64)) :: .ref [.i .i64 ((Y0.Tr.getD Y1.toNat default).getD 1 default)] 0 :: .i .i64 ((Y0.Tr.getD Y1.toNat default).getD 1 default) :: .sl ((Y0.Tr.getD Y1.toNat default).map (cI .i64)) :: .ref [.i .i64 ((Y0.Tr.getD Y1.toNat default).getD 2 default)] 0 :: .i .i64 ((Y0.Tr.getD Y1.toNat default).getD 2 default) :: .b (((Y0.Tr.getD Y1.toNat default).getD 1 default) == ((Y0.Tr.getD Y1.toNat default).getD 2 default)) :: .b (((Y0.Tr.getD Y1.toNat default).getD 1 default) == ((Y0.Tr.getD Y1.toNat default).getD 2 default)) :: .b (((Y0.Tr.getD Y1.toNat default).getD 1 default) == ((Y0.Tr.getD Y1.toNat default).getD 2 default)) :: .sl ((Y0.Tr.getD Y1.toNat default).map (cI .i64)) :: .ref [.i .i64 ((Y0.Tr.getD Y1.toNat default).getD 0 default)] 0 :: .i .i64 ((Y0.Tr.getD Y1.toNat default).getD 0 default) :: .sl ((Y0.Tr.getD Y1.toNat default).map (cI .i64)) :: .ref [.i .i64 ((Y0.Tr.getD Y1.toNat default).getD 2 default)] 0 :: .i .i64 ((Y0.Tr.getD Y1.toNat default).getD 2 default) :: .b (((Y0.Tr.getD Y1.toNat default).getD 0 default) == ((Y0.Tr.getD Y1.toNat default).getD 2 default)) :: .b (((Y0.Tr.getD Y1.toNat default).getD 0 default) == ((Y0.Tr.getD Y1.toNat default).getD 2 default)) :: .sl ((Y0.Tr.getD Y1.toNat default).map (cI .i64)) :: .i .i64 ((Y0.Tr.getD Y1.toNat default).length:Int) :: .i .i64 Y5 :: an 10 [],[.box 35 [.sl (Y0.Pq.map Gv.c), .sl (Y0.Tr.map (cL (cI .i64)))]]⟩
def Z23:List Bool:=(mR false [0,2,1,1,1,1,2,51,10])
def Z45:List Bool:=(mR false [0,2,1,1,1,1,2,50,11])
theorem Z3e (Y0:Gm) (Y1:Int) (hp0:Y0.Pq.length≤1073741824) (hp1:Y0.Tr.length≤1073741824) (hp2:∀ t∈Y0.Tr,t.length≤1073741824) (Z1p:(decide ((Y0.Pq.length:Int) > 64))=false) (Z1q:(decide ((Y0.Tr.length:Int) > 128))=false) (Z1r:0≤Y1) (Z5A:(((Y0.Tr.getD Y1.toNat default).length:Int) != 3)=false) (Z5B:(decide ((Y0.Pq.length:Int) > 64))=false) (Z5C:(decide ((Y0.Tr.length:Int) > 128))=false) (Z5D:(decide (Y1 < (Y0.Tr.length:Int)))=true):∀ (k:Nat) (Y5:Int) (Z2V:0≤Y5) (hk:(((Y0.Tr.getD Y1.toNat default).length:Int) - Y5).toNat < k),Lp prog 0 (sub (X0 f68) [1,1,1,0,1,0,0,1,1,0,0,1,1,1,0,0]) (Z4m Y0 Y1 Y5) (Z1V Y0 Y1 (ZF Y0 Y1 k Y5)).1 (Z1V Y0 Y1 (ZF Y0 Y1 k Y5)).2:=by
 intro k
 induction k with
 | zero=>intro Y5 Z2V hk;exact absurd hk (Nat.not_lt_zero _)
 | succ k ih =>
  intro Y5 Z2V hk
  cases Yr:(decide (Y5 < ((Y0.Tr.getD Y1.toNat default).length:Int))) with
  | true =>
   have YJ:=odt Yr
   have YQ:(0:Int)≤Y5:=(by assumption)
   have YR:Y5 < ((Y0.Tr.getD Y1.toNat default).length:Int):=(by assumption)
   have p {a C} (s:Scr a C):=sB Yr<|sG (cI .i64) (Y0.Tr.getD Y1.toNat default) Y5 YQ YR<|sW .i64 ((Y0.Pq.length:Int) - 1)<|sF (Z5m ((Y0.Tr.getD Y1.toNat default).getD Y5.toNat default) 0 (IntKind.wrap .i64 ((Y0.Pq.length:Int) - 1)))<|s
   cases YA:(Z1i ((Y0.Tr.getD Y1.toNat default).getD Y5.toNat default) 0 (IntKind.wrap .i64 ((Y0.Pq.length:Int) - 1))) with
   | true =>
    have YK:(-9223372036854775808:Int)≤(Y5 + 1):=by clear p;exact (by omega)
    have YH:(Y5 + 1)≤(9223372036854775807:Int):=by clear p;exact (by simp_all<;>omega)
    have e:ZF Y0 Y1 (k + 1) Y5=(ZF Y0 Y1 k (Y5 + 1)):=by simp only [ZF,Yr,YA,cond_true]
    rw [e]
    exact Xw E0Ok Z2 [] Z23 [0] (ih (Y5 + 1) (show 0≤(Y5 + 1) from (by omega)) (by omega)) (p (sB' YA<|sI (Y5 + 1) YK YH<|sN)) (by kernel_rfl)
   | false =>
    have e:ZF Y0 Y1 (k + 1) Y5=(.inl ()):=by simp only [ZF,Yr,YA,cond_true,cond_false]
    rw [e]
    exact outR (e := .ret) E0Ok Z2 [] (mR false [2,1,66]) [] (p (sB' YA<|sN)) (by kernel_rfl) (by intro h;cases h)
  | false =>
   have YJ:=odf Yr
   have e:ZF Y0 Y1 (k + 1) Y5=(.inr ()):=by simp only [ZF,Yr,cond_false]
   rw [e]
   exact outR (e:=(.exit 2)) E0Ok Z2 [] Z45 [0] (sB Yr<|sN) (by kernel_rfl) (by intro h;cases h)
def Z1g (Y0:Gm) (Y1:Int):(Unit) ⊕ (Unit):=(ZF Y0 Y1 ((((Y0.Tr.getD Y1.toNat default).length:Int) - 0).toNat + 1) 0)
def Z9 (Y0:Gm):Nat→Int→(Unit) ⊕ (Unit)
  | 0,_ => .inl default
  | k + 1,Y1=>(cond (decide (Y1 < (Y0.Tr.length:Int)))
    (cond (((Y0.Tr.getD Y1.toNat default).length:Int) != 3)
      (.inl ())
      (cond (((Y0.Tr.getD Y1.toNat default).getD 0 default) == ((Y0.Tr.getD Y1.toNat default).getD 1 default))
        (.inl ())
        (cond (((Y0.Tr.getD Y1.toNat default).getD 1 default) == ((Y0.Tr.getD Y1.toNat default).getD 2 default))
          (.inl ())
          (cond (((Y0.Tr.getD Y1.toNat default).getD 0 default) == ((Y0.Tr.getD Y1.toNat default).getD 2 default))
            (.inl ())
            (match (Z1g Y0 Y1) with
              | .inl r_6=>(.inl ())
              | .inr r_6=>(Z9 Y0 k (Y1 + 1)))))))
    (.inr ()))
def Z1W (Y0:Gm):(Unit) ⊕ (Unit)→Ex × St
  | .inl r=>(.ret,⟨.any :: .any :: .b false :: an 66 [],[]⟩)
  | .inr r=>((.exit 0),⟨.agg [.sl (Y0.Pq.map Gv.c), .sl (Y0.Tr.map (cL (cI .i64)))] :: .ptr 0 0 0 :: .any :: .i .i64 (Y0.Pq.length:Int) :: an 4 (.ptr 0 0 0 :: .sl (Y0.Pq.map Gv.c) :: .i .i64 (Y0.Pq.length:Int) :: .i .i64 (Y0.Pq.length:Int) :: .b (decide ((Y0.Pq.length:Int) > 64)) :: .b (decide ((Y0.Pq.length:Int) > 64)) :: .ptr 0 0 1 :: .sl (Y0.Tr.map (cL (cI .i64))) :: .i .i64 (Y0.Tr.length:Int) :: .b (decide ((Y0.Tr.length:Int) > 128)) :: .b (decide ((Y0.Tr.length:Int) > 128)) :: .ptr 0 0 1 :: .sl (Y0.Tr.map (cL (cI .i64))) :: an 48 []),[.box 35 [.sl (Y0.Pq.map Gv.c), .sl (Y0.Tr.map (cL (cI .i64)))]]⟩)
def Z4n (Y0:Gm) (Y1:Int):St:=⟨.agg [.sl (Y0.Pq.map Gv.c), .sl (Y0.Tr.map (cL (cI .i64)))] :: .ptr 0 0 0 :: .any :: .i .i64 (Y0.Pq.length:Int) :: an 4 (.ptr 0 0 0 :: .sl (Y0.Pq.map Gv.c) :: .i .i64 (Y0.Pq.length:Int) :: .i .i64 (Y0.Pq.length:Int) :: .b (decide ((Y0.Pq.length:Int) > 64)) :: .b (decide ((Y0.Pq.length:Int) > 64)) :: .ptr 0 0 1 :: .sl (Y0.Tr.map (cL (cI .i64))) :: .i .i64 (Y0.Tr.length:Int) :: .b (decide ((Y0.Tr.length:Int) > 128)) :: .b (decide ((Y0.Tr.length:Int) > 128)) :: .ptr 0 0 1 :: .sl (Y0.Tr.map (cL (cI .i64))) :: .i .i64 (Y0.Tr.length:Int) :: .i .i64 Y1 :: an 46 []),[.box 35 [.sl (Y0.Pq.map Gv.c), .sl (Y0.Tr.map (cL (cI .i64)))]]⟩
theorem Z3f (Y0:Gm) (hp0:Y0.Pq.length≤1073741824) (hp1:Y0.Tr.length≤1073741824) (hp2:∀ t∈Y0.Tr,t.length≤1073741824) (Z1p:(decide ((Y0.Pq.length:Int) > 64))=false) (Z1q:(decide ((Y0.Tr.length:Int) > 128))=false):∀ (k:Nat) (Y1:Int) (Z1r:0≤Y1) (hk:((Y0.Tr.length:Int) - Y1).toNat < k),Lp prog 0 (sub (X0 f68) [1,1,1,0,1,0,0]) (Z4n Y0 Y1) (Z1W Y0 (Z9 Y0 k Y1)).1 (Z1W Y0 (Z9 Y0 k Y1)).2:=by
 intro k
 induction k with
 | zero=>intro Y1 Z1r hk;exact absurd hk (Nat.not_lt_zero _)
 | succ k ih =>
  intro Y1 Z1r hk
  cases Yh:(decide (Y1 < (Y0.Tr.length:Int))) with
  | true =>
   have Yq:=odt Yh
   have Yu:(0:Int)≤Y1:=(by assumption)
   have Ys:Y1 < (Y0.Tr.length:Int):=(by assumption)
   have p {a C} (s:Scr a C):=sB Yh<|sG (cL (cI .i64)) Y0.Tr Y1 Yu Ys<|sK [28,28]<|sZ (cI .i64) (Y0.Tr.getD Y1.toNat default)<|s
   cases Yl:(((Y0.Tr.getD Y1.toNat default).length:Int) != 3) with
   | true =>
    have YG:=bne_iff_ne.1 Yl
    have e:Z9 Y0 (k + 1) Y1=(.inl ()):=by simp only [Z9,Yh,Yl,cond_true]
    rw [e]
    exact outR (e := .ret) E0Ok Z2 [] (mR false [2,1,66]) [] (p (sB Yl<|sB Yl<|sB Yl<|sB Yl<|sB Yl<|sB Yl<|sB Yl<|sB Yl<|sB (show true=true from rfl)<|sB (show true=true from rfl)<|sB (show true=true from rfl)<|sB (show true=true from rfl)<|sB (show true=true from rfl)<|sB (show true=true from rfl)<|sB (show true=true from rfl)<|sB (show true=true from rfl)<|sB (show true=true from rfl)<|sB (show true=true from rfl)<|sB (show true=true from rfl)<|sB (show true=true from rfl)<|sB (show true=true from rfl)<|sB (show true=true from rfl)<|sB (show true=true from rfl)<|sB (show true=true from rfl)<|sB (show true=true from rfl)<|sN)) (by kernel_rfl) (by intro h;cases h)
   | false =>
    have YG:=bne_eq_false_iff_eq.1 Yl
    have Yw:(0:Int)≤0:=by clear p;exact (by omega)
    have Yv:0 < ((Y0.Tr.getD Y1.toNat default).length:Int):=by clear p;exact (by omega)
    have Yz:(0:Int)≤1:=by clear p;exact (by omega)
    have YI:1 < ((Y0.Tr.getD Y1.toNat default).length:Int):=by clear p;exact (by omega)
    have q {a C} (s:Scr a C):=p (sB Yl<|sB Yl<|sG (cI .i64) (Y0.Tr.getD Y1.toNat default) 0 Yw Yv<|sB Yl<|sB Yl<|sB Yl<|sG (cI .i64) (Y0.Tr.getD Y1.toNat default) 1 Yz YI<|sB Yl<|sB Yl<|sB Yl<|s)
    clear p
    cases YB:(((Y0.Tr.getD Y1.toNat default).getD 0 default) == ((Y0.Tr.getD Y1.toNat default).getD 1 default)) with
    | true =>
     have YX:=eq_of_beq YB
     have e:Z9 Y0 (k + 1) Y1=(.inl ()):=by simp only [Z9,Yh,Yl,YB,cond_true,cond_false]
     rw [e]
     exact outR (e := .ret) E0Ok Z2 [] (mR false [2,1,66]) [] (q (sB YB<|sB YB<|sB YB<|sB YB<|sB YB<|sB YB<|sB YB<|sB YB<|sB (show true=true from rfl)<|sB (show true=true from rfl)<|sB (show true=true from rfl)<|sB (show true=true from rfl)<|sB (show true=true from rfl)<|sB (show true=true from rfl)<|sB (show true=true from rfl)<|sB (show true=true from rfl)<|sB (show true=true from rfl)<|sN)) (by kernel_rfl) (by intro h;cases h)
    | false =>
     have YX:=ne_of_beq_false YB
     have YV:(0:Int)≤2:=by clear q;exact (by omega)
     have y_7:2 < ((Y0.Tr.getD Y1.toNat default).length:Int):=by clear q;exact (by omega)
     have p {a C} (s:Scr a C):=q (sB YB<|sB YB<|sG (cI .i64) (Y0.Tr.getD Y1.toNat default) 1 Yz YI<|sB YB<|sB YB<|sB YB<|sG (cI .i64) (Y0.Tr.getD Y1.toNat default) 2 YV y_7<|sB YB<|sB YB<|sB YB<|s)
     clear q
     cases YL:(((Y0.Tr.getD Y1.toNat default).getD 1 default) == ((Y0.Tr.getD Y1.toNat default).getD 2 default)) with
     | true =>
      have gh_3:=eq_of_beq YL
      have e:Z9 Y0 (k + 1) Y1=(.inl ()):=by simp only [Z9,Yh,Yl,YB,YL,cond_true,cond_false]
      rw [e]
      exact outR (e := .ret) E0Ok Z2 [] (mR false [2,1,66]) [] (p (sB YL<|sB YL<|sB YL<|sB YL<|sB YL<|sB YL<|sB YL<|sB YL<|sB (show true=true from rfl)<|sN)) (by kernel_rfl) (by intro h;cases h)
     | false =>
      have gh_3:=ne_of_beq_false YL
      have q {a C} (s:Scr a C):=p (sB YL<|sB YL<|sG (cI .i64) (Y0.Tr.getD Y1.toNat default) 0 Yw Yv<|sB YL<|sB YL<|sB YL<|sG (cI .i64) (Y0.Tr.getD Y1.toNat default) 2 YV y_7<|sB YL<|sB YL<|sB YL<|s)
      clear p
      cases h_4:(((Y0.Tr.getD Y1.toNat default).getD 0 default) == ((Y0.Tr.getD Y1.toNat default).getD 2 default)) with
      | true =>
       have gh_4:=eq_of_beq h_4
       have e:Z9 Y0 (k + 1) Y1=(.inl ()):=by simp only [Z9,Yh,Yl,YB,YL,h_4,cond_true,cond_false]
       rw [e]
       exact outR (e := .ret) E0Ok Z2 [] (mR false [2,1,66]) [] (q (sB h_4<|sN)) (by kernel_rfl) (by intro h;cases h)
      | false =>
       have gh_4:=ne_of_beq_false h_4
       have p {a C} (s:Scr a C):=q (sB h_4<|sZ (cI .i64) (Y0.Tr.getD Y1.toNat default)<|s)
       clear q
       cases h_5:(Z1g Y0 Y1) with
       | inl r_6 =>
        have e:Z9 Y0 (k + 1) Y1=(.inl ()):=by simp only [Z9,Yh,Yl,YB,YL,h_4,h_5,cond_true,cond_false]
        rw [e]
        exact outR (e := .ret) E0Ok Z2 [] (mR false [2,1,66]) [] (p (sL Z23 1 (X6 (Z1V Y0 Y1) (x:=(Z1g Y0 Y1)) (Z3e Y0 Y1 hp0 hp1 hp2 Z1p Z1q Z1r Yl Z1p Z1q Yh ((((Y0.Tr.getD Y1.toNat default).length:Int) - 0).toNat + 1) 0 (show 0≤0 from (by assumption)) (Nat.lt_succ_self _)) h_5)<|sN)) (by kernel_rfl) (by intro h;cases h)
       | inr r_6 =>
        have y_8:(-9223372036854775808:Int)≤(Y1 + 1):=by clear p;exact (by omega)
        have y_9:(Y1 + 1)≤(9223372036854775807:Int):=by clear p;exact (by omega)
        have e:Z9 Y0 (k + 1) Y1=(Z9 Y0 k (Y1 + 1)):=by simp only [Z9,Yh,Yl,YB,YL,h_4,h_5,cond_true,cond_false]
        rw [e]
        exact Xw E0Ok Z2 [] (mR false [0,2,1,1,4,15,46]) [0] (ih (Y1 + 1) (show 0≤(Y1 + 1) from (by omega)) (by omega)) (p (sL Z23 1 (X6 (Z1V Y0 Y1) (x:=(Z1g Y0 Y1)) (Z3e Y0 Y1 hp0 hp1 hp2 Z1p Z1q Z1r Yl Z1p Z1q Yh ((((Y0.Tr.getD Y1.toNat default).length:Int) - 0).toNat + 1) 0 (show 0≤0 from (by assumption)) (Nat.lt_succ_self _)) h_5)<|sI (Y1 + 1) y_8 y_9<|sN)) (by kernel_rfl)
  | false =>
   have Yq:=odf Yh
   have e:Z9 Y0 (k + 1) Y1=(.inr ()):=by simp only [Z9,Yh,cond_false]
   rw [e]
   exact outR (e:=(.exit 0)) E0Ok Z2 [] (mR false [0,2,1,1,4,13,48]) [0] (sB Yh<|sN) (by kernel_rfl) (by intro h;cases h)
def Z1s (Y0:Gm):(Unit) ⊕ (Unit):=(Z9 Y0 (((Y0.Tr.length:Int) - 0).toNat + 1) 0)
def Z1d (Y0:Gm):Bool:=(cond (decide ((Y0.Pq.length:Int) > 64))
  false
  (cond (decide ((Y0.Tr.length:Int) > 128))
    false
    (match (Z1s Y0) with
      | .inl r3=>false
      | .inr r3=>true)))
theorem Z4T (Y0:Gm) (hp0:Y0.Pq.length≤1073741824) (hp1:Y0.Tr.length≤1073741824) (hp2:∀ t∈Y0.Tr,t.length≤1073741824)  : Fn prog 68 [.agg [.sl (Y0.Pq.map Gv.c), .sl (Y0.Tr.map (cL (cI .i64)))]] (.b (Z1d Y0)) []:=by
 have p {a C} (s:Scr a C):=sZ Gv.c Y0.Pq<|s
 cases h0:(decide ((Y0.Pq.length:Int) > 64)) with
 | true =>
  have gh0:=odt h0
  refine fnS E0Ok Z2 (c:=X0 f68) [] (.b false) [] func68 (p (sB h0<|sB h0<|sB h0<|sB h0<|sB h0<|sB (show true=true from rfl)<|sK [] sN)) rfl (by kernel_rfl) (by kernel_rfl) rfl ?_ ?_
  · simp only [Z1d,h0,cond_true]
  · rfl
 | false =>
  have gh0:=odf h0
  have q {a C} (s:Scr a C):=p (sB h0<|sB h0<|sB h0<|sZ (cL (cI .i64)) Y0.Tr<|sB h0<|sB h0<|s)
  clear p
  cases h1:(decide ((Y0.Tr.length:Int) > 128)) with
  | true =>
   have gh1:=odt h1
   refine fnS E0Ok Z2 (c:=X0 f68) [] (.b false) [] func68 (q (sB h1<|sK [] sN)) rfl (by kernel_rfl) (by kernel_rfl) rfl ?_ ?_
   · simp only [Z1d,h0,h1,cond_true,cond_false]
   · rfl
  | false =>
   have gh1:=odf h1
   have p {a C} (s:Scr a C):=q (sB h1<|sZ (cL (cI .i64)) Y0.Tr<|s)
   clear q
   cases h2:(Z1s Y0) with
   | inl r3 =>
    refine fnS E0Ok Z2 (c:=X0 f68) [] (.b false) [] func68 (p (sL (mR false [0,2,1,1,4,15,46]) 1 (X6 (Z1W Y0) (x:=(Z1s Y0)) (Z3f Y0 hp0 hp1 hp2 h0 h1 (((Y0.Tr.length:Int) - 0).toNat + 1) 0 (show 0≤0 from (by omega)) (Nat.lt_succ_self _)) h2)<|sK [] sN)) rfl (by kernel_rfl) (by kernel_rfl) rfl ?_ ?_
    · simp only [Z1d,h0,h1,h2,cond_false]
    · rfl
   | inr r3 =>
    refine fnS E0Ok Z2 (c:=X0 f68) [] (.b true) [] func68 (p (sL (mR false [0,2,1,1,4,15,46]) 1 (X6 (Z1W Y0) (x:=(Z1s Y0)) (Z3f Y0 hp0 hp1 hp2 h0 h1 (((Y0.Tr.length:Int) - 0).toNat + 1) 0 (show 0≤0 from (by omega)) (Nat.lt_succ_self _)) h2)<|sK [] sN)) rfl (by kernel_rfl) (by kernel_rfl) rfl ?_ ?_
    · simp only [Z1d,h0,h1,h2,cond_false]
    · rfl
theorem triB (t:List Int) (n:Int):(!((t.length:Int) != 3) && (!(t.getD 0 default == t.getD 1 default) && (!(t.getD 1 default == t.getD 2 default) && (!(t.getD 0 default == t.getD 2 default) && t.all fun x=>Z1i x 0 (IntKind.wrap .i64 (n - 1))))))=Zf t n:=by
  unfold Zf
  cases hl:((t.length:Int) != 3) with
  | true=>rfl
  | false =>
    have hl3:t.length=3:=by simp at hl;omega
    match t,hl3 with
    | [a,b,c],_ =>
      simp only [List.getD_cons_zero,List.getD_cons_succ,List.all_cons,List.all_nil,Bool.and_true]
      rw [show Z1i=Z10 from rfl]
      cases (a == b)<;>cases (b == c)<;>cases (a == c)<;>cases Z10 a 0 (IntKind.wrap .i64 (n - 1))<;>cases Z10 b 0 (IntKind.wrap .i64 (n - 1))<;>cases Z10 c 0 (IntKind.wrap .i64 (n - 1))<;>rfl
theorem Z5v (m:Gm) (k:Nat) (i:Int):Z9 m (k + 1) i=cond (decide (i < (m.Tr.length:Int))) (cond (Zf (m.Tr.getD i.toNat default) (m.Pq.length:Int)) (Z9 m k (i + 1)) (.inl ())) (.inr ()):=by
  rw [Z9,← triB]
  have hin:Z1g m i=cond ((m.Tr.getD i.toNat default).all fun x=>Z1i x 0 (IntKind.wrap .i64 ((m.Pq.length:Int) - 1))) (.inr ()) (.inl ()):=by
    unfold Z1g
    exact X2d (a:=m.Tr.getD i.toNat default) (p:=fun x=>Z1i x 0 (IntKind.wrap .i64 ((m.Pq.length:Int) - 1))) (lo:=ZF m i) (x:=()) (y:=()) (fun k i=>rfl)
  rw [hin]
  generalize m.Tr.getD i.toNat default=t
  generalize (t.all fun x=>Z1i x 0 (IntKind.wrap .i64 ((m.Pq.length:Int) - 1)))=q
  cases ((t.length:Int) != 3)<;>cases (t.getD 0 default == t.getD 1 default)<;>cases (t.getD 1 default == t.getD 2 default)<;>cases (t.getD 0 default == t.getD 2 default)<;>cases q<;>rfl
theorem Z3O (m:Gm):Z1d m=Zl m:=by
  rw [Z4S]
  unfold Z1d Z1s
  rw [X2d (a:=m.Tr) (p:=fun t=>Zf t (m.Pq.length:Int)) (lo:=Z9 m) (x:=()) (y:=()) (Z5v m)]
  cases (m.Tr.all fun t=>Zf t (m.Pq.length:Int))<;>rfl
def Z2g (Y3:Int) (Yc:Int):Gedge:=(⟨(if Yc < Y3 then Yc else Y3),(if Yc > Y3 then Yc else Y3)⟩:Gedge)
theorem Z5n (Y3:Int) (Yc:Int)   : Fn prog 79 [.i .i64 Y3, .i .i64 Yc] (.agg [.i .i64 ((Z2g Y3 Yc).e0), .i .i64 ((Z2g Y3 Yc).e1)]) []:=by
 refine fnS E0Ok Z2 (c:=X0 f79) [] (.agg [.i .i64 (if Yc < Y3 then Yc else Y3), .i .i64 (if Yc > Y3 then Yc else Y3)]) [] func79 (sC (show (if false=true then (if Yc > Y3 then Yc else Y3) else (if Yc < Y3 then Yc else Y3))=(if Yc < Y3 then Yc else Y3) from (by simp))<|sA (.num (if Yc < Y3 then Yc else Y3))<|sC (show (if true=true then (if Yc > Y3 then Yc else Y3) else (if Yc < Y3 then Yc else Y3))=(if Yc > Y3 then Yc else Y3) from (by simp))<|sA (.num (if Yc > Y3 then Yc else Y3))<|sK [] sN) rfl (by kernel_rfl) (by kernel_rfl) rfl ?_ ?_
 · rfl
 · rfl
theorem Z5M (a b:Int):Z2g a b=mkE a b:=by
  unfold Z2g mkE
  by_cases h:a≤b
  · rw [if_pos h,if_neg (by omega)]
    by_cases h2:b > a
    · rw [if_pos h2]
    · rw [if_neg h2,show a=b from by omega]
  · rw [if_neg h,if_pos (by omega),if_neg (by omega)]
def Z19 (YM:Int):Bool:=(YM != YM)
theorem Z3r (YM:Int)   : Fn prog 145 [.i .i64 YM] (.b (Z19 YM)) []:=by
 refine fnS E0Ok Z2 (c:=X0 f145) [] (.b (YM != YM)) [] func145 (sK [] sN) rfl (by kernel_rfl) (by kernel_rfl) rfl ?_ ?_
 · rfl
 · rfl
def Zx (YM:Int) (Ys:Int):Int:=(cond (Z19 YM)
  (cond (Z19 Ys)
    0
    (-1))
  (cond (Z19 Ys)
    1
    (cond (decide (YM < Ys))
      (-1)
      (cond (decide (YM > Ys))
        1
        0))))
theorem Z4f (YM:Int) (Ys:Int)   : Fn prog 137 [.i .i64 YM, .i .i64 Ys] (.i .i64 (Zx YM Ys)) []:=by
 have p {a C} (s:Scr a C):=sF (Z3r YM)<|sF (Z3r Ys)<|s
 cases h0:(Z19 YM) with
 | true =>
  have q {a C} (s:Scr a C):=p (sB h0<|s)
  clear p
  cases h1:(Z19 Ys) with
  | true =>
   refine fnS E0Ok Z2 (c:=X0 f137) [] (.i .i64 0) [] func137 (q (sB h1<|sK [] sN)) rfl (by kernel_rfl) (by kernel_rfl) rfl ?_ ?_
   · simp only [Zx,h0,h1,cond_true]
   · rfl
  | false =>
   refine fnS E0Ok Z2 (c:=X0 f137) [] (.i .i64 (-1)) [] func137 (q (sB h1<|sK [] sN)) rfl (by kernel_rfl) (by kernel_rfl) rfl ?_ ?_
   · simp only [Zx,h0,h1,cond_true,cond_false]
   · rfl
 | false =>
  have q {a C} (s:Scr a C):=p (sB h0<|s)
  clear p
  cases h1:(Z19 Ys) with
  | true =>
   refine fnS E0Ok Z2 (c:=X0 f137) [] (.i .i64 1) [] func137 (q (sB h1<|sK [] sN)) rfl (by kernel_rfl) (by kernel_rfl) rfl ?_ ?_
   · simp only [Zx,h0,h1,cond_true,cond_false]
   · rfl
  | false =>
   have p {a C} (s:Scr a C):=q (sB h1<|s)
   clear q
   cases h2:(decide (YM < Ys)) with
   | true =>
    have gh2:=odt h2
    refine fnS E0Ok Z2 (c:=X0 f137) [] (.i .i64 (-1)) [] func137 (p (sB h2<|sK [] sN)) rfl (by kernel_rfl) (by kernel_rfl) rfl ?_ ?_
    · simp only [Zx,h0,h1,h2,cond_true,cond_false]
    · rfl
   | false =>
    have gh2:=odf h2
    have q {a C} (s:Scr a C):=p (sB h2<|s)
    clear p
    cases h3:(decide (YM > Ys)) with
    | true =>
     have gh3:=odt h3
     refine fnS E0Ok Z2 (c:=X0 f137) [] (.i .i64 1) [] func137 (q (sB h3<|sK [] sN)) rfl (by kernel_rfl) (by kernel_rfl) rfl ?_ ?_
     · simp only [Zx,h0,h1,h2,h3,cond_true,cond_false]
     · rfl
    | false =>
     have gh3:=odf h3
     refine fnS E0Ok Z2 (c:=X0 f137) [] (.i .i64 0) [] func137 (q (sB h3<|sK [] sN)) rfl (by kernel_rfl) (by kernel_rfl) rfl ?_ ?_
     · simp only [Zx,h0,h1,h2,h3,cond_false]
     · rfl
def Z8 (Ym:(List Int)) (Yp:(List Int)):Nat→Int→(Int) ⊕ (Unit)
  | 0,_ => .inl default
  | k + 1,Y1=>(cond (decide (Y1 < (Ym.length:Int)))
    (cond (decide (Y1 ≥ (Yp.length:Int)))
      (.inl 1)
      (cond ((Zx (Ym.getD Y1.toNat default) (Yp.getD Y1.toNat default)) != 0)
        (.inl (Zx (Ym.getD Y1.toNat default) (Yp.getD Y1.toNat default)))
        (Z8 Ym Yp k (Y1 + 1))))
    (.inr ()))
def Z14 (Ym:(List Int)) (Yp:(List Int)):(Int) ⊕ (Unit)→Ex × St
  | .inl r=>(.ret,⟨an 4 (.i .i64 r :: an 31 []),[]⟩)
  | .inr r=>((.exit 0),⟨.sl (Ym.map (cI .i64)) :: .sl (Yp.map (cI .i64)) :: an 7 (.sl (Ym.map (cI .i64)) :: an 26 []),[]⟩)
def Z2I (Ym:(List Int)) (Yp:(List Int)) (Y1:Int):St:=⟨.sl (Ym.map (cI .i64)) :: .sl (Yp.map (cI .i64)) :: an 7 (.sl (Ym.map (cI .i64)) :: .i .i64 (Ym.length:Int) :: .i .i64 Y1 :: an 24 []),[]⟩
theorem Z1D (Ym:(List Int)) (Yp:(List Int)) (hp0:Ym.length≤1073741824) (hp1:Yp.length≤1073741824):∀ (k:Nat) (Y1:Int) (Z1y:0≤Y1) (hk:((Ym.length:Int) - Y1).toNat < k),Lp prog 0 (sub (X0 f123) [1,0,1,0,0]) (Z2I Ym Yp Y1) (Z14 Ym Yp (Z8 Ym Yp k Y1)).1 (Z14 Ym Yp (Z8 Ym Yp k Y1)).2:=by
 intro k
 induction k with
 | zero=>intro Y1 Z1y hk;exact absurd hk (Nat.not_lt_zero _)
 | succ k ih =>
  intro Y1 Z1y hk
  cases Yh:(decide (Y1 < (Ym.length:Int))) with
  | true =>
   have Yq:=odt Yh
   have Yu:(0:Int)≤Y1:=(by assumption)
   have Ys:Y1 < (Ym.length:Int):=(by assumption)
   have p {a C} (s:Scr a C):=sB Yh<|sG (cI .i64) Ym Y1 Yu Ys<|sZ (cI .i64) Yp<|s
   cases Yl:(decide (Y1 ≥ (Yp.length:Int))) with
   | true =>
    have YG:=odt Yl
    have e:Z8 Ym Yp (k + 1) Y1=(.inl 1):=by simp only [Z8,Yh,Yl,cond_true]
    rw [e]
    exact outR (e := .ret) E0Ok Z2 [] (mR false [4,1,31]) [] (p (sB Yl<|sN)) (by kernel_rfl) (by intro h;cases h)
   | false =>
    have YG:=odf Yl
    have Yw:Y1 < (Yp.length:Int):=by clear p;exact (by omega)
    have q {a C} (s:Scr a C):=p (sB Yl<|sG (cI .i64) Yp Y1 Yu Yw<|sF (Z4f (Ym.getD Y1.toNat default) (Yp.getD Y1.toNat default))<|s)
    clear p
    cases YB:((Zx (Ym.getD Y1.toNat default) (Yp.getD Y1.toNat default)) != 0) with
    | true =>
     have YX:=bne_iff_ne.1 YB
     have e:Z8 Ym Yp (k + 1) Y1=(.inl (Zx (Ym.getD Y1.toNat default) (Yp.getD Y1.toNat default))):=by simp only [Z8,Yh,Yl,YB,cond_true,cond_false]
     rw [e]
     exact outR (e := .ret) E0Ok Z2 [] (mR false [4,1,31]) [] (q (sB YB<|sN)) (by kernel_rfl) (by intro h;cases h)
    | false =>
     have YX:=bne_eq_false_iff_eq.1 YB
     have Yv:(-9223372036854775808:Int)≤(Y1 + 1):=by clear q;exact (by omega)
     have Yz:(Y1 + 1)≤(9223372036854775807:Int):=by clear q;exact (by omega)
     have e:Z8 Ym Yp (k + 1) Y1=(Z8 Ym Yp k (Y1 + 1)):=by simp only [Z8,Yh,Yl,YB,cond_true,cond_false]
     rw [e]
     exact Xw E0Ok Z2 [] (mR false [0,2,7,3,24]) [] (ih (Y1 + 1) (show 0≤(Y1 + 1) from (by omega)) (by omega)) (q (sB YB<|sI (Y1 + 1) Yv Yz<|sN)) (by kernel_rfl)
  | false =>
   have Yq:=odf Yh
   have e:Z8 Ym Yp (k + 1) Y1=(.inr ()):=by simp only [Z8,Yh,cond_false]
   rw [e]
   exact outR (e:=(.exit 0)) E0Ok Z2 [] (mR false [0,2,7,1,26]) [] (sB Yh<|sN) (by kernel_rfl) (by intro h;cases h)
def ZN (Ym:(List Int)) (Yp:(List Int)):(Int) ⊕ (Unit):=(Z8 Ym Yp (((Ym.length:Int) - 0).toNat + 1) 0)
def ZE (Ym:(List Int)) (Yp:(List Int)):Int:=(match (ZN Ym Yp) with
  | .inl r1=>r1
  | .inr r1=>(cond (decide ((Ym.length:Int) < (Yp.length:Int)))
    (-1)
    0))
theorem Z2Z (Ym:(List Int)) (Yp:(List Int)) (hp0:Ym.length≤1073741824) (hp1:Yp.length≤1073741824)  : Fn prog 123 [.sl (Ym.map (cI .i64)), .sl (Yp.map (cI .i64))] (.i .i64 (ZE Ym Yp)) []:=by
 have p {a C} (s:Scr a C):=sZ (cI .i64) Ym<|s
 cases h0:(ZN Ym Yp) with
 | inl r1 =>
  refine fnS E0Ok Z2 (c:=X0 f123) [] (.i .i64 r1) [] func123 (p (sL (mR false [0,2,7,3,24]) 0 (X6 (Z14 Ym Yp) (x:=(ZN Ym Yp)) (Z1D Ym Yp hp0 hp1 (((Ym.length:Int) - 0).toNat + 1) 0 (show 0≤0 from (by omega)) (Nat.lt_succ_self _)) h0)<|sK [] sN)) rfl (by kernel_rfl) (by kernel_rfl) rfl ?_ ?_
  · simp only [ZE,h0]
  · rfl
 | inr r1 =>
  have q {a C} (s:Scr a C):=p (sL (mR false [0,2,7,3,24]) 0 (X6 (Z14 Ym Yp) (x:=(ZN Ym Yp)) (Z1D Ym Yp hp0 hp1 (((Ym.length:Int) - 0).toNat + 1) 0 (show 0≤0 from (by omega)) (Nat.lt_succ_self _)) h0)<|sZ (cI .i64) Ym<|sZ (cI .i64) Yp<|s)
  clear p
  cases h1:(decide ((Ym.length:Int) < (Yp.length:Int))) with
  | true =>
   have gh1:=odt h1
   refine fnS E0Ok Z2 (c:=X0 f123) [] (.i .i64 (-1)) [] func123 (q (sB h1<|sK [] sN)) rfl (by kernel_rfl) (by kernel_rfl) rfl ?_ ?_
   · simp only [ZE,h0,h1,cond_true]
   · rfl
  | false =>
   have gh1:=odf h1
   refine fnS E0Ok Z2 (c:=X0 f123) [] (.i .i64 0) [] func123 (q (sB h1<|sK [] sN)) rfl (by kernel_rfl) (by kernel_rfl) rfl ?_ ?_
   · simp only [ZE,h0,h1,cond_false]
   · rfl
def Z2o (Y3:Gedge) (Yc:Gedge):Int:=(ZE ([Y3.e0,Y3.e1]) ([Yc.e0,Yc.e1]))
theorem Z3g (Y3:Gedge) (Yc:Gedge)   : Fn prog 112 [.agg [.i .i64 Y3.e0, .i .i64 Y3.e1], .agg [.i .i64 Yc.e0, .i .i64 Yc.e1]] (.i .i64 (Z2o Y3 Yc)) []:=by
 have y0:([Y3.e0,Y3.e1]).length≤1073741824:=(by simp_all<;>omega)
 have y1:([Yc.e0,Yc.e1]).length≤1073741824:=(by assumption)
 refine fnS E0Ok Z2 (c:=X0 f112) [] (.i .i64 (ZE ([Y3.e0,Y3.e1]) ([Yc.e0,Yc.e1]))) [] func112 (sK [2,2]<|sF (Z2Z ([Y3.e0,Y3.e1]) ([Yc.e0,Yc.e1]) y0 y1)<|sK [] sN) rfl (by kernel_rfl) (by kernel_rfl) rfl ?_ ?_
 · rfl
 · rfl
def Z0 (Y0:Gm) (Y1:Int) (Y5:Int):Gedge:=(Z2g ((Y0.Tr.getD Y1.toNat default).getD Y5.toNat default) ((Y0.Tr.getD Y1.toNat default).getD (Int.tmod (Y5 + 1) 3).toNat default))
def Z4 (Y0:Gm) (Y1:Int) (Ya:(List (Gedge × List Int))) (Yd:(List Gedge)):Nat→Int→(List (Gedge × List Int))→(List Gedge)→(List (Gedge × List Int)) × (List Gedge)
  | 0,_,_,_=>default
  | k + 1,Y5,Y4,Yi=>(cond (decide (Y5 < 3))
    (cond (mhas Y4 (Z0 Y0 Y1 Y5))
      (cond (((Y4.getD (midx Y4 (Z0 Y0 Y1 Y5)) default).2.length:Int) == 0)
        (Z4 Y0 Y1 Ya Yd k (Y5 + 1) (mput Y4 (midx Y4 (Z0 Y0 Y1 Y5)) ((Y4.getD (midx Y4 (Z0 Y0 Y1 Y5)) default).2 ++ [Y1])) (Yi ++ [(Z0 Y0 Y1 Y5)]))
        (Z4 Y0 Y1 Ya Yd k (Y5 + 1) (mput Y4 (midx Y4 (Z0 Y0 Y1 Y5)) ((Y4.getD (midx Y4 (Z0 Y0 Y1 Y5)) default).2 ++ [Y1])) Yi))
      (Z4 Y0 Y1 Ya Yd k (Y5 + 1) (Y4 ++ [((Z0 Y0 Y1 Y5),[Y1])]) (Yi ++ [(Z0 Y0 Y1 Y5)])))
    (Y4,Yi))
def Z1K (Y0:Gm) (Y1:Int) (Ya:(List (Gedge × List Int))) (Yd:(List Gedge)) (r:(List (Gedge × List Int)) × (List Gedge)):Ex × St:=((.exit 2),⟨.agg [.sl (Y0.Pq.map Gv.c), .sl (Y0.Tr.map (cL (cI .i64)))] :: .ptr 0 0 0 :: .any :: .nils :: .mp 1 :: .own 2 :: .i .i64 Y1 :: .sl ((Y0.Tr.getD Y1.toNat default).map (cI .i64)) :: .any :: .any :: .mp 1 :: .any :: .ptr 0 0 1 :: .sl (Y0.Tr.map (cL (cI .i64))) :: .i .i64 (Y0.Tr.length:Int) :: .i .i64 Y1 :: .b (decide (Y1 < (Y0.Tr.length:Int))) :: .i .i64 Y1 :: .ref [.sl ((Y0.Tr.getD Y1.toNat default).map (cI .i64))] 0 :: .sl ((Y0.Tr.getD Y1.toNat default).map (cI .i64)) :: an 37 [],[.box 35 [.sl (Y0.Pq.map Gv.c), .sl (Y0.Tr.map (cL (cI .i64)))], .mapN 2 (mapC Gedge.pr (cI .i64) r.1) none, .vec 92 2 (r.2.map Gedge.cells) false]⟩)
def Z3D (Y0:Gm) (Y1:Int) (Ya:(List (Gedge × List Int))) (Yd:(List Gedge)) (Y5:Int) (Y4:(List (Gedge × List Int))) (Yi:(List Gedge)):St:=⟨.agg [.sl (Y0.Pq.map Gv.c), .sl (Y0.Tr.map (cL (cI .i64)))] :: .ptr 0 0 0 :: .any :: .nils :: .mp 1 :: .own 2 :: .i .i64 Y1 :: .sl ((Y0.Tr.getD Y1.toNat default).map (cI .i64)) :: .any :: .any :: .mp 1 :: .any :: .ptr 0 0 1 :: .sl (Y0.Tr.map (cL (cI .i64))) :: .i .i64 (Y0.Tr.length:Int) :: .i .i64 Y1 :: .b (decide (Y1 < (Y0.Tr.length:Int))) :: .i .i64 Y1 :: .ref [.sl ((Y0.Tr.getD Y1.toNat default).map (cI .i64))] 0 :: .sl ((Y0.Tr.getD Y1.toNat default).map (cI .i64)) :: .i .i64 Y5 :: an 36 [],[.box 35 [.sl (Y0.Pq.map Gv.c), .sl (Y0.Tr.map (cL (cI .i64)))], .mapN 2 (mapC Gedge.pr (cI .i64) Y4) none, .vec 92 2 (Yi.map Gedge.cells) false]⟩
set_option maxHeartbeats 1000000 in
theorem Z3E (Y0:Gm) (Y1:Int) (Ya:(List (Gedge × List Int))) (Yd:(List Gedge)) (hp0:Y0.Pq.length≤1073741824) (hp1:Y0.Tr.length≤1073741824) (hp2:∀ t∈Y0.Tr,t.length≤1073741824) (hp3:OkE Y0.Pq.length Y0.Tr) (Zi:0≤Y1) (Z1l:(Yd.length:Int)≤3 * Y1) (Z1a:∀ y∈Ya,(y.2.length:Int)≤3 * Y1) (ZO:(decide (Y1 < (Y0.Tr.length:Int)))=true):∀ (k:Nat) (Y5:Int) (Y4:(List (Gedge × List Int))) (Yi:(List Gedge)) (ZA:0≤Y5) (Z24:(Yi.length:Int)≤(Yd.length:Int) + Y5) (Z25:∀ y∈Y4,(y.2.length:Int)≤3 * Y1 + Y5) (hk:((3:Int) - Y5).toNat < k),Lp prog 0 (sub (X0 f77) [1,1,0,1,0,0,1,1,0,0,1,1,0,0]) (Z3D Y0 Y1 Ya Yd Y5 Y4 Yi) (Z1K Y0 Y1 Ya Yd (Z4 Y0 Y1 Ya Yd k Y5 Y4 Yi)).1 (Z1K Y0 Y1 Ya Yd (Z4 Y0 Y1 Ya Yd k Y5 Y4 Yi)).2:=by
 intro k
 induction k with
 | zero=>intro Y5 Y4 Yi ZA Z24 Z25 hk;exact absurd hk (Nat.not_lt_zero _)
 | succ k ih =>
  intro Y5 Y4 Yi ZA Z24 Z25 hk
  cases Yr:(decide (Y5 < 3)) with
  | true =>
   have YJ:=odt Yr
   have YQ:(0:Int)≤Y5:=(by assumption)
   have YR:Y5 < ((Y0.Tr.getD Y1.toNat default).length:Int):=(by ((have g5:=odt ZO;have q:=OkE.at hp3 Zi g5 ZA (odt (by assumption));omega)))
   have YK:(-9223372036854775808:Int)≤(Y5 + 1):=(by omega)
   have YH:(Y5 + 1)≤(9223372036854775807:Int):=(by omega)
   have YS:(0:Int)≤(Int.tmod (Y5 + 1) 3):=(by ((have g5:=odt ZO;have q:=OkE.at hp3 Zi g5 ZA (odt (by assumption));omega)))
   have YW:(Int.tmod (Y5 + 1) 3) < ((Y0.Tr.getD Y1.toNat default).length:Int):=(by ((have g5:=odt ZO;have q:=OkE.at hp3 Zi g5 ZA (odt (by assumption));omega)))
   have p {a C} (s:Scr a C):=sB Yr<|sK [12,12]<|sG (cI .i64) (Y0.Tr.getD Y1.toNat default) Y5 YQ YR<|sI (Y5 + 1) YK YH<|sC (show (3:Int)≠0 from (by decide))<|sQ (Int.tmod (Y5 + 1) 3)<|sG (cI .i64) (Y0.Tr.getD Y1.toNat default) (Int.tmod (Y5 + 1) 3) YS YW<|sF (Z5n ((Y0.Tr.getD Y1.toNat default).getD Y5.toNat default) ((Y0.Tr.getD Y1.toNat default).getD (Int.tmod (Y5 + 1) 3).toNat default))<|s
   cases YA:(mhas Y4 (Z0 Y0 Y1 Y5)) with
   | true =>
    have m__16:=X2A YA
    have q {a C} (s:Scr a C):=p (sA (.keep [midx Y4 (Z0 Y0 Y1 Y5)])<|sC (X3k (ck:=Gedge.pr) (cv:=(cI .i64)) YA)<|sM (X5M (ck:=Gedge.pr) (cv:=(cI .i64)) (l:=Y4) (j:=(midx Y4 (Z0 Y0 Y1 Y5))))<|s)
    clear p
    cases YU:(((Y4.getD (midx Y4 (Z0 Y0 Y1 Y5)) default).2.length:Int) == 0) with
    | true =>
     have gh__2:=eq_of_beq YU
     have YN:Yi.length + ([(Z0 Y0 Y1 Y5)]).length≤1073741824:=by clear q;exact (by ((have g5:=odt ZO;have q:=OkE.at hp3 Zi g5 ZA (odt (by assumption));(simp only [List.length_append,List.length_cons,List.length_nil];omega))))
     have YT:(midx Y4 (Z0 Y0 Y1 Y5)) < Y4.length:=by clear q;exact (by assumption)
     have YZ:((Y4.getD (midx Y4 (Z0 Y0 Y1 Y5)) default).2).length + ([Y1]).length≤1073741824:=by clear q;exact (by ((have g5:=odt ZO;have q:=OkE.at hp3 Zi g5 ZA (odt (by assumption));(simp only [List.length_append,List.length_cons,List.length_nil];omega))))
     have e:Z4 Y0 Y1 Ya Yd (k + 1) Y5 Y4 Yi=(Z4 Y0 Y1 Ya Yd k (Y5 + 1) (mput Y4 (midx Y4 (Z0 Y0 Y1 Y5)) ((Y4.getD (midx Y4 (Z0 Y0 Y1 Y5)) default).2 ++ [Y1])) (Yi ++ [(Z0 Y0 Y1 Y5)])):=by simp only [Z4,Yr,YA,YU,cond_true]
     rw [e]
     exact XP E0Ok Z2 [] (mR false [0,2,1,5,2,1,1,9,36]) [0,1,2] (⟨.agg [.sl (Y0.Pq.map Gv.c), .sl (Y0.Tr.map (cL (cI .i64)))] :: .ptr 0 0 0 :: .any :: .nils :: .mp 1 :: .own 2 :: .i .i64 Y1 :: .sl ((Y0.Tr.getD Y1.toNat default).map (cI .i64)) :: .any :: .any :: .mp 1 :: .any :: .ptr 0 0 1 :: .sl (Y0.Tr.map (cL (cI .i64))) :: .i .i64 (Y0.Tr.length:Int) :: .i .i64 Y1 :: .b (decide (Y1 < (Y0.Tr.length:Int))) :: .i .i64 Y1 :: .ref [.sl ((Y0.Tr.getD Y1.toNat default).map (cI .i64))] 0 :: .sl ((Y0.Tr.getD Y1.toNat default).map (cI .i64)) :: .i .i64 (Y5 + 1) :: an 36 [],[.box 35 [.sl (Y0.Pq.map Gv.c), .sl (Y0.Tr.map (cL (cI .i64)))], .mapN 2 (((mapC Gedge.pr (cI .i64) Y4).set (midx Y4 (Z0 Y0 Y1 Y5)) (((mapC Gedge.pr (cI .i64) Y4).getD (midx Y4 (Z0 Y0 Y1 Y5)) default).1,[])).set (midx Y4 (Z0 Y0 Y1 Y5)) ((((mapC Gedge.pr (cI .i64) Y4).set (midx Y4 (Z0 Y0 Y1 Y5)) (((mapC Gedge.pr (cI .i64) Y4).getD (midx Y4 (Z0 Y0 Y1 Y5)) default).1,[])).getD (midx Y4 (Z0 Y0 Y1 Y5)) default).1,(((mapC Gedge.pr (cI .i64) Y4).getD (midx Y4 (Z0 Y0 Y1 Y5)) default).2 ++ ([Y1].map (cI .i64))))) none, .vec 92 2 ((Yi.map Gedge.cells) ++ ([[.i .i64 ((Z0 Y0 Y1 Y5).e0), .i .i64 ((Z0 Y0 Y1 Y5).e1)]]:List (List AV))) false]⟩) (q (sB YU<|sC (show (Yi.map Gedge.cells).length + ([[.i .i64 ((Z0 Y0 Y1 Y5).e0), .i .i64 ((Z0 Y0 Y1 Y5).e1)]]:List (List AV)).length≤1073741824 from (by simpa using YN))<|sA (.keep [midx Y4 (Z0 Y0 Y1 Y5)])<|sC (X3k (ck:=Gedge.pr) (cv:=(cI .i64)) YA)<|sC (show (midx Y4 (Z0 Y0 Y1 Y5)) < (mapC Gedge.pr (cI .i64) Y4).length from (by simpa using YT))<|sC (show (((mapC Gedge.pr (cI .i64) Y4).getD (midx Y4 (Z0 Y0 Y1 Y5)) default).2).length + ([[.i .i64 Y1]]:List (List AV)).length≤1073741824 from (by simpa using YZ))<|sA (.keep [(midx Y4 (Z0 Y0 Y1 Y5))])<|sC (show ((midx Y4 (Z0 Y0 Y1 Y5)):Int)=(((midx Y4 (Z0 Y0 Y1 Y5)):Nat):Int) from rfl)<|sC (show (midx Y4 (Z0 Y0 Y1 Y5)) < ((mapC Gedge.pr (cI .i64) Y4).set (midx Y4 (Z0 Y0 Y1 Y5)) (((mapC Gedge.pr (cI .i64) Y4).getD (midx Y4 (Z0 Y0 Y1 Y5)) default).1,[])).length from (by simpa using YT))<|sC (show ∀ i,some (midx Y4 (Z0 Y0 Y1 Y5))=some i→i=(midx Y4 (Z0 Y0 Y1 Y5)) from (fun i h=>by cases h;rfl))<|sI (Y5 + 1) YK YH<|sN)) (by kernel_rfl) (show _=⟨.agg [.sl (Y0.Pq.map Gv.c), .sl (Y0.Tr.map (cL (cI .i64)))] :: .ptr 0 0 0 :: .any :: .nils :: .mp 1 :: .own 2 :: .i .i64 Y1 :: .sl ((Y0.Tr.getD Y1.toNat default).map (cI .i64)) :: .any :: .any :: .mp 1 :: .any :: .ptr 0 0 1 :: .sl (Y0.Tr.map (cL (cI .i64))) :: .i .i64 (Y0.Tr.length:Int) :: .i .i64 Y1 :: .b (decide (Y1 < (Y0.Tr.length:Int))) :: .i .i64 Y1 :: .ref [.sl ((Y0.Tr.getD Y1.toNat default).map (cI .i64))] 0 :: .sl ((Y0.Tr.getD Y1.toNat default).map (cI .i64)) :: .i .i64 (Y5 + 1) :: an 36 [],[.box 35 [.sl (Y0.Pq.map Gv.c), .sl (Y0.Tr.map (cL (cI .i64)))], .mapN 2 (mapC Gedge.pr (cI .i64) (mput Y4 (midx Y4 (Z0 Y0 Y1 Y5)) ((Y4.getD (midx Y4 (Z0 Y0 Y1 Y5)) default).2 ++ [Y1]))) none, .vec 92 2 ((Yi ++ [(Z0 Y0 Y1 Y5)]).map Gedge.cells) false]⟩ from (by rw [X5N (X2A YA)];simp [List.map_set,Gedge.cells])) (ih (Y5 + 1) (mput Y4 (midx Y4 (Z0 Y0 Y1 Y5)) ((Y4.getD (midx Y4 (Z0 Y0 Y1 Y5)) default).2 ++ [Y1])) (Yi ++ [(Z0 Y0 Y1 Y5)]) (show 0≤(Y5 + 1) from (by omega)) (show ((Yi ++ [(Z0 Y0 Y1 Y5)]).length:Int)≤(Yd.length:Int) + (Y5 + 1) from (by simp only [List.length_append,List.length_cons,List.length_nil];omega)) (show ∀ y∈(mput Y4 (midx Y4 (Z0 Y0 Y1 Y5)) ((Y4.getD (midx Y4 (Z0 Y0 Y1 Y5)) default).2 ++ [Y1])),(y.2.length:Int)≤3 * Y1 + (Y5 + 1) from (by exact X2Q (by assumption) (by omega) (by omega))) (by omega))
    | false =>
     have gh__2:=ne_of_beq_false YU
     have YN:(midx Y4 (Z0 Y0 Y1 Y5)) < Y4.length:=by clear q;exact (by assumption)
     have YT:((Y4.getD (midx Y4 (Z0 Y0 Y1 Y5)) default).2).length + ([Y1]).length≤1073741824:=by clear q;exact (by ((have g5:=odt ZO;have q:=OkE.at hp3 Zi g5 ZA (odt (by assumption));(have q3:=X5O (N:=3 * Y1 + Y5) (by omega) (by assumption) (midx Y4 (Z0 Y0 Y1 Y5));simp only [List.length_cons,List.length_nil];omega))))
     have e:Z4 Y0 Y1 Ya Yd (k + 1) Y5 Y4 Yi=(Z4 Y0 Y1 Ya Yd k (Y5 + 1) (mput Y4 (midx Y4 (Z0 Y0 Y1 Y5)) ((Y4.getD (midx Y4 (Z0 Y0 Y1 Y5)) default).2 ++ [Y1])) Yi):=by simp only [Z4,Yr,YA,YU,cond_true,cond_false]
     rw [e]
     exact XP E0Ok Z2 [] (mR false [0,2,1,5,2,1,1,9,36]) [0,1,2] (⟨.agg [.sl (Y0.Pq.map Gv.c), .sl (Y0.Tr.map (cL (cI .i64)))] :: .ptr 0 0 0 :: .any :: .nils :: .mp 1 :: .own 2 :: .i .i64 Y1 :: .sl ((Y0.Tr.getD Y1.toNat default).map (cI .i64)) :: .any :: .any :: .mp 1 :: .any :: .ptr 0 0 1 :: .sl (Y0.Tr.map (cL (cI .i64))) :: .i .i64 (Y0.Tr.length:Int) :: .i .i64 Y1 :: .b (decide (Y1 < (Y0.Tr.length:Int))) :: .i .i64 Y1 :: .ref [.sl ((Y0.Tr.getD Y1.toNat default).map (cI .i64))] 0 :: .sl ((Y0.Tr.getD Y1.toNat default).map (cI .i64)) :: .i .i64 (Y5 + 1) :: an 36 [],[.box 35 [.sl (Y0.Pq.map Gv.c), .sl (Y0.Tr.map (cL (cI .i64)))], .mapN 2 (((mapC Gedge.pr (cI .i64) Y4).set (midx Y4 (Z0 Y0 Y1 Y5)) (((mapC Gedge.pr (cI .i64) Y4).getD (midx Y4 (Z0 Y0 Y1 Y5)) default).1,[])).set (midx Y4 (Z0 Y0 Y1 Y5)) ((((mapC Gedge.pr (cI .i64) Y4).set (midx Y4 (Z0 Y0 Y1 Y5)) (((mapC Gedge.pr (cI .i64) Y4).getD (midx Y4 (Z0 Y0 Y1 Y5)) default).1,[])).getD (midx Y4 (Z0 Y0 Y1 Y5)) default).1,(((mapC Gedge.pr (cI .i64) Y4).getD (midx Y4 (Z0 Y0 Y1 Y5)) default).2 ++ ([Y1].map (cI .i64))))) none, .vec 92 2 (Yi.map Gedge.cells) false]⟩) (q (sB YU<|sA (.keep [midx Y4 (Z0 Y0 Y1 Y5)])<|sC (X3k (ck:=Gedge.pr) (cv:=(cI .i64)) YA)<|sC (show (midx Y4 (Z0 Y0 Y1 Y5)) < (mapC Gedge.pr (cI .i64) Y4).length from (by simpa using YN))<|sC (show (((mapC Gedge.pr (cI .i64) Y4).getD (midx Y4 (Z0 Y0 Y1 Y5)) default).2).length + ([[.i .i64 Y1]]:List (List AV)).length≤1073741824 from (by simpa using YT))<|sA (.keep [(midx Y4 (Z0 Y0 Y1 Y5))])<|sC (show ((midx Y4 (Z0 Y0 Y1 Y5)):Int)=(((midx Y4 (Z0 Y0 Y1 Y5)):Nat):Int) from rfl)<|sC (show (midx Y4 (Z0 Y0 Y1 Y5)) < ((mapC Gedge.pr (cI .i64) Y4).set (midx Y4 (Z0 Y0 Y1 Y5)) (((mapC Gedge.pr (cI .i64) Y4).getD (midx Y4 (Z0 Y0 Y1 Y5)) default).1,[])).length from (by simpa using YN))<|sC (show ∀ i,some (midx Y4 (Z0 Y0 Y1 Y5))=some i→i=(midx Y4 (Z0 Y0 Y1 Y5)) from (fun i h=>by cases h;rfl))<|sI (Y5 + 1) YK YH<|sN)) (by kernel_rfl) (show _=⟨.agg [.sl (Y0.Pq.map Gv.c), .sl (Y0.Tr.map (cL (cI .i64)))] :: .ptr 0 0 0 :: .any :: .nils :: .mp 1 :: .own 2 :: .i .i64 Y1 :: .sl ((Y0.Tr.getD Y1.toNat default).map (cI .i64)) :: .any :: .any :: .mp 1 :: .any :: .ptr 0 0 1 :: .sl (Y0.Tr.map (cL (cI .i64))) :: .i .i64 (Y0.Tr.length:Int) :: .i .i64 Y1 :: .b (decide (Y1 < (Y0.Tr.length:Int))) :: .i .i64 Y1 :: .ref [.sl ((Y0.Tr.getD Y1.toNat default).map (cI .i64))] 0 :: .sl ((Y0.Tr.getD Y1.toNat default).map (cI .i64)) :: .i .i64 (Y5 + 1) :: an 36 [],[.box 35 [.sl (Y0.Pq.map Gv.c), .sl (Y0.Tr.map (cL (cI .i64)))], .mapN 2 (mapC Gedge.pr (cI .i64) (mput Y4 (midx Y4 (Z0 Y0 Y1 Y5)) ((Y4.getD (midx Y4 (Z0 Y0 Y1 Y5)) default).2 ++ [Y1]))) none, .vec 92 2 (Yi.map Gedge.cells) false]⟩ from (by rw [X5N (X2A YA)];done)) (ih (Y5 + 1) (mput Y4 (midx Y4 (Z0 Y0 Y1 Y5)) ((Y4.getD (midx Y4 (Z0 Y0 Y1 Y5)) default).2 ++ [Y1])) Yi (show 0≤(Y5 + 1) from (by omega)) (show (Yi.length:Int)≤(Yd.length:Int) + (Y5 + 1) from (by omega)) (show ∀ y∈(mput Y4 (midx Y4 (Z0 Y0 Y1 Y5)) ((Y4.getD (midx Y4 (Z0 Y0 Y1 Y5)) default).2 ++ [Y1])),(y.2.length:Int)≤3 * Y1 + (Y5 + 1) from (by exact X2Q (by assumption) (by omega) (by omega))) (by omega))
   | false =>
    have YN:Yi.length + ([(Z0 Y0 Y1 Y5)]).length≤1073741824:=by clear p;exact (by ((have g5:=odt ZO;have q:=OkE.at hp3 Zi g5 ZA (odt (by assumption));(simp only [List.length_append,List.length_cons,List.length_nil];omega))))
    have e:Z4 Y0 Y1 Ya Yd (k + 1) Y5 Y4 Yi=(Z4 Y0 Y1 Ya Yd k (Y5 + 1) (Y4 ++ [((Z0 Y0 Y1 Y5),[Y1])]) (Yi ++ [(Z0 Y0 Y1 Y5)])):=by simp only [Z4,Yr,YA,cond_true,cond_false]
    rw [e]
    exact XP E0Ok Z2 [] (mR false [0,2,1,5,2,1,1,9,36]) [0,1,2] (⟨.agg [.sl (Y0.Pq.map Gv.c), .sl (Y0.Tr.map (cL (cI .i64)))] :: .ptr 0 0 0 :: .any :: .nils :: .mp 1 :: .own 2 :: .i .i64 Y1 :: .sl ((Y0.Tr.getD Y1.toNat default).map (cI .i64)) :: .any :: .any :: .mp 1 :: .any :: .ptr 0 0 1 :: .sl (Y0.Tr.map (cL (cI .i64))) :: .i .i64 (Y0.Tr.length:Int) :: .i .i64 Y1 :: .b (decide (Y1 < (Y0.Tr.length:Int))) :: .i .i64 Y1 :: .ref [.sl ((Y0.Tr.getD Y1.toNat default).map (cI .i64))] 0 :: .sl ((Y0.Tr.getD Y1.toNat default).map (cI .i64)) :: .i .i64 (Y5 + 1) :: an 36 [],[.box 35 [.sl (Y0.Pq.map Gv.c), .sl (Y0.Tr.map (cL (cI .i64)))], .mapN 2 (((mapC Gedge.pr (cI .i64) Y4) ++ [((Gedge.pr (Z0 Y0 Y1 Y5)),[])]).set (mapC Gedge.pr (cI .i64) Y4).length ((((mapC Gedge.pr (cI .i64) Y4) ++ [((Gedge.pr (Z0 Y0 Y1 Y5)),[])]).getD (mapC Gedge.pr (cI .i64) Y4).length default).1,(([Y1]).map (cI .i64)))) none, .vec 92 2 ((Yi.map Gedge.cells) ++ ([[.i .i64 ((Z0 Y0 Y1 Y5).e0), .i .i64 ((Z0 Y0 Y1 Y5).e1)]]:List (List AV))) false]⟩) (p (sA (.keep [])<|sC (X4g (ck:=Gedge.pr) (cv:=(cI .i64)) Gedge.inj YA)<|sM (show ((0:Nat):Int)=0 from rfl)<|sB (show (0 == 0)=true from rfl)<|sC (show (Yi.map Gedge.cells).length + ([[.i .i64 ((Z0 Y0 Y1 Y5).e0), .i .i64 ((Z0 Y0 Y1 Y5).e1)]]:List (List AV)).length≤1073741824 from (by simpa using YN))<|sA (.keep [])<|sC (X4g (ck:=Gedge.pr) (cv:=(cI .i64)) Gedge.inj YA)<|sC (show ([[.i .i64 Y1]]:List (List AV))≠[] from (by simp))<|sC (show ([[.i .i64 Y1]]:List (List AV)).length≤1073741824 from (by simp))<|sA (.keep [(mapC Gedge.pr (cI .i64) Y4).length])<|sC (show ((mapC Gedge.pr (cI .i64) Y4).length:Int)=(((mapC Gedge.pr (cI .i64) Y4).length:Nat):Int) from rfl)<|sC (show (mapC Gedge.pr (cI .i64) Y4).length < ((mapC Gedge.pr (cI .i64) Y4) ++ [((Gedge.pr (Z0 Y0 Y1 Y5)),[])]).length from (by simp))<|sC (show ∀ i,(none:Option Nat)=some i→i=(mapC Gedge.pr (cI .i64) Y4).length from (fun i h=>by cases h))<|sI (Y5 + 1) YK YH<|sN)) (by kernel_rfl) (show _=⟨.agg [.sl (Y0.Pq.map Gv.c), .sl (Y0.Tr.map (cL (cI .i64)))] :: .ptr 0 0 0 :: .any :: .nils :: .mp 1 :: .own 2 :: .i .i64 Y1 :: .sl ((Y0.Tr.getD Y1.toNat default).map (cI .i64)) :: .any :: .any :: .mp 1 :: .any :: .ptr 0 0 1 :: .sl (Y0.Tr.map (cL (cI .i64))) :: .i .i64 (Y0.Tr.length:Int) :: .i .i64 Y1 :: .b (decide (Y1 < (Y0.Tr.length:Int))) :: .i .i64 Y1 :: .ref [.sl ((Y0.Tr.getD Y1.toNat default).map (cI .i64))] 0 :: .sl ((Y0.Tr.getD Y1.toNat default).map (cI .i64)) :: .i .i64 (Y5 + 1) :: an 36 [],[.box 35 [.sl (Y0.Pq.map Gv.c), .sl (Y0.Tr.map (cL (cI .i64)))], .mapN 2 (mapC Gedge.pr (cI .i64) (Y4 ++ [((Z0 Y0 Y1 Y5),[Y1])])) none, .vec 92 2 ((Yi ++ [(Z0 Y0 Y1 Y5)]).map Gedge.cells) false]⟩ from (by rw [X7y];simp [List.map_set,Gedge.cells])) (ih (Y5 + 1) (Y4 ++ [((Z0 Y0 Y1 Y5),[Y1])]) (Yi ++ [(Z0 Y0 Y1 Y5)]) (show 0≤(Y5 + 1) from (by omega)) (show ((Yi ++ [(Z0 Y0 Y1 Y5)]).length:Int)≤(Yd.length:Int) + (Y5 + 1) from (by simp only [List.length_append,List.length_cons,List.length_nil];omega)) (show ∀ y∈(Y4 ++ [((Z0 Y0 Y1 Y5),[Y1])]),(y.2.length:Int)≤3 * Y1 + (Y5 + 1) from (by exact X5P (by assumption) (by omega) (by omega))) (by omega))
  | false =>
   have YJ:=odf Yr
   have e:Z4 Y0 Y1 Ya Yd (k + 1) Y5 Y4 Yi=(Y4,Yi):=by simp only [Z4,Yr,cond_false]
   rw [e]
   exact outR (e:=(.exit 2)) E0Ok Z2 [] (mR false [0,2,1,5,2,1,1,8,37]) [0,1,2] (sB Yr<|sN) (by kernel_rfl) (by intro h;cases h)
end Go.Ab
