/- The functions of this seat as plain Lean, and that the program's are these. Printed by a program of the prover's own. -/
import Derived.Test.YtoibkmljibnjnaaB7
set_option linter.unusedVariables false
set_option linter.unusedSimpArgs false
set_option maxRecDepth 100000
namespace Go.Ab
open Go.RowKit Go.Proofs.Try
def Z2l (Y4:Gm):(List (List Int)):=(Z1m Y4 (((Y4.Tr.length:Int) - 0).toNat + 1) 0 ([]:List (List Int)))
def Z2E (Y4:Gm):Gm:=(⟨(([]:List Gv) ++ Y4.Pq),(Z2l Y4)⟩:Gm)
theorem Z7g (Y4:Gm) (hp0:Y4.Pq.length≤1073741824) (hp1:Y4.Tr.length≤1073741824) (hp2:∀ t∈Y4.Tr,t.length≤1073741824) (hp3:Xy Y4.Pq.length Y4.Tr)  : Fn prog 91 [.agg [.sl (Y4.Pq.map Gv.c), .sl (Y4.Tr.map (cL (cI .i64)))]] (.agg [.own 0, .own 1]) [.vec 32 3 (((Z2E Y4).Pq).map Gv.c) false, .nest 60 (((Z2E Y4).Tr).map fun l=>l.map (cI .i64)) false]:=by
 have y0:([]:List Gv).length + Y4.Pq.length≤1073741824:=(by simp_all<;>omega)
 refine fnS E0Ok Zg (c:=X2 f91) [] (.agg [.own 0, .own 1]) [.vec 32 3 (([]:List (List AV)) ++ (Y4.Pq.map Gv.c)) false, .nest 60 ((Z2l Y4).map fun l=>l.map (cI .i64)) false] func91 (sC (show ([]:List (List AV)).length + (Y4.Pq.map Gv.c).length≤1073741824 from (by simpa using y0))<|sC (show (Y4.Pq.map Gv.c).all (fun cs=>cs.length == 3 && cs.all isS)=true from (X3d (fun _=>rfl)))<|sZ (cL (cI .i64)) Y4.Tr<|sL (mR false [0,4,3,8,13]) 4 (Lp.nil (st:=⟨.agg [.sl (Y4.Pq.map Gv.c), .sl (Y4.Tr.map (cL (cI .i64)))] :: .ptr 0 0 0 :: .ptr 1 0 0 :: .ptr 3 0 0 :: .any :: .any :: .any :: .ptr 0 0 0 :: .sl (Y4.Pq.map Gv.c) :: .own 2 :: .agg [.own 2, .nils] :: .ptr 0 0 1 :: .sl (Y4.Tr.map (cL (cI .i64))) :: .i .i64 (Y4.Tr.length:Int) :: .i .i64 0 :: an 13 [],[.box 27 [.sl (Y4.Pq.map Gv.c), .sl (Y4.Tr.map (cL (cI .i64)))], .box 27 [.nils, .nils], .vec 32 3 (([]:List (List AV)) ++ (Y4.Pq.map Gv.c)) false, .box 27 [.own 2, .nils]]⟩) (st2:=⟨.agg [.sl (Y4.Pq.map Gv.c), .sl (Y4.Tr.map (cL (cI .i64)))] :: .ptr 0 0 0 :: .ptr 1 0 0 :: .ptr 3 0 0 :: .any :: .any :: .any :: .ptr 0 0 0 :: .sl (Y4.Pq.map Gv.c) :: .own 2 :: .agg [.own 2, .nils] :: .ptr 0 0 1 :: .sl (Y4.Tr.map (cL (cI .i64))) :: .i .i64 (Y4.Tr.length:Int) :: .i .i64 0 :: an 13 [],[.box 27 [.sl (Y4.Pq.map Gv.c), .sl (Y4.Tr.map (cL (cI .i64)))], .box 27 [.nils, .nils], .vec 32 3 (([]:List (List AV)) ++ (Y4.Pq.map Gv.c)) false, .box 27 [.own 2, .own 4], .nest 60 [] false]⟩) (ps:=[(.row 3 1, .nest 60 [] false)]) rfl (X13 (st2:=⟨.agg [.sl (Y4.Pq.map Gv.c), .sl (Y4.Tr.map (cL (cI .i64)))] :: .ptr 0 0 0 :: .ptr 1 0 0 :: .ptr 3 0 0 :: .any :: .any :: .any :: .ptr 0 0 0 :: .sl (Y4.Pq.map Gv.c) :: .own 2 :: .agg [.own 2, .nils] :: .ptr 0 0 1 :: .sl (Y4.Tr.map (cL (cI .i64))) :: .i .i64 (Y4.Tr.length:Int) :: .i .i64 0 :: an 13 [],[.box 27 [.sl (Y4.Pq.map Gv.c), .sl (Y4.Tr.map (cL (cI .i64)))], .box 27 [.nils, .nils], .vec 32 3 (([]:List (List AV)) ++ (Y4.Pq.map Gv.c)) false, .box 27 [.own 2, .own 4], .nest 60 [] false]⟩) (Xc (Z3s Y4) (x:=(Z2l Y4)) (Z6x Y4 hp0 hp1 hp2 hp3 (((Y4.Tr.length:Int) - 0).toNat + 1) 0 ([]:List (List Int)) (show 0≤0 from (by omega)) (show (([]:List (List Int)).length:Int)=0 from (by simp)) (Nat.lt_succ_self _)) rfl) (by simp [Z3t,Gv.c,cL,cI])))<|sK [3,4] sN) rfl (by kernel_rfl) (by kernel_rfl) rfl ?_ ?_
 · rfl
 · simp [Z2E,Gv.c]
@[simp] theorem Z85 (m:Gm):Z2E m=m:=by
  unfold Z2E Z2l
  rw [X1k (f:=fun i=>(m.Tr.getD i.toNat default)) (n:=(m.Tr.length:Int)) (lo:=Z1m m) (fun k i r=>rfl) _ _ _ (Nat.lt_succ_self _)]
  simp [X4e]
theorem Z5A (Y4:Gm) (hp0:Y4.Pq.length≤1073741824) (hp1:Y4.Tr.length≤1073741824) (hp2:∀ t∈Y4.Tr,t.length≤1073741824) (hp3:Xy Y4.Pq.length Y4.Tr):Fn prog 91 [.agg [.sl (Y4.Pq.map Gv.c), .sl (Y4.Tr.map (cL (cI .i64)))]] (.agg [.own 0, .own 1]) [.vec 32 3 (Y4.Pq.map Gv.c) false, .nest 60 (Y4.Tr.map fun l=>l.map (cI .i64)) false]:=by
 simpa only [Z85] using Z7g  Y4 hp0 hp1 hp2 hp3
def Z4 (Y4:Gm):Gb × Bool:=(cond (Zn Y4)
  ((⟨Y4,([]:List Gs),0,0,(List.replicate (Y4.Pq.length:Int).toNat 0),(⟨0,0,0⟩:Gv)⟩:Gb),true)
  ((⟨(⟨([]:List Gv),([]:List (List Int))⟩:Gm),([]:List Gs),0,0,([]:List Nat),(⟨0,0,0⟩:Gv)⟩:Gb),false))
theorem Z3Q (m:Gm):(Z4 m).1.Me.Pq.length≤m.Pq.length:=by
  unfold Z4
  cases Zn m<;>simp
theorem Z3R (m:Gm):(Z4 m).1.Me.Tr.length≤m.Tr.length:=by
  unfold Z4
  cases Zn m<;>simp
theorem Z3S (m:Gm):(Z4 m).1.We.length≤m.Pq.length:=by
  unfold Z4
  cases Zn m<;>simp
theorem Z5e (m:Gm):(Z4 m).1.Sp.length≤0:=by
  unfold Z4
  cases Zn m<;>simp
theorem Z5f (m:Gm):∀ t∈(Z4 m).1.Me.Tr,t∈m.Tr:=by
  unfold Z4
  cases Zn m<;>simp
theorem Z8K (m:Gm):(Z4 m).1.Sp=[]:=by
  unfold Z4;cases Zn m<;>rfl
theorem Z3u (m:Gm) (h:(Z4 m).2=true):Zn m=true:=by
  unfold Z4 at h
  cases hm:Zn m with
  | true=>rfl
  | false=>rw [hm] at h;cases h
theorem Z52 (m:Gm) (h:Zn m=true):Z4 m=(⟨m,[],0,0,List.replicate (m.Pq.length:Int).toNat 0,⟨0,0,0⟩⟩,true):=by
  unfold Z4;rw [h];rfl
theorem Z5B (Y4:Gm) (hp0:Y4.Pq.length≤1073741824) (hp1:Y4.Tr.length≤1073741824) (hp2:∀ t∈Y4.Tr,t.length≤1073741824)  : Fn prog 41 [.agg [.sl (Y4.Pq.map Gv.c), .sl (Y4.Tr.map (cL (cI .i64)))]] (.tup [.agg [.own 0, .own 1, .own 2, .f .f32 ((Z4 Y4).1.Film), .f .f32 ((Z4 Y4).1.Bend), .own 3, .f .f32 ((Z4 Y4).1.Fall.X), .f .f32 ((Z4 Y4).1.Fall.Y), .f .f32 ((Z4 Y4).1.Fall.Z)], .b ((Z4 Y4).2)]) [.vec 32 3 (((Z4 Y4).1.Me.Pq).map Gv.c) false, .nest 60 (((Z4 Y4).1.Me.Tr).map fun l=>l.map (cI .i64)) false, .vec 76 4 (((Z4 Y4).1.Sp).map Gs.c) false, .vec 29 1 (((Z4 Y4).1.We).map (cF .f32)) false]:=by
 have p {a C} (s:Scr a C):=sF (Z5v Y4 hp0 hp1 hp2)<|s
 cases h0:(Zn Y4) with
 | true =>
  have y0:Xy Y4.Pq.length Y4.Tr:=by clear p;exact (by exact (Z1O _ (by assumption)).tris)
  have y1:(0:Int)≤(Y4.Pq.length:Int):=by clear p;exact (by omega)
  have y2:((Y4.Pq.length:Int):Int)≤2147483648:=by clear p;exact (by omega)
  refine fnS E0Ok Zg (c:=X2 f41) [(.row 1 2, .vec 76 4 [] false)] (.tup [.agg [.own 0, .own 1, .own 2, .f .f32 0, .f .f32 0, .own 3, .f .f32 0, .f .f32 0, .f .f32 0], .b true]) [.vec 32 3 (Y4.Pq.map Gv.c) false, .nest 60 (Y4.Tr.map fun l=>l.map (cI .i64)) false, .vec 76 4 [] false, .vec 29 1 (List.replicate (Int.toNat (Y4.Pq.length:Int)) [.f .f32 0]) false] func41 (p (sB' h0<|sK [6,6]<|sF (Z5A Y4 hp0 hp1 hp2 y0)<|sZ Gv.c Y4.Pq<|sC (show (Y4.Pq.length:Int)=(Y4.Pq.length:Int) from rfl)<|sC y1<|sC y2<|sK [2,3,5,4] sN)) rfl (by kernel_rfl) (by kernel_rfl) rfl ?_ ?_
  · simp only [Z4,h0,cond_true]
  · simp [Z4,h0,Gs.c,cF]
 | false =>
  refine fnS E0Ok Zg (c:=X2 f41) [(.row 1 0, .vec 32 3 [] false),(.row 1 1, .nest 60 [] false),(.row 1 2, .vec 76 4 [] false),(.row 1 5, .vec 29 1 [] false)] (.tup [.agg [.own 0, .own 1, .own 2, .f .f32 0, .f .f32 0, .own 3, .f .f32 0, .f .f32 0, .f .f32 0], .b false]) [.vec 32 3 [] false, .nest 60 [] false, .vec 76 4 [] false, .vec 29 1 [] false] func41 (p (sB' h0<|sK [2,3,4,5] sN)) rfl (by kernel_rfl) (by kernel_rfl) rfl ?_ ?_
  · simp only [Z4,h0,cond_false]
  · simp [Z4,h0,Gv.c,cL,cI,Gs.c,cF]
theorem Z6Q (YH:Nat) (YI:Nat) (YJ:Nat) (Y0:(List Int)) (hp0:Y0.length≤1073741824)  : X9 prog 54 [.box 32 [.f .f32 YH, .f .f32 YI, .f .f32 YJ]] [.sl (Y0.map (cI .u8))] (.ptr 1 0 0) [.box 32 [.f .f32 YH, .f .f32 YI, .f .f32 YJ], .box 134 [.sl (((Z1 Y0).code).map (cI .u8)), .i .i64 ((Z1 Y0).at_), .i .u64 ((Z1 Y0).seed)]]:=by
 refine X8 (EpOk 1) Zg (c:=X2 f54) [.box 32 [.f .f32 YH, .f .f32 YI, .f .f32 YJ]] [] (.ptr 1 0 0) [.box 32 [.f .f32 YH, .f .f32 YI, .f .f32 YJ], .box 134 [.sl (Y0.map (cI .u8)), .i .i64 0, .i .u64 0]] func54 (sK [1] sN) rfl (by kernel_rfl) (by kernel_rfl) ?_ ?_
 · rfl
 · simp [Z1]
theorem Z3v (YH:Nat) (YI:Nat) (YJ:Nat) (Y6:Gl00Src) (hp0:Y6.code.length≤1073741824) (hp1:0≤Y6.at_) (hp2:Y6.at_≤1152921504606846976)  : X9 prog 99 [.box 32 [.f .f32 YH, .f .f32 YI, .f .f32 YJ], .box 134 [.sl (Y6.code.map (cI .u8)), .i .i64 Y6.at_, .i .u64 Y6.seed]] [.ptr 1 0 0] (.i .i64 ((Z3 Y6).1)) [.box 32 [.f .f32 YH, .f .f32 YI, .f .f32 YJ], .box 134 [.sl (Y6.code.map (cI .u8)), .i .i64 ((Z3 Y6).2.1), .i .u64 ((Z3 Y6).2.2)]]:=by
 have p {a C} (s:Scr a C):=sK [9,9]<|sZ (cI .u8) Y6.code<|s
 cases h0:(decide (Y6.at_ < (Y6.code.length:Int))) with
 | true =>
  have gh0:=odt h0
  have y0:(0:Int)≤Y6.at_:=by clear p;exact (by assumption)
  have y1:Y6.at_ < (Y6.code.length:Int):=by clear p;exact (by assumption)
  have q {a C} (s:Scr a C):=p (sB h0<|sK [8,8]<|sG (cI .u8) Y6.code Y6.at_ y0 y1<|sW .i64 (Y6.code.getD Y6.at_.toNat default)<|sW .i64 (Y6.at_ + 1)<|sW .u64 (Y6.seed * 6364136223846793005)<|sW .u64 (IntKind.wrap .i64 (Y6.code.getD Y6.at_.toNat default))<|sW .u64 ((IntKind.wrap .u64 (Y6.seed * 6364136223846793005)) + (IntKind.wrap .u64 (IntKind.wrap .i64 (Y6.code.getD Y6.at_.toNat default))))<|sM (show IntKind.wrap .u64 ((IntKind.wrap .u64 ((IntKind.wrap .u64 (Y6.seed * 6364136223846793005)) + (IntKind.wrap .u64 (IntKind.wrap .i64 (Y6.code.getD Y6.at_.toNat default))))) + 1442695040888963407)=(Zf Y6) from rfl)<|sK [9,9]<|sZ (cI .u8) Y6.code<|s)
  clear p
  cases h1:(decide ((IntKind.wrap .i64 (Y6.at_ + 1))≤(Y6.code.length:Int))) with
  | true =>
   have gh1:=odt h1
   refine X8 (EpOk 2) Zg (c:=X2 f99) [.box 32 [.f .f32 YH, .f .f32 YI, .f .f32 YJ], .box 134 [.sl (Y6.code.map (cI .u8)), .i .i64 Y6.at_, .i .u64 Y6.seed]] [] (.i .i64 (IntKind.wrap .i64 (Y6.code.getD Y6.at_.toNat default))) [.box 32 [.f .f32 YH, .f .f32 YI, .f .f32 YJ], .box 134 [.sl (Y6.code.map (cI .u8)), .i .i64 (IntKind.wrap .i64 (Y6.at_ + 1)), .i .u64 (Zf Y6)]] func99 (q (sB h1<|sK [] sN)) rfl (by kernel_rfl) (by kernel_rfl) ?_ ?_
   · simp only [Z3,h0,h1,cond_true]
   · simp [Z3,h0,h1]
  | false =>
   have gh1:=odf h1
   refine X8 (EpOk 2) Zg (c:=X2 f99) [.box 32 [.f .f32 YH, .f .f32 YI, .f .f32 YJ], .box 134 [.sl (Y6.code.map (cI .u8)), .i .i64 Y6.at_, .i .u64 Y6.seed]] [] (.i .i64 (IntKind.wrap .i64 (bitsOf .and .u64 (Int.fdiv (Zf Y6) (2 ^ (min (Int.toNat 40) (IntKind.bits .u64)))) 255))) [.box 32 [.f .f32 YH, .f .f32 YI, .f .f32 YJ], .box 134 [.sl (Y6.code.map (cI .u8)), .i .i64 (IntKind.wrap .i64 (Y6.at_ + 1)), .i .u64 (Zf Y6)]] func99 (q (sB h1<|sC (show (0:Int)≤40 from (by decide))<|sQ (Int.fdiv (Zf Y6) (2 ^ (min (Int.toNat 40) (IntKind.bits .u64))))<|sQ (bitsOf .and .u64 (Int.fdiv (Zf Y6) (2 ^ (min (Int.toNat 40) (IntKind.bits .u64)))) 255)<|sW .i64 (bitsOf .and .u64 (Int.fdiv (Zf Y6) (2 ^ (min (Int.toNat 40) (IntKind.bits .u64)))) 255)<|sK [] sN)) rfl (by kernel_rfl) (by kernel_rfl) ?_ ?_
   · simp only [Z3,h0,h1,cond_true,cond_false]
   · simp [Z3,h0,h1]
 | false =>
  have gh0:=odf h0
  have q {a C} (s:Scr a C):=p (sB h0<|sW .i64 (Y6.at_ + 1)<|sW .u64 (Y6.seed * 6364136223846793005)<|sM (show IntKind.wrap .u64 0=0 from rfl)<|sW .u64 ((IntKind.wrap .u64 (Y6.seed * 6364136223846793005)) + 0)<|sW .u64 ((IntKind.wrap .u64 ((IntKind.wrap .u64 (Y6.seed * 6364136223846793005)) + 0)) + 1442695040888963407)<|sK [9,9]<|sZ (cI .u8) Y6.code<|s)
  clear p
  cases h1:(decide ((IntKind.wrap .i64 (Y6.at_ + 1))≤(Y6.code.length:Int))) with
  | true =>
   have gh1:=odt h1
   refine X8 (EpOk 2) Zg (c:=X2 f99) [.box 32 [.f .f32 YH, .f .f32 YI, .f .f32 YJ], .box 134 [.sl (Y6.code.map (cI .u8)), .i .i64 Y6.at_, .i .u64 Y6.seed]] [] (.i .i64 0) [.box 32 [.f .f32 YH, .f .f32 YI, .f .f32 YJ], .box 134 [.sl (Y6.code.map (cI .u8)), .i .i64 (IntKind.wrap .i64 (Y6.at_ + 1)), .i .u64 (IntKind.wrap .u64 ((IntKind.wrap .u64 ((IntKind.wrap .u64 (Y6.seed * 6364136223846793005)) + 0)) + 1442695040888963407))]] func99 (q (sB h1<|sK [] sN)) rfl (by kernel_rfl) (by kernel_rfl) ?_ ?_
   · simp only [Z3,h0,h1,cond_true,cond_false]
   · simp [Z3,h0,h1]
  | false =>
   have gh1:=odf h1
   refine X8 (EpOk 2) Zg (c:=X2 f99) [.box 32 [.f .f32 YH, .f .f32 YI, .f .f32 YJ], .box 134 [.sl (Y6.code.map (cI .u8)), .i .i64 Y6.at_, .i .u64 Y6.seed]] [] (.i .i64 (IntKind.wrap .i64 (bitsOf .and .u64 (Int.fdiv (IntKind.wrap .u64 ((IntKind.wrap .u64 ((IntKind.wrap .u64 (Y6.seed * 6364136223846793005)) + 0)) + 1442695040888963407)) (2 ^ (min (Int.toNat 40) (IntKind.bits .u64)))) 255))) [.box 32 [.f .f32 YH, .f .f32 YI, .f .f32 YJ], .box 134 [.sl (Y6.code.map (cI .u8)), .i .i64 (IntKind.wrap .i64 (Y6.at_ + 1)), .i .u64 (IntKind.wrap .u64 ((IntKind.wrap .u64 ((IntKind.wrap .u64 (Y6.seed * 6364136223846793005)) + 0)) + 1442695040888963407))]] func99 (q (sB h1<|sC (show (0:Int)≤40 from (by decide))<|sQ (Int.fdiv (IntKind.wrap .u64 ((IntKind.wrap .u64 ((IntKind.wrap .u64 (Y6.seed * 6364136223846793005)) + 0)) + 1442695040888963407)) (2 ^ (min (Int.toNat 40) (IntKind.bits .u64))))<|sQ (bitsOf .and .u64 (Int.fdiv (IntKind.wrap .u64 ((IntKind.wrap .u64 ((IntKind.wrap .u64 (Y6.seed * 6364136223846793005)) + 0)) + 1442695040888963407)) (2 ^ (min (Int.toNat 40) (IntKind.bits .u64)))) 255)<|sW .i64 (bitsOf .and .u64 (Int.fdiv (IntKind.wrap .u64 ((IntKind.wrap .u64 ((IntKind.wrap .u64 (Y6.seed * 6364136223846793005)) + 0)) + 1442695040888963407)) (2 ^ (min (Int.toNat 40) (IntKind.bits .u64)))) 255)<|sK [] sN)) rfl (by kernel_rfl) (by kernel_rfl) ?_ ?_
   · simp only [Z3,h0,h1,cond_false]
   · simp [Z3,h0,h1]
theorem Z5x (YH:Nat) (YI:Nat) (YJ:Nat) (Y6:Gl00Src) (YK:Int) (hp0:Y6.code.length≤1073741824) (hp1:0≤Y6.at_) (hp2:Y6.at_≤1152921504606846970)  : X9 prog 55 [.box 32 [.f .f32 YH, .f .f32 YI, .f .f32 YJ], .box 134 [.sl (Y6.code.map (cI .u8)), .i .i64 Y6.at_, .i .u64 Y6.seed]] [.ptr 1 0 0, .i .i64 YK] (.i .i64 ((Z0 Y6 YK).1)) [.box 32 [.f .f32 YH, .f .f32 YI, .f .f32 YJ], .box 134 [.sl (Y6.code.map (cI .u8)), .i .i64 ((Z0 Y6 YK).2.1), .i .u64 ((Z0 Y6 YK).2.2)]]:=by
 cases h0:(decide (YK≤1)) with
 | true =>
  have gh0:=odt h0
  refine X8 (EpOk 2) Zg (c:=X2 f55) [.box 32 [.f .f32 YH, .f .f32 YI, .f .f32 YJ], .box 134 [.sl (Y6.code.map (cI .u8)), .i .i64 Y6.at_, .i .u64 Y6.seed]] [] (.i .i64 0) [.box 32 [.f .f32 YH, .f .f32 YI, .f .f32 YJ], .box 134 [.sl (Y6.code.map (cI .u8)), .i .i64 Y6.at_, .i .u64 Y6.seed]] func55 (sB h0<|sK [] sN) rfl (by kernel_rfl) (by kernel_rfl) ?_ ?_
  · simp only [Z0,h0,cond_true]
  · simp [Z0,h0]
 | false =>
  have gh0:=odf h0
  have y0:Y6.at_≤1152921504606846976:=(by omega)
  have l1:=(Z21 Y6)
  have p {a C} (s:Scr a C):=sB h0<|sS (Z3v YH YI YJ Y6 hp0 hp1 y0)<|s
  cases h1:(decide (YK > 200)) with
  | true =>
   have gh1:=odt h1
   have y1:(⟨Y6.code,(Z3 Y6).2.1,(Z3 Y6).2.2⟩:Gl00Src).code.length≤1073741824:=by clear p;exact (by assumption)
   have y2:0≤(⟨Y6.code,(Z3 Y6).2.1,(Z3 Y6).2.2⟩:Gl00Src).at_:=by clear p;exact (by simp_all<;>omega)
   have y3:(⟨Y6.code,(Z3 Y6).2.1,(Z3 Y6).2.2⟩:Gl00Src).at_≤1152921504606846976:=by clear p;exact (by simp_all<;>omega)
   have l2:=(Z21 (⟨Y6.code,(Z3 Y6).2.1,(Z3 Y6).2.2⟩:Gl00Src))
   have y4:YK≠0:=by clear p;exact (by omega)
   refine X8 (EpOk 2) Zg (c:=X2 f55) [.box 32 [.f .f32 YH, .f .f32 YI, .f .f32 YJ], .box 134 [.sl (Y6.code.map (cI .u8)), .i .i64 Y6.at_, .i .u64 Y6.seed]] [] (.i .i64 (Int.tmod (Zp Y6) YK)) [.box 32 [.f .f32 YH, .f .f32 YI, .f .f32 YJ], .box 134 [.sl (Y6.code.map (cI .u8)), .i .i64 ((Z3 (⟨Y6.code,(Z3 Y6).2.1,(Z3 Y6).2.2⟩:Gl00Src)).2.1), .i .u64 ((Z3 (⟨Y6.code,(Z3 Y6).2.1,(Z3 Y6).2.2⟩:Gl00Src)).2.2)]] func55 (p (sB h1<|sW .i64 ((Z3 Y6).1 * 256)<|sS (Z3v YH YI YJ (⟨Y6.code,(Z3 Y6).2.1,(Z3 Y6).2.2⟩:Gl00Src) y1 y2 y3)<|sM (show IntKind.wrap .i64 ((IntKind.wrap .i64 ((Z3 Y6).1 * 256)) + (Z3 (⟨Y6.code,(Z3 Y6).2.1,(Z3 Y6).2.2⟩:Gl00Src)).1)=(Zp Y6) from rfl)<|sC y4<|sQ (Int.tmod (Zp Y6) YK)<|sK [] sN)) rfl (by kernel_rfl) (by kernel_rfl) ?_ ?_
   · simp only [Z0,h0,h1,cond_true,cond_false]
   · simp [Z0,h0,h1]
  | false =>
   have gh1:=odf h1
   have y1:YK≠0:=by clear p;exact (by omega)
   refine X8 (EpOk 2) Zg (c:=X2 f55) [.box 32 [.f .f32 YH, .f .f32 YI, .f .f32 YJ], .box 134 [.sl (Y6.code.map (cI .u8)), .i .i64 Y6.at_, .i .u64 Y6.seed]] [] (.i .i64 (Int.tmod ((Z3 Y6).1) YK)) [.box 32 [.f .f32 YH, .f .f32 YI, .f .f32 YJ], .box 134 [.sl (Y6.code.map (cI .u8)), .i .i64 ((Z3 Y6).2.1), .i .u64 ((Z3 Y6).2.2)]] func55 (p (sB h1<|sC y1<|sQ (Int.tmod ((Z3 Y6).1) YK)<|sK [] sN)) rfl (by kernel_rfl) (by kernel_rfl) ?_ ?_
   · simp only [Z0,h0,h1,cond_false]
   · simp [Z0,h0,h1]
theorem Z3w (YH:Nat) (YI:Nat) (YJ:Nat) (Y1a:Nat) (Y1b:Nat) (Y1c:Nat) (Y6:Gl00Src) (hp0:Y6.code.length≤1073741824) (hp1:0≤Y6.at_) (hp2:Y6.at_≤1152921504606846976)  : X9 prog 99 [.box 32 [.f .f32 YH, .f .f32 YI, .f .f32 YJ], .box 134 [.sl (Y6.code.map (cI .u8)), .i .i64 Y6.at_, .i .u64 Y6.seed], .box 32 [.f .f32 Y1a, .f .f32 Y1b, .f .f32 Y1c]] [.ptr 1 0 0] (.i .i64 ((Z3 Y6).1)) [.box 32 [.f .f32 YH, .f .f32 YI, .f .f32 YJ], .box 134 [.sl (Y6.code.map (cI .u8)), .i .i64 ((Z3 Y6).2.1), .i .u64 ((Z3 Y6).2.2)], .box 32 [.f .f32 Y1a, .f .f32 Y1b, .f .f32 Y1c]]:=by
 have p {a C} (s:Scr a C):=sK [9,9]<|sZ (cI .u8) Y6.code<|s
 cases h0:(decide (Y6.at_ < (Y6.code.length:Int))) with
 | true =>
  have gh0:=odt h0
  have y0:(0:Int)≤Y6.at_:=by clear p;exact (by assumption)
  have y1:Y6.at_ < (Y6.code.length:Int):=by clear p;exact (by assumption)
  have q {a C} (s:Scr a C):=p (sB h0<|sK [8,8]<|sG (cI .u8) Y6.code Y6.at_ y0 y1<|sW .i64 (Y6.code.getD Y6.at_.toNat default)<|sW .i64 (Y6.at_ + 1)<|sW .u64 (Y6.seed * 6364136223846793005)<|sW .u64 (IntKind.wrap .i64 (Y6.code.getD Y6.at_.toNat default))<|sW .u64 ((IntKind.wrap .u64 (Y6.seed * 6364136223846793005)) + (IntKind.wrap .u64 (IntKind.wrap .i64 (Y6.code.getD Y6.at_.toNat default))))<|sM (show IntKind.wrap .u64 ((IntKind.wrap .u64 ((IntKind.wrap .u64 (Y6.seed * 6364136223846793005)) + (IntKind.wrap .u64 (IntKind.wrap .i64 (Y6.code.getD Y6.at_.toNat default))))) + 1442695040888963407)=(Zf Y6) from rfl)<|sK [9,9]<|sZ (cI .u8) Y6.code<|s)
  clear p
  cases h1:(decide ((IntKind.wrap .i64 (Y6.at_ + 1))≤(Y6.code.length:Int))) with
  | true =>
   have gh1:=odt h1
   refine X8 (EpOk 3) Zg (c:=X2 f99) [.box 32 [.f .f32 YH, .f .f32 YI, .f .f32 YJ], .box 134 [.sl (Y6.code.map (cI .u8)), .i .i64 Y6.at_, .i .u64 Y6.seed], .box 32 [.f .f32 Y1a, .f .f32 Y1b, .f .f32 Y1c]] [] (.i .i64 (IntKind.wrap .i64 (Y6.code.getD Y6.at_.toNat default))) [.box 32 [.f .f32 YH, .f .f32 YI, .f .f32 YJ], .box 134 [.sl (Y6.code.map (cI .u8)), .i .i64 (IntKind.wrap .i64 (Y6.at_ + 1)), .i .u64 (Zf Y6)], .box 32 [.f .f32 Y1a, .f .f32 Y1b, .f .f32 Y1c]] func99 (q (sB h1<|sK [] sN)) rfl (by kernel_rfl) (by kernel_rfl) ?_ ?_
   · simp only [Z3,h0,h1,cond_true]
   · simp [Z3,h0,h1]
  | false =>
   have gh1:=odf h1
   refine X8 (EpOk 3) Zg (c:=X2 f99) [.box 32 [.f .f32 YH, .f .f32 YI, .f .f32 YJ], .box 134 [.sl (Y6.code.map (cI .u8)), .i .i64 Y6.at_, .i .u64 Y6.seed], .box 32 [.f .f32 Y1a, .f .f32 Y1b, .f .f32 Y1c]] [] (.i .i64 (IntKind.wrap .i64 (bitsOf .and .u64 (Int.fdiv (Zf Y6) (2 ^ (min (Int.toNat 40) (IntKind.bits .u64)))) 255))) [.box 32 [.f .f32 YH, .f .f32 YI, .f .f32 YJ], .box 134 [.sl (Y6.code.map (cI .u8)), .i .i64 (IntKind.wrap .i64 (Y6.at_ + 1)), .i .u64 (Zf Y6)], .box 32 [.f .f32 Y1a, .f .f32 Y1b, .f .f32 Y1c]] func99 (q (sB h1<|sC (show (0:Int)≤40 from (by decide))<|sQ (Int.fdiv (Zf Y6) (2 ^ (min (Int.toNat 40) (IntKind.bits .u64))))<|sQ (bitsOf .and .u64 (Int.fdiv (Zf Y6) (2 ^ (min (Int.toNat 40) (IntKind.bits .u64)))) 255)<|sW .i64 (bitsOf .and .u64 (Int.fdiv (Zf Y6) (2 ^ (min (Int.toNat 40) (IntKind.bits .u64)))) 255)<|sK [] sN)) rfl (by kernel_rfl) (by kernel_rfl) ?_ ?_
   · simp only [Z3,h0,h1,cond_true,cond_false]
   · simp [Z3,h0,h1]
 | false =>
  have gh0:=odf h0
  have q {a C} (s:Scr a C):=p (sB h0<|sW .i64 (Y6.at_ + 1)<|sW .u64 (Y6.seed * 6364136223846793005)<|sM (show IntKind.wrap .u64 0=0 from rfl)<|sW .u64 ((IntKind.wrap .u64 (Y6.seed * 6364136223846793005)) + 0)<|sW .u64 ((IntKind.wrap .u64 ((IntKind.wrap .u64 (Y6.seed * 6364136223846793005)) + 0)) + 1442695040888963407)<|sK [9,9]<|sZ (cI .u8) Y6.code<|s)
  clear p
  cases h1:(decide ((IntKind.wrap .i64 (Y6.at_ + 1))≤(Y6.code.length:Int))) with
  | true =>
   have gh1:=odt h1
   refine X8 (EpOk 3) Zg (c:=X2 f99) [.box 32 [.f .f32 YH, .f .f32 YI, .f .f32 YJ], .box 134 [.sl (Y6.code.map (cI .u8)), .i .i64 Y6.at_, .i .u64 Y6.seed], .box 32 [.f .f32 Y1a, .f .f32 Y1b, .f .f32 Y1c]] [] (.i .i64 0) [.box 32 [.f .f32 YH, .f .f32 YI, .f .f32 YJ], .box 134 [.sl (Y6.code.map (cI .u8)), .i .i64 (IntKind.wrap .i64 (Y6.at_ + 1)), .i .u64 (IntKind.wrap .u64 ((IntKind.wrap .u64 ((IntKind.wrap .u64 (Y6.seed * 6364136223846793005)) + 0)) + 1442695040888963407))], .box 32 [.f .f32 Y1a, .f .f32 Y1b, .f .f32 Y1c]] func99 (q (sB h1<|sK [] sN)) rfl (by kernel_rfl) (by kernel_rfl) ?_ ?_
   · simp only [Z3,h0,h1,cond_true,cond_false]
   · simp [Z3,h0,h1]
  | false =>
   have gh1:=odf h1
   refine X8 (EpOk 3) Zg (c:=X2 f99) [.box 32 [.f .f32 YH, .f .f32 YI, .f .f32 YJ], .box 134 [.sl (Y6.code.map (cI .u8)), .i .i64 Y6.at_, .i .u64 Y6.seed], .box 32 [.f .f32 Y1a, .f .f32 Y1b, .f .f32 Y1c]] [] (.i .i64 (IntKind.wrap .i64 (bitsOf .and .u64 (Int.fdiv (IntKind.wrap .u64 ((IntKind.wrap .u64 ((IntKind.wrap .u64 (Y6.seed * 6364136223846793005)) + 0)) + 1442695040888963407)) (2 ^ (min (Int.toNat 40) (IntKind.bits .u64)))) 255))) [.box 32 [.f .f32 YH, .f .f32 YI, .f .f32 YJ], .box 134 [.sl (Y6.code.map (cI .u8)), .i .i64 (IntKind.wrap .i64 (Y6.at_ + 1)), .i .u64 (IntKind.wrap .u64 ((IntKind.wrap .u64 ((IntKind.wrap .u64 (Y6.seed * 6364136223846793005)) + 0)) + 1442695040888963407))], .box 32 [.f .f32 Y1a, .f .f32 Y1b, .f .f32 Y1c]] func99 (q (sB h1<|sC (show (0:Int)≤40 from (by decide))<|sQ (Int.fdiv (IntKind.wrap .u64 ((IntKind.wrap .u64 ((IntKind.wrap .u64 (Y6.seed * 6364136223846793005)) + 0)) + 1442695040888963407)) (2 ^ (min (Int.toNat 40) (IntKind.bits .u64))))<|sQ (bitsOf .and .u64 (Int.fdiv (IntKind.wrap .u64 ((IntKind.wrap .u64 ((IntKind.wrap .u64 (Y6.seed * 6364136223846793005)) + 0)) + 1442695040888963407)) (2 ^ (min (Int.toNat 40) (IntKind.bits .u64)))) 255)<|sW .i64 (bitsOf .and .u64 (Int.fdiv (IntKind.wrap .u64 ((IntKind.wrap .u64 ((IntKind.wrap .u64 (Y6.seed * 6364136223846793005)) + 0)) + 1442695040888963407)) (2 ^ (min (Int.toNat 40) (IntKind.bits .u64)))) 255)<|sK [] sN)) rfl (by kernel_rfl) (by kernel_rfl) ?_ ?_
   · simp only [Z3,h0,h1,cond_false]
   · simp [Z3,h0,h1]
theorem Z3x (YH:Nat) (YI:Nat) (YJ:Nat) (Y1a:Nat) (Y1b:Nat) (Y1c:Nat) (Y6:Gl00Src) (YK:Int) (hp0:Y6.code.length≤1073741824) (hp1:0≤Y6.at_) (hp2:Y6.at_≤1152921504606846970)  : X9 prog 55 [.box 32 [.f .f32 YH, .f .f32 YI, .f .f32 YJ], .box 134 [.sl (Y6.code.map (cI .u8)), .i .i64 Y6.at_, .i .u64 Y6.seed], .box 32 [.f .f32 Y1a, .f .f32 Y1b, .f .f32 Y1c]] [.ptr 1 0 0, .i .i64 YK] (.i .i64 ((Z0 Y6 YK).1)) [.box 32 [.f .f32 YH, .f .f32 YI, .f .f32 YJ], .box 134 [.sl (Y6.code.map (cI .u8)), .i .i64 ((Z0 Y6 YK).2.1), .i .u64 ((Z0 Y6 YK).2.2)], .box 32 [.f .f32 Y1a, .f .f32 Y1b, .f .f32 Y1c]]:=by
 cases h0:(decide (YK≤1)) with
 | true =>
  have gh0:=odt h0
  refine X8 (EpOk 3) Zg (c:=X2 f55) [.box 32 [.f .f32 YH, .f .f32 YI, .f .f32 YJ], .box 134 [.sl (Y6.code.map (cI .u8)), .i .i64 Y6.at_, .i .u64 Y6.seed], .box 32 [.f .f32 Y1a, .f .f32 Y1b, .f .f32 Y1c]] [] (.i .i64 0) [.box 32 [.f .f32 YH, .f .f32 YI, .f .f32 YJ], .box 134 [.sl (Y6.code.map (cI .u8)), .i .i64 Y6.at_, .i .u64 Y6.seed], .box 32 [.f .f32 Y1a, .f .f32 Y1b, .f .f32 Y1c]] func55 (sB h0<|sK [] sN) rfl (by kernel_rfl) (by kernel_rfl) ?_ ?_
  · simp only [Z0,h0,cond_true]
  · simp [Z0,h0]
 | false =>
  have gh0:=odf h0
  have y0:Y6.at_≤1152921504606846976:=(by omega)
  have l1:=(Z21 Y6)
  have p {a C} (s:Scr a C):=sB h0<|sS (Z3w YH YI YJ Y1a Y1b Y1c Y6 hp0 hp1 y0)<|s
  cases h1:(decide (YK > 200)) with
  | true =>
   have gh1:=odt h1
   have y1:(⟨Y6.code,(Z3 Y6).2.1,(Z3 Y6).2.2⟩:Gl00Src).code.length≤1073741824:=by clear p;exact (by assumption)
   have y2:0≤(⟨Y6.code,(Z3 Y6).2.1,(Z3 Y6).2.2⟩:Gl00Src).at_:=by clear p;exact (by simp_all<;>omega)
   have y3:(⟨Y6.code,(Z3 Y6).2.1,(Z3 Y6).2.2⟩:Gl00Src).at_≤1152921504606846976:=by clear p;exact (by simp_all<;>omega)
   have l2:=(Z21 (⟨Y6.code,(Z3 Y6).2.1,(Z3 Y6).2.2⟩:Gl00Src))
   have y4:YK≠0:=by clear p;exact (by omega)
   refine X8 (EpOk 3) Zg (c:=X2 f55) [.box 32 [.f .f32 YH, .f .f32 YI, .f .f32 YJ], .box 134 [.sl (Y6.code.map (cI .u8)), .i .i64 Y6.at_, .i .u64 Y6.seed], .box 32 [.f .f32 Y1a, .f .f32 Y1b, .f .f32 Y1c]] [] (.i .i64 (Int.tmod (Zp Y6) YK)) [.box 32 [.f .f32 YH, .f .f32 YI, .f .f32 YJ], .box 134 [.sl (Y6.code.map (cI .u8)), .i .i64 ((Z3 (⟨Y6.code,(Z3 Y6).2.1,(Z3 Y6).2.2⟩:Gl00Src)).2.1), .i .u64 ((Z3 (⟨Y6.code,(Z3 Y6).2.1,(Z3 Y6).2.2⟩:Gl00Src)).2.2)], .box 32 [.f .f32 Y1a, .f .f32 Y1b, .f .f32 Y1c]] func55 (p (sB h1<|sW .i64 ((Z3 Y6).1 * 256)<|sS (Z3w YH YI YJ Y1a Y1b Y1c (⟨Y6.code,(Z3 Y6).2.1,(Z3 Y6).2.2⟩:Gl00Src) y1 y2 y3)<|sM (show IntKind.wrap .i64 ((IntKind.wrap .i64 ((Z3 Y6).1 * 256)) + (Z3 (⟨Y6.code,(Z3 Y6).2.1,(Z3 Y6).2.2⟩:Gl00Src)).1)=(Zp Y6) from rfl)<|sC y4<|sQ (Int.tmod (Zp Y6) YK)<|sK [] sN)) rfl (by kernel_rfl) (by kernel_rfl) ?_ ?_
   · simp only [Z0,h0,h1,cond_true,cond_false]
   · simp [Z0,h0,h1]
  | false =>
   have gh1:=odf h1
   have y1:YK≠0:=by clear p;exact (by omega)
   refine X8 (EpOk 3) Zg (c:=X2 f55) [.box 32 [.f .f32 YH, .f .f32 YI, .f .f32 YJ], .box 134 [.sl (Y6.code.map (cI .u8)), .i .i64 Y6.at_, .i .u64 Y6.seed], .box 32 [.f .f32 Y1a, .f .f32 Y1b, .f .f32 Y1c]] [] (.i .i64 (Int.tmod ((Z3 Y6).1) YK)) [.box 32 [.f .f32 YH, .f .f32 YI, .f .f32 YJ], .box 134 [.sl (Y6.code.map (cI .u8)), .i .i64 ((Z3 Y6).2.1), .i .u64 ((Z3 Y6).2.2)], .box 32 [.f .f32 Y1a, .f .f32 Y1b, .f .f32 Y1c]] func55 (p (sB h1<|sC y1<|sQ (Int.tmod ((Z3 Y6).1) YK)<|sK [] sN)) rfl (by kernel_rfl) (by kernel_rfl) ?_ ?_
   · simp only [Z0,h0,h1,cond_false]
   · simp [Z0,h0,h1]
def ZB (Y0:(List Int)) (Yf:Int):Int × Int × Int:=(Z0 (⟨(Z1 Y0).code,(Z0 (Z1 Y0) (IntKind.wrap .i64 ((IntKind.wrap .i64 (2 * Yf)) + 1))).2.1,(Z0 (Z1 Y0) (IntKind.wrap .i64 ((IntKind.wrap .i64 (2 * Yf)) + 1))).2.2⟩:Gl00Src) (IntKind.wrap .i64 ((IntKind.wrap .i64 (2 * Yf)) + 1)))
def Z2z (Y0:(List Int)) (Yf:Int):Int × Int × Int:=(Z0 (⟨(Z1 Y0).code,(ZB Y0 Yf).2.1,(ZB Y0 Yf).2.2⟩:Gl00Src) (IntKind.wrap .i64 ((IntKind.wrap .i64 (2 * Yf)) + 1)))
def Zk (Y0:(List Int)) (Yf:Int):Gv:=(⟨(X3 .f32 (IntKind.wrap .i64 ((Z0 (Z1 Y0) (IntKind.wrap .i64 ((IntKind.wrap .i64 (2 * Yf)) + 1))).1 - Yf))),(X3 .f32 (IntKind.wrap .i64 ((ZB Y0 Yf).1 - Yf))),(X3 .f32 (IntKind.wrap .i64 ((Z2z Y0 Yf).1 - Yf)))⟩:Gv)
set_option maxHeartbeats 1000000 in
theorem Z75 (Y0:(List Int)) (Yf:Int) (hp0:Y0.length≤1073741824)  : Fn prog 42 [.sl (Y0.map (cI .u8)), .i .i64 Yf] (.agg [.f .f32 ((Zk Y0 Yf).X), .f .f32 ((Zk Y0 Yf).Y), .f .f32 ((Zk Y0 Yf).Z)]) []:=by
 have y0:(Z1 Y0).code.length≤1073741824:=(by assumption)
 have y1:0≤(Z1 Y0).at_:=(by exact Int.le_refl 0)
 have y2:(Z1 Y0).at_≤1152921504606846970:=(by rw [Z5G];decide)
 have l1:=(Z14 (Z1 Y0) (IntKind.wrap .i64 ((IntKind.wrap .i64 (2 * Yf)) + 1)))
 have y3:(⟨(Z1 Y0).code,(Z0 (Z1 Y0) (IntKind.wrap .i64 ((IntKind.wrap .i64 (2 * Yf)) + 1))).2.1,(Z0 (Z1 Y0) (IntKind.wrap .i64 ((IntKind.wrap .i64 (2 * Yf)) + 1))).2.2⟩:Gl00Src).code.length≤1073741824:=(by assumption)
 have y4:0≤(⟨(Z1 Y0).code,(Z0 (Z1 Y0) (IntKind.wrap .i64 ((IntKind.wrap .i64 (2 * Yf)) + 1))).2.1,(Z0 (Z1 Y0) (IntKind.wrap .i64 ((IntKind.wrap .i64 (2 * Yf)) + 1))).2.2⟩:Gl00Src).at_:=(by (have z:=Z5G Y0;have z1:=Z14 (Z1 Y0) (IntKind.wrap .i64 ((IntKind.wrap .i64 (2 * Yf)) + 1));rw [z] at z1;(show (0:Int)≤(Z0 (Z1 Y0) (IntKind.wrap .i64 ((IntKind.wrap .i64 (2 * Yf)) + 1))).2.1;omega)))
 have y5:(⟨(Z1 Y0).code,(Z0 (Z1 Y0) (IntKind.wrap .i64 ((IntKind.wrap .i64 (2 * Yf)) + 1))).2.1,(Z0 (Z1 Y0) (IntKind.wrap .i64 ((IntKind.wrap .i64 (2 * Yf)) + 1))).2.2⟩:Gl00Src).at_≤1152921504606846970:=(by (have z:=Z5G Y0;have z1:=Z14 (Z1 Y0) (IntKind.wrap .i64 ((IntKind.wrap .i64 (2 * Yf)) + 1));rw [z] at z1;(show (Z0 (Z1 Y0) (IntKind.wrap .i64 ((IntKind.wrap .i64 (2 * Yf)) + 1))).2.1≤_;omega)))
 have l2:=(Z14 (⟨(Z1 Y0).code,(Z0 (Z1 Y0) (IntKind.wrap .i64 ((IntKind.wrap .i64 (2 * Yf)) + 1))).2.1,(Z0 (Z1 Y0) (IntKind.wrap .i64 ((IntKind.wrap .i64 (2 * Yf)) + 1))).2.2⟩:Gl00Src) (IntKind.wrap .i64 ((IntKind.wrap .i64 (2 * Yf)) + 1)))
 have y6:(⟨(Z1 Y0).code,(ZB Y0 Yf).2.1,(ZB Y0 Yf).2.2⟩:Gl00Src).code.length≤1073741824:=(by assumption)
 have y7:0≤(⟨(Z1 Y0).code,(ZB Y0 Yf).2.1,(ZB Y0 Yf).2.2⟩:Gl00Src).at_:=(by (have z:=Z5G Y0;have z1:=Z14 (Z1 Y0) (IntKind.wrap .i64 ((IntKind.wrap .i64 (2 * Yf)) + 1));rw [z] at z1;(have z2:=Z14 (⟨(Z1 Y0).code,(Z0 (Z1 Y0) (IntKind.wrap .i64 ((IntKind.wrap .i64 (2 * Yf)) + 1))).2.1,(Z0 (Z1 Y0) (IntKind.wrap .i64 ((IntKind.wrap .i64 (2 * Yf)) + 1))).2.2⟩:Gl00Src) (IntKind.wrap .i64 ((IntKind.wrap .i64 (2 * Yf)) + 1));(try dsimp only at *);(show (0:Int)≤(ZB Y0 Yf).2.1;unfold ZB;omega))))
 have y8:(⟨(Z1 Y0).code,(ZB Y0 Yf).2.1,(ZB Y0 Yf).2.2⟩:Gl00Src).at_≤1152921504606846970:=(by (have z:=Z5G Y0;have z1:=Z14 (Z1 Y0) (IntKind.wrap .i64 ((IntKind.wrap .i64 (2 * Yf)) + 1));rw [z] at z1;(have z2:=Z14 (⟨(Z1 Y0).code,(Z0 (Z1 Y0) (IntKind.wrap .i64 ((IntKind.wrap .i64 (2 * Yf)) + 1))).2.1,(Z0 (Z1 Y0) (IntKind.wrap .i64 ((IntKind.wrap .i64 (2 * Yf)) + 1))).2.2⟩:Gl00Src) (IntKind.wrap .i64 ((IntKind.wrap .i64 (2 * Yf)) + 1));(try dsimp only at *);(show (ZB Y0 Yf).2.1≤_;unfold ZB;omega))))
 have l3:=(Z14 (⟨(Z1 Y0).code,(ZB Y0 Yf).2.1,(ZB Y0 Yf).2.2⟩:Gl00Src) (IntKind.wrap .i64 ((IntKind.wrap .i64 (2 * Yf)) + 1)))
 refine fnS E0Ok Zg (c:=X2 f42) [] (.agg [.f .f32 (X3 .f32 (IntKind.wrap .i64 ((Z0 (Z1 Y0) (IntKind.wrap .i64 ((IntKind.wrap .i64 (2 * Yf)) + 1))).1 - Yf))), .f .f32 (X3 .f32 (IntKind.wrap .i64 ((ZB Y0 Yf).1 - Yf))), .f .f32 (X3 .f32 (IntKind.wrap .i64 ((Z2z Y0 Yf).1 - Yf)))]) [] func42 (sS (Z6Q 0 0 0 Y0 hp0)<|sW .i64 (2 * Yf)<|sW .i64 ((IntKind.wrap .i64 (2 * Yf)) + 1)<|sS (Z5x 0 0 0 (Z1 Y0) (IntKind.wrap .i64 ((IntKind.wrap .i64 (2 * Yf)) + 1)) y0 y1 y2)<|sW .i64 ((Z0 (Z1 Y0) (IntKind.wrap .i64 ((IntKind.wrap .i64 (2 * Yf)) + 1))).1 - Yf)<|sW .i64 (2 * Yf)<|sW .i64 ((IntKind.wrap .i64 (2 * Yf)) + 1)<|sS (Z3x 0 0 0 (X3 .f32 (IntKind.wrap .i64 ((Z0 (Z1 Y0) (IntKind.wrap .i64 ((IntKind.wrap .i64 (2 * Yf)) + 1))).1 - Yf))) 0 0 (⟨(Z1 Y0).code,(Z0 (Z1 Y0) (IntKind.wrap .i64 ((IntKind.wrap .i64 (2 * Yf)) + 1))).2.1,(Z0 (Z1 Y0) (IntKind.wrap .i64 ((IntKind.wrap .i64 (2 * Yf)) + 1))).2.2⟩:Gl00Src) (IntKind.wrap .i64 ((IntKind.wrap .i64 (2 * Yf)) + 1)) y3 y4 y5)<|sW .i64 ((ZB Y0 Yf).1 - Yf)<|sW .i64 (2 * Yf)<|sW .i64 ((IntKind.wrap .i64 (2 * Yf)) + 1)<|sS (Z3x 0 0 0 (X3 .f32 (IntKind.wrap .i64 ((Z0 (Z1 Y0) (IntKind.wrap .i64 ((IntKind.wrap .i64 (2 * Yf)) + 1))).1 - Yf))) (X3 .f32 (IntKind.wrap .i64 ((ZB Y0 Yf).1 - Yf))) 0 (⟨(Z1 Y0).code,(ZB Y0 Yf).2.1,(ZB Y0 Yf).2.2⟩:Gl00Src) (IntKind.wrap .i64 ((IntKind.wrap .i64 (2 * Yf)) + 1)) y6 y7 y8)<|sW .i64 ((Z2z Y0 Yf).1 - Yf)<|sK [] sN) rfl (by kernel_rfl) (by kernel_rfl) rfl ?_ ?_
 · rfl
 · rfl
def Z1o (Y5:Gb):Gb:=(⟨Y5.Me,(([]:List Gs) ++ Y5.Sp),Y5.Film,Y5.Bend,(([]:List Nat) ++ Y5.We),Y5.Fall⟩:Gb)
theorem Z7h (Y5:Gb) (hp0:Y5.Me.Pq.length≤1073741824) (hp1:Y5.Me.Tr.length≤1073741824) (hp2:∀ t∈Y5.Me.Tr,t.length≤1073741824) (hp3:Y5.Sp.length≤1073741824) (hp4:Y5.We.length≤1073741824) (hp5:Xy Y5.Me.Pq.length Y5.Me.Tr)  : Fn prog 107 [.agg [.sl (Y5.Me.Pq.map Gv.c), .sl (Y5.Me.Tr.map (cL (cI .i64))), .sl (Y5.Sp.map Gs.c), .f .f32 Y5.Film, .f .f32 Y5.Bend, .sl (Y5.We.map (cF .f32)), .f .f32 Y5.Fall.X, .f .f32 Y5.Fall.Y, .f .f32 Y5.Fall.Z]] (.agg [.own 0, .own 1, .own 2, .f .f32 ((Z1o Y5).Film), .f .f32 ((Z1o Y5).Bend), .own 3, .f .f32 ((Z1o Y5).Fall.X), .f .f32 ((Z1o Y5).Fall.Y), .f .f32 ((Z1o Y5).Fall.Z)]) [.vec 32 3 (((Z1o Y5).Me.Pq).map Gv.c) false, .nest 60 (((Z1o Y5).Me.Tr).map fun l=>l.map (cI .i64)) false, .vec 76 4 (((Z1o Y5).Sp).map Gs.c) false, .vec 29 1 (((Z1o Y5).We).map (cF .f32)) false]:=by
 have y0:([]:List Gs).length + Y5.Sp.length≤1073741824:=(by simp_all<;>omega)
 have y1:([]:List Nat).length + Y5.We.length≤1073741824:=(by simp_all<;>omega)
 refine fnS E0Ok Zg (c:=X2 f107) [] (.agg [.own 0, .own 1, .own 2, .f .f32 Y5.Film, .f .f32 Y5.Bend, .own 3, .f .f32 Y5.Fall.X, .f .f32 Y5.Fall.Y, .f .f32 Y5.Fall.Z]) [.vec 32 3 (Y5.Me.Pq.map Gv.c) false, .nest 60 (Y5.Me.Tr.map fun l=>l.map (cI .i64)) false, .vec 76 4 (([]:List (List AV)) ++ (Y5.Sp.map Gs.c)) false, .vec 29 1 (([]:List (List AV)) ++ (Y5.We.map (cF .f32))) false] func107 (sF (Z5A Y5.Me hp0 hp1 hp2 hp5)<|sC (show ([]:List (List AV)).length + (Y5.Sp.map Gs.c).length≤1073741824 from (by simpa using y0))<|sC (show (Y5.Sp.map Gs.c).all (fun cs=>cs.length == 4 && cs.all isS)=true from (X3d (fun _=>rfl)))<|sC (show ([]:List (List AV)).length + (Y5.We.map (cF .f32)).length≤1073741824 from (by simpa using y1))<|sC (show (Y5.We.map (cF .f32)).all (fun cs=>cs.length == 1 && cs.all isS)=true from (X3d (fun _=>rfl)))<|sK [2,3,4,5] sN) rfl (by kernel_rfl) (by kernel_rfl) rfl ?_ ?_
 · rfl
 · simp [Z1o,Gs.c,cF]
@[simp] theorem Z86 (b:Gb):Z1o b=b:=by simp [Z1o]
theorem Z7i (Y5:Gb) (hp0:Y5.Me.Pq.length≤1073741824) (hp1:Y5.Me.Tr.length≤1073741824) (hp2:∀ t∈Y5.Me.Tr,t.length≤1073741824) (hp3:Y5.Sp.length≤1073741824) (hp4:Y5.We.length≤1073741824) (hp5:Xy Y5.Me.Pq.length Y5.Me.Tr):Fn prog 107 [.agg [.sl (Y5.Me.Pq.map Gv.c), .sl (Y5.Me.Tr.map (cL (cI .i64))), .sl (Y5.Sp.map Gs.c), .f .f32 Y5.Film, .f .f32 Y5.Bend, .sl (Y5.We.map (cF .f32)), .f .f32 Y5.Fall.X, .f .f32 Y5.Fall.Y, .f .f32 Y5.Fall.Z]] (.agg [.own 0, .own 1, .own 2, .f .f32 Y5.Film, .f .f32 Y5.Bend, .own 3, .f .f32 Y5.Fall.X, .f .f32 Y5.Fall.Y, .f .f32 Y5.Fall.Z]) [.vec 32 3 (Y5.Me.Pq.map Gv.c) false, .nest 60 (Y5.Me.Tr.map fun l=>l.map (cI .i64)) false, .vec 76 4 (Y5.Sp.map Gs.c) false, .vec 29 1 (Y5.We.map (cF .f32)) false]:=by
 simpa only [Z86] using Z7h  Y5 hp0 hp1 hp2 hp3 hp4 hp5
def ZK (YT:Gv) (Yk:Nat):Gv:=(⟨(fop .mul .f32 YT.X Yk),(fop .mul .f32 YT.Y Yk),(fop .mul .f32 YT.Z Yk)⟩:Gv)
theorem Z53 (YT:Gv) (Yk:Nat)   : Fn prog 77 [.agg [.f .f32 YT.X, .f .f32 YT.Y, .f .f32 YT.Z], .f .f32 Yk] (.agg [.f .f32 ((ZK YT Yk).X), .f .f32 ((ZK YT Yk).Y), .f .f32 ((ZK YT Yk).Z)]) []:=by
 refine fnS E0Ok Zg (c:=X2 f77) [] (.agg [.f .f32 (fop .mul .f32 YT.X Yk), .f .f32 (fop .mul .f32 YT.Y Yk), .f .f32 (fop .mul .f32 YT.Z Yk)]) [] func77 (sK [] sN) rfl (by kernel_rfl) (by kernel_rfl) rfl ?_ ?_
 · rfl
 · rfl
def ZZ (Y5:Gb) (Yk:(List Gv)) (Yd:Nat):Nat→Int→(List Gv)→(List Gv)
  | 0,_,_=>default
  | k + 1,Y2,Yh=>(cond (decide (Y2 < (Yk.length:Int)))
    (ZZ Y5 Yk Yd k (Y2 + 1) (Yh.set Y2.toNat (ZD (Yh.getD Y2.toNat default) (ZK (Yk.getD Y2.toNat default) Yd))))
    Yh)
def Z4s (Y5:Gb) (Yk:(List Gv)) (Yd:Nat) (r:(List Gv)):Ex × St:=((.exit 0),⟨.agg [.sl (Y5.Me.Pq.map Gv.c), .sl (Y5.Me.Tr.map (cL (cI .i64))), .sl (Y5.Sp.map Gs.c), .f .f32 Y5.Film, .f .f32 Y5.Bend, .sl (Y5.We.map (cF .f32)), .f .f32 Y5.Fall.X, .f .f32 Y5.Fall.Y, .f .f32 Y5.Fall.Z] :: .sl (Yk.map Gv.c) :: .any :: .ptr 0 0 0 :: .any :: .any :: .ptr 1 0 0 :: .ptr 2 0 0 :: .any :: .any :: .agg [.sl (Y5.Me.Pq.map Gv.c), .sl (Y5.Me.Tr.map (cL (cI .i64))), .sl (Y5.Sp.map Gs.c), .f .f32 Y5.Film, .f .f32 Y5.Bend, .sl (Y5.We.map (cF .f32)), .f .f32 Y5.Fall.X, .f .f32 Y5.Fall.Y, .f .f32 Y5.Fall.Z] :: .agg [.own 3, .own 4, .own 5, .f .f32 Y5.Film, .f .f32 Y5.Bend, .own 6, .f .f32 Y5.Fall.X, .f .f32 Y5.Fall.Y, .f .f32 Y5.Fall.Z] :: .sl (Yk.map Gv.c) :: an 23 [],[.box 34 [.sl (Y5.Me.Pq.map Gv.c), .sl (Y5.Me.Tr.map (cL (cI .i64))), .sl (Y5.Sp.map Gs.c), .f .f32 Y5.Film, .f .f32 Y5.Bend, .sl (Y5.We.map (cF .f32)), .f .f32 Y5.Fall.X, .f .f32 Y5.Fall.Y, .f .f32 Y5.Fall.Z], .box 34 [.nils, .nils, .nils, .f .f32 0, .f .f32 0, .nils, .f .f32 0, .f .f32 0, .f .f32 0], .box 34 [.own 3, .own 4, .own 5, .f .f32 Y5.Film, .f .f32 Y5.Bend, .own 6, .f .f32 Y5.Fall.X, .f .f32 Y5.Fall.Y, .f .f32 Y5.Fall.Z], .vec 32 3 (r.map Gv.c) false, .nest 60 (Y5.Me.Tr.map fun l=>l.map (cI .i64)) false, .vec 76 4 (Y5.Sp.map Gs.c) false, .vec 29 1 (Y5.We.map (cF .f32)) false]⟩)
def Z5C (Y5:Gb) (Yk:(List Gv)) (Yd:Nat) (Y2:Int) (Yh:(List Gv)):St:=⟨.agg [.sl (Y5.Me.Pq.map Gv.c), .sl (Y5.Me.Tr.map (cL (cI .i64))), .sl (Y5.Sp.map Gs.c), .f .f32 Y5.Film, .f .f32 Y5.Bend, .sl (Y5.We.map (cF .f32)), .f .f32 Y5.Fall.X, .f .f32 Y5.Fall.Y, .f .f32 Y5.Fall.Z] :: .sl (Yk.map Gv.c) :: .f .f32 Yd :: .ptr 0 0 0 :: .any :: .any :: .ptr 1 0 0 :: .ptr 6 0 0 :: .any :: .any :: .agg [.sl (Y5.Me.Pq.map Gv.c), .sl (Y5.Me.Tr.map (cL (cI .i64))), .sl (Y5.Sp.map Gs.c), .f .f32 Y5.Film, .f .f32 Y5.Bend, .sl (Y5.We.map (cF .f32)), .f .f32 Y5.Fall.X, .f .f32 Y5.Fall.Y, .f .f32 Y5.Fall.Z] :: .agg [.own 2, .own 3, .own 4, .f .f32 Y5.Film, .f .f32 Y5.Bend, .own 5, .f .f32 Y5.Fall.X, .f .f32 Y5.Fall.Y, .f .f32 Y5.Fall.Z] :: .sl (Yk.map Gv.c) :: .i .i64 (Yk.length:Int) :: .i .i64 Y2 :: an 21 [],[.box 34 [.sl (Y5.Me.Pq.map Gv.c), .sl (Y5.Me.Tr.map (cL (cI .i64))), .sl (Y5.Sp.map Gs.c), .f .f32 Y5.Film, .f .f32 Y5.Bend, .sl (Y5.We.map (cF .f32)), .f .f32 Y5.Fall.X, .f .f32 Y5.Fall.Y, .f .f32 Y5.Fall.Z], .box 34 [.nils, .nils, .nils, .f .f32 0, .f .f32 0, .nils, .f .f32 0, .f .f32 0, .f .f32 0], .vec 32 3 (Yh.map Gv.c) false, .nest 60 (Y5.Me.Tr.map fun l=>l.map (cI .i64)) false, .vec 76 4 (Y5.Sp.map Gs.c) false, .vec 29 1 (Y5.We.map (cF .f32)) false, .box 34 [.own 2, .own 3, .own 4, .f .f32 Y5.Film, .f .f32 Y5.Bend, .own 5, .f .f32 Y5.Fall.X, .f .f32 Y5.Fall.Y, .f .f32 Y5.Fall.Z]]⟩
theorem Z7j (Y5:Gb) (Yk:(List Gv)) (Yd:Nat) (hp0:Y5.Me.Pq.length≤1073741824) (hp1:Y5.Me.Tr.length≤1073741824) (hp2:∀ t∈Y5.Me.Tr,t.length≤1073741824) (hp3:Y5.Sp.length≤1073741824) (hp4:Y5.We.length≤1073741824) (hp5:Yk.length≤1073741824) (hp6:Xy Y5.Me.Pq.length Y5.Me.Tr) (hp7:Yk.length≤Y5.Me.Pq.length):∀ (k:Nat) (Y2:Int) (Yh:(List Gv)) (Z5g:0≤Y2) (Z5h:Yh.length=Y5.Me.Pq.length) (hk:((Yk.length:Int) - Y2).toNat < k),Lp prog 0 (sub (X2 f92) [1,1,0,1,0,0]) (Z5C Y5 Yk Yd Y2 Yh) (Z4s Y5 Yk Yd (ZZ Y5 Yk Yd k Y2 Yh)).1 (Z4s Y5 Yk Yd (ZZ Y5 Yk Yd k Y2 Yh)).2:=by
 intro k
 induction k with
 | zero=>intro Y2 Yh Z5g Z5h hk;exact absurd hk (Nat.not_lt_zero _)
 | succ k ih =>
  intro Y2 Yh Z5g Z5h hk
  cases Yr:(decide (Y2 < (Yk.length:Int))) with
  | true =>
   have YM:=odt Yr
   have YU:(0:Int)≤Y2:=(by assumption)
   have YR:Y2 < (Yk.length:Int):=(by assumption)
   have y_2:Y2 < (Yh.length:Int):=(by omega)
   have YV:Y2.toNat < Yh.length:=(by omega)
   have y_4:(-9223372036854775808:Int)≤(Y2 + 1):=(by omega)
   have y_5:(Y2 + 1)≤(9223372036854775807:Int):=(by omega)
   have e:ZZ Y5 Yk Yd (k + 1) Y2 Yh=(ZZ Y5 Yk Yd k (Y2 + 1) (Yh.set Y2.toNat (ZD (Yh.getD Y2.toNat default) (ZK (Yk.getD Y2.toNat default) Yd)))):=by simp only [ZZ,Yr,cond_true]
   rw [e]
   exact XD E0Ok Zg [] (mR false [0,4,2,2,2,5,21]) [0,1,2,3,4,5,6] (⟨.agg [.sl (Y5.Me.Pq.map Gv.c), .sl (Y5.Me.Tr.map (cL (cI .i64))), .sl (Y5.Sp.map Gs.c), .f .f32 Y5.Film, .f .f32 Y5.Bend, .sl (Y5.We.map (cF .f32)), .f .f32 Y5.Fall.X, .f .f32 Y5.Fall.Y, .f .f32 Y5.Fall.Z] :: .sl (Yk.map Gv.c) :: .f .f32 Yd :: .ptr 0 0 0 :: .any :: .any :: .ptr 1 0 0 :: .ptr 6 0 0 :: .any :: .any :: .agg [.sl (Y5.Me.Pq.map Gv.c), .sl (Y5.Me.Tr.map (cL (cI .i64))), .sl (Y5.Sp.map Gs.c), .f .f32 Y5.Film, .f .f32 Y5.Bend, .sl (Y5.We.map (cF .f32)), .f .f32 Y5.Fall.X, .f .f32 Y5.Fall.Y, .f .f32 Y5.Fall.Z] :: .agg [.own 2, .own 3, .own 4, .f .f32 Y5.Film, .f .f32 Y5.Bend, .own 5, .f .f32 Y5.Fall.X, .f .f32 Y5.Fall.Y, .f .f32 Y5.Fall.Z] :: .sl (Yk.map Gv.c) :: .i .i64 (Yk.length:Int) :: .i .i64 (Y2 + 1) :: an 21 [],[.box 34 [.sl (Y5.Me.Pq.map Gv.c), .sl (Y5.Me.Tr.map (cL (cI .i64))), .sl (Y5.Sp.map Gs.c), .f .f32 Y5.Film, .f .f32 Y5.Bend, .sl (Y5.We.map (cF .f32)), .f .f32 Y5.Fall.X, .f .f32 Y5.Fall.Y, .f .f32 Y5.Fall.Z], .box 34 [.nils, .nils, .nils, .f .f32 0, .f .f32 0, .nils, .f .f32 0, .f .f32 0, .f .f32 0], .vec 32 3 ((Yh.map Gv.c).set Y2.toNat [.f .f32 ((ZD (Yh.getD Y2.toNat default) (ZK (Yk.getD Y2.toNat default) Yd)).X), .f .f32 ((ZD (Yh.getD Y2.toNat default) (ZK (Yk.getD Y2.toNat default) Yd)).Y), .f .f32 ((ZD (Yh.getD Y2.toNat default) (ZK (Yk.getD Y2.toNat default) Yd)).Z)]) false, .nest 60 (Y5.Me.Tr.map fun l=>l.map (cI .i64)) false, .vec 76 4 (Y5.Sp.map Gs.c) false, .vec 29 1 (Y5.We.map (cF .f32)) false, .box 34 [.own 2, .own 3, .own 4, .f .f32 Y5.Film, .f .f32 Y5.Bend, .own 5, .f .f32 Y5.Fall.X, .f .f32 Y5.Fall.Y, .f .f32 Y5.Fall.Z]]⟩) (sB Yr<|sG Gv.c Yk Y2 YU YR<|sK [14,14]<|sX Gv.c Yh Y2 YU y_2<|sV Gv.c Yh Y2.toNat YV<|sF (Z53 (Yk.getD Y2.toNat default) Yd)<|sF (Z3K (Yh.getD Y2.toNat default) (ZK (Yk.getD Y2.toNat default) Yd))<|sX Gv.c Yh Y2 YU y_2<|sC (X3w (c:=Gv.c) (l:=Yh) YV)<|sI (Y2 + 1) y_4 y_5<|sN) (by kernel_rfl) (by simp [Z5C,List.map_set,Gv.c]) (ih (Y2 + 1) (Yh.set Y2.toNat (ZD (Yh.getD Y2.toNat default) (ZK (Yk.getD Y2.toNat default) Yd))) (show 0≤(Y2 + 1) from (by omega)) (show (Yh.set Y2.toNat (ZD (Yh.getD Y2.toNat default) (ZK (Yk.getD Y2.toNat default) Yd))).length=Y5.Me.Pq.length from (by simp_all<;>omega)) (by omega))
  | false =>
   have YM:=odf Yr
   have e:ZZ Y5 Yk Yd (k + 1) Y2 Yh=Yh:=by simp only [ZZ,Yr,cond_false]
   rw [e]
   exact outR (e:=(.exit 0)) E0Ok Zg [] (mR false [0,2,1,1,2,2,2,3,23]) [0,1,6,2,3,4,5] (sB Yr<|sN) (by kernel_rfl) (by intro h;cases h)
theorem Z6R (Y5:Gb) (Yk:(List Gv)) (Yd:Nat):∀ (k:Nat) (Y2:Int) (Yh:(List Gv)) (hk:((Yk.length:Int) - Y2).toNat < k),(ZZ Y5 Yk Yd k Y2 Yh).length=Yh.length:=by
  intro k
  induction k with
  | zero=>intro Y2 Yh hk;exact absurd hk (Nat.not_lt_zero _)
  | succ k ih =>
    intro Y2 Yh hk
    cases Yr:(decide (Y2 < (Yk.length:Int))) with
    | true =>
      have e:ZZ Y5 Yk Yd (k + 1) Y2 Yh=(ZZ Y5 Yk Yd k (Y2 + 1) (Yh.set Y2.toNat (ZD (Yh.getD Y2.toNat default) (ZK (Yk.getD Y2.toNat default) Yd)))):=by simp only [ZZ,Yr,cond_true]
      rw [e,ih (Y2 + 1) (Yh.set Y2.toNat (ZD (Yh.getD Y2.toNat default) (ZK (Yk.getD Y2.toNat default) Yd))) (by simp_all<;>omega)]<;>simp
    | false =>
      have e:ZZ Y5 Yk Yd (k + 1) Y2 Yh=Yh:=by simp only [ZZ,Yr,cond_false]
      first | (rw [e];done) | (rw [e];rfl)
def Z1T (Y5:Gb) (Yk:(List Gv)) (Yd:Nat):(List Gv):=(ZZ Y5 Yk Yd (((Yk.length:Int) - 0).toNat + 1) 0 Y5.Me.Pq)
@[simp] theorem Z81 (Y5:Gb) (Yk:(List Gv)) (Yd:Nat):(Z1T Y5 Yk Yd).length=(Y5.Me.Pq:(List Gv)).length:=Z6R Y5 Yk Yd (((Yk.length:Int) - 0).toNat + 1) 0 Y5.Me.Pq (by exact Nat.lt_succ_self _)
def Zx (Y5:Gb) (Yk:(List Gv)) (Yd:Nat):Gb:=(⟨(⟨(Z1T Y5 Yk Yd),Y5.Me.Tr⟩:Gm),Y5.Sp,Y5.Film,Y5.Bend,Y5.We,Y5.Fall⟩:Gb)
theorem Z7y (b:Gb) (v:List Gv) (s:Nat):(Zx b v s).Me.Pq.length≤b.Me.Pq.length:=by
  unfold Zx
  simp
theorem Z7z (b:Gb) (v:List Gv) (s:Nat):(Zx b v s).Me.Tr.length≤b.Me.Tr.length:=by
  unfold Zx
  simp
theorem Z7A (b:Gb) (v:List Gv) (s:Nat):(Zx b v s).We.length≤b.We.length:=by
  unfold Zx
  simp
theorem Z7B (b:Gb) (v:List Gv) (s:Nat):(Zx b v s).Sp.length≤b.Sp.length:=by
  unfold Zx
  simp
theorem Z7W (Y5:Gb) (Yk:(List Gv)) (Yd:Nat) (hp0:Y5.Me.Pq.length≤1073741824) (hp1:Y5.Me.Tr.length≤1073741824) (hp2:∀ t∈Y5.Me.Tr,t.length≤1073741824) (hp3:Y5.Sp.length≤1073741824) (hp4:Y5.We.length≤1073741824) (hp5:Yk.length≤1073741824) (hp6:Xy Y5.Me.Pq.length Y5.Me.Tr) (hp7:Yk.length≤Y5.Me.Pq.length)  : Fn prog 92 [.agg [.sl (Y5.Me.Pq.map Gv.c), .sl (Y5.Me.Tr.map (cL (cI .i64))), .sl (Y5.Sp.map Gs.c), .f .f32 Y5.Film, .f .f32 Y5.Bend, .sl (Y5.We.map (cF .f32)), .f .f32 Y5.Fall.X, .f .f32 Y5.Fall.Y, .f .f32 Y5.Fall.Z], .sl (Yk.map Gv.c), .f .f32 Yd] (.agg [.own 0, .own 1, .own 2, .f .f32 ((Zx Y5 Yk Yd).Film), .f .f32 ((Zx Y5 Yk Yd).Bend), .own 3, .f .f32 ((Zx Y5 Yk Yd).Fall.X), .f .f32 ((Zx Y5 Yk Yd).Fall.Y), .f .f32 ((Zx Y5 Yk Yd).Fall.Z)]) [.vec 32 3 (((Zx Y5 Yk Yd).Me.Pq).map Gv.c) false, .nest 60 (((Zx Y5 Yk Yd).Me.Tr).map fun l=>l.map (cI .i64)) false, .vec 76 4 (((Zx Y5 Yk Yd).Sp).map Gs.c) false, .vec 29 1 (((Zx Y5 Yk Yd).We).map (cF .f32)) false]:=by
 refine fnS E0Ok Zg (c:=X2 f92) [] (.agg [.own 0, .own 1, .own 2, .f .f32 Y5.Film, .f .f32 Y5.Bend, .own 3, .f .f32 Y5.Fall.X, .f .f32 Y5.Fall.Y, .f .f32 Y5.Fall.Z]) [.vec 32 3 ((Z1T Y5 Yk Yd).map Gv.c) false, .nest 60 (Y5.Me.Tr.map fun l=>l.map (cI .i64)) false, .vec 76 4 (Y5.Sp.map Gs.c) false, .vec 29 1 (Y5.We.map (cF .f32)) false] func92 (sF (Z7i Y5 hp0 hp1 hp2 hp3 hp4 hp6)<|sZ Gv.c Yk<|sL (mR false [0,4,2,2,2,5,21]) 7 (Xc (Z4s Y5 Yk Yd) (x:=(Z1T Y5 Yk Yd)) (Z7j Y5 Yk Yd hp0 hp1 hp2 hp3 hp4 hp5 hp6 hp7 (((Yk.length:Int) - 0).toNat + 1) 0 Y5.Me.Pq (show 0≤0 from (by omega)) (show Y5.Me.Pq.length=Y5.Me.Pq.length from (by simp)) (Nat.lt_succ_self _)) rfl)<|sK [3,4,5,6] sN) rfl (by kernel_rfl) (by kernel_rfl) rfl ?_ ?_
 · rfl
 · simp [Zx]
def Zc (Y5:Gb) (Yk:(List Gv)) (Yd:Nat):Gb × Bool:=(cond (Zm Y5)
  (cond ((Yk.length:Int) != (Y5.Me.Pq.length:Int))
    ((⟨(⟨([]:List Gv),([]:List (List Int))⟩:Gm),([]:List Gs),0,0,([]:List Nat),(⟨0,0,0⟩:Gv)⟩:Gb),false)
    ((Zx Y5 Yk Yd),true))
  ((⟨(⟨([]:List Gv),([]:List (List Int))⟩:Gm),([]:List Gs),0,0,([]:List Nat),(⟨0,0,0⟩:Gv)⟩:Gb),false))
theorem Z6k (b:Gb) (v:List Gv) (s:Nat):(Zc b v s).1.Me.Pq.length≤b.Me.Pq.length:=by
  unfold Zc
  cases Zm b<;>cases ((v.length:Int) != (b.Me.Pq.length:Int))<;>simp [Zx]
theorem Z6l (b:Gb) (v:List Gv) (s:Nat):(Zc b v s).1.Me.Tr.length≤b.Me.Tr.length:=by
  unfold Zc
  cases Zm b<;>cases ((v.length:Int) != (b.Me.Pq.length:Int))<;>simp [Zx]
theorem Z6m (b:Gb) (v:List Gv) (s:Nat):(Zc b v s).1.We.length≤b.We.length:=by
  unfold Zc
  cases Zm b<;>cases ((v.length:Int) != (b.Me.Pq.length:Int))<;>simp [Zx]
theorem Z6n (b:Gb) (v:List Gv) (s:Nat):(Zc b v s).1.Sp.length≤b.Sp.length:=by
  unfold Zc
  cases Zm b<;>cases ((v.length:Int) != (b.Me.Pq.length:Int))<;>simp [Zx]
theorem Z6o (b:Gb) (v:List Gv) (s:Nat):∀ t∈(Zc b v s).1.Me.Tr,t∈b.Me.Tr:=by
  unfold Zc
  cases Zm b<;>cases ((v.length:Int) != (b.Me.Pq.length:Int))<;>simp [Zx]
theorem Z6S (Y5:Gb) (Yk:(List Gv)) (Yd:Nat) (hp0:Y5.Me.Pq.length≤1073741824) (hp1:Y5.Me.Tr.length≤1073741824) (hp2:∀ t∈Y5.Me.Tr,t.length≤1073741824) (hp3:Y5.Sp.length≤1073741824) (hp4:Y5.We.length≤1073741824) (hp5:Yk.length≤1073741824)  : Fn prog 43 [.agg [.sl (Y5.Me.Pq.map Gv.c), .sl (Y5.Me.Tr.map (cL (cI .i64))), .sl (Y5.Sp.map Gs.c), .f .f32 Y5.Film, .f .f32 Y5.Bend, .sl (Y5.We.map (cF .f32)), .f .f32 Y5.Fall.X, .f .f32 Y5.Fall.Y, .f .f32 Y5.Fall.Z], .sl (Yk.map Gv.c), .f .f32 Yd] (.tup [.agg [.own 0, .own 1, .own 2, .f .f32 ((Zc Y5 Yk Yd).1.Film), .f .f32 ((Zc Y5 Yk Yd).1.Bend), .own 3, .f .f32 ((Zc Y5 Yk Yd).1.Fall.X), .f .f32 ((Zc Y5 Yk Yd).1.Fall.Y), .f .f32 ((Zc Y5 Yk Yd).1.Fall.Z)], .b ((Zc Y5 Yk Yd).2)]) [.vec 32 3 (((Zc Y5 Yk Yd).1.Me.Pq).map Gv.c) false, .nest 60 (((Zc Y5 Yk Yd).1.Me.Tr).map fun l=>l.map (cI .i64)) false, .vec 76 4 (((Zc Y5 Yk Yd).1.Sp).map Gs.c) false, .vec 29 1 (((Zc Y5 Yk Yd).1.We).map (cF .f32)) false]:=by
 have p {a C} (s:Scr a C):=sF (Z24 Y5 hp0 hp1 hp2 hp3 hp4)<|s
 cases h0:(Zm Y5) with
 | true =>
  have q {a C} (s:Scr a C):=p (sB' h0<|sB' h0<|sZ Gv.c Yk<|sB' h0<|sB' h0<|sB' h0<|sB' h0<|sZ Gv.c Y5.Me.Pq<|sB' h0<|sB' h0<|s)
  clear p
  cases h1:((Yk.length:Int) != (Y5.Me.Pq.length:Int)) with
  | true =>
   have gh1:=bne_iff_ne.1 h1
   refine fnS E0Ok Zg (c:=X2 f43) [(.row 1 0, .vec 32 3 [] false),(.row 1 1, .nest 60 [] false),(.row 1 2, .vec 76 4 [] false),(.row 1 5, .vec 29 1 [] false)] (.tup [.agg [.own 0, .own 1, .own 2, .f .f32 0, .f .f32 0, .own 3, .f .f32 0, .f .f32 0, .f .f32 0], .b false]) [.vec 32 3 [] false, .nest 60 [] false, .vec 76 4 [] false, .vec 29 1 [] false] func43 (q (sB h1<|sK [2,3,4,5] sN)) rfl (by kernel_rfl) (by kernel_rfl) rfl ?_ ?_
   · simp only [Zc,h0,h1,cond_true]
   · simp [Zc,h0,h1,Gv.c,cL,cI,Gs.c,cF]
  | false =>
   have gh1:=bne_eq_false_iff_eq.1 h1
   have y0:Xy Y5.Me.Pq.length Y5.Me.Tr:=by clear q;exact (by exact (Z2P _ (by assumption)).e.tris)
   have y1:Yk.length≤Y5.Me.Pq.length:=by clear q;exact (by omega)
   have l1:=(Z7y Y5 Yk Yd)
   have l2:=(Z7z Y5 Yk Yd)
   have l3:=(Z7A Y5 Yk Yd)
   have l4:=(Z7B Y5 Yk Yd)
   refine fnS E0Ok Zg (c:=X2 f43) [] (.tup [.agg [.own 0, .own 1, .own 2, .f .f32 ((Zx Y5 Yk Yd).Film), .f .f32 ((Zx Y5 Yk Yd).Bend), .own 3, .f .f32 ((Zx Y5 Yk Yd).Fall.X), .f .f32 ((Zx Y5 Yk Yd).Fall.Y), .f .f32 ((Zx Y5 Yk Yd).Fall.Z)], .b true]) [.vec 32 3 (((Zx Y5 Yk Yd).Me.Pq).map Gv.c) false, .nest 60 (((Zx Y5 Yk Yd).Me.Tr).map fun l=>l.map (cI .i64)) false, .vec 76 4 (((Zx Y5 Yk Yd).Sp).map Gs.c) false, .vec 29 1 (((Zx Y5 Yk Yd).We).map (cF .f32)) false] func43 (q (sB h1<|sF (Z7W Y5 Yk Yd hp0 hp1 hp2 hp3 hp4 hp5 y0 y1)<|sK [2,3,4,5] sN)) rfl (by kernel_rfl) (by kernel_rfl) rfl ?_ ?_
   · simp only [Zc,h0,h1,cond_true,cond_false]
   · simp [Zc,h0,h1]
 | false =>
  refine fnS E0Ok Zg (c:=X2 f43) [(.row 1 0, .vec 32 3 [] false),(.row 1 1, .nest 60 [] false),(.row 1 2, .vec 76 4 [] false),(.row 1 5, .vec 29 1 [] false)] (.tup [.agg [.own 0, .own 1, .own 2, .f .f32 0, .f .f32 0, .own 3, .f .f32 0, .f .f32 0, .f .f32 0], .b false]) [.vec 32 3 [] false, .nest 60 [] false, .vec 76 4 [] false, .vec 29 1 [] false] func43 (p (sB' h0<|sB' h0<|sB' h0<|sB' h0<|sB' h0<|sB' h0<|sB' h0<|sB' h0<|sB (show true=true from rfl)<|sK [2,3,4,5] sN)) rfl (by kernel_rfl) (by kernel_rfl) rfl ?_ ?_
  · simp only [Zc,h0,cond_false]
  · simp [Zc,h0,Gv.c,cL,cI,Gs.c,cF]
def Z11 (Y5:Gb):Nat→Int→(List Nat)→(List Nat)
  | 0,_,_=>default
  | k + 1,Y2,Y3=>(cond (decide (Y2 < (Y5.Sp.length:Int)))
    (Z11 Y5 k (Y2 + 1) (Y3 ++ [(fop .quo .f32 (Zr (ZC Y5 (Y5.Sp.getD Y2.toNat default))) ((Y5.Sp.getD Y2.toNat default).Long))]))
    Y3)
def Z2M (Y5:Gb) (r:(List Nat)):Ex × St:=((.exit 0),⟨.agg [.sl (Y5.Me.Pq.map Gv.c), .sl (Y5.Me.Tr.map (cL (cI .i64))), .sl (Y5.Sp.map Gs.c), .f .f32 Y5.Film, .f .f32 Y5.Bend, .sl (Y5.We.map (cF .f32)), .f .f32 Y5.Fall.X, .f .f32 Y5.Fall.Y, .f .f32 Y5.Fall.Z] :: .ptr 0 0 0 :: .nils :: .b false :: .own 1 :: .any :: .any :: .agg [.sl (Y5.Me.Pq.map Gv.c), .sl (Y5.Me.Tr.map (cL (cI .i64))), .sl (Y5.Sp.map Gs.c), .f .f32 Y5.Film, .f .f32 Y5.Bend, .sl (Y5.We.map (cF .f32)), .f .f32 Y5.Fall.X, .f .f32 Y5.Fall.Y, .f .f32 Y5.Fall.Z] :: .b (Zm Y5) :: .b (!(Zm Y5)) :: .any :: .ptr 0 0 2 :: .sl (Y5.Sp.map Gs.c) :: an 17 [],[.box 34 [.sl (Y5.Me.Pq.map Gv.c), .sl (Y5.Me.Tr.map (cL (cI .i64))), .sl (Y5.Sp.map Gs.c), .f .f32 Y5.Film, .f .f32 Y5.Bend, .sl (Y5.We.map (cF .f32)), .f .f32 Y5.Fall.X, .f .f32 Y5.Fall.Y, .f .f32 Y5.Fall.Z], .vec 29 1 (r.map (cF .f32)) false]⟩)
def Z2N (Y5:Gb) (Y2:Int) (Y3:(List Nat)):St:=⟨.agg [.sl (Y5.Me.Pq.map Gv.c), .sl (Y5.Me.Tr.map (cL (cI .i64))), .sl (Y5.Sp.map Gs.c), .f .f32 Y5.Film, .f .f32 Y5.Bend, .sl (Y5.We.map (cF .f32)), .f .f32 Y5.Fall.X, .f .f32 Y5.Fall.Y, .f .f32 Y5.Fall.Z] :: .ptr 0 0 0 :: .nils :: .b false :: .own 1 :: .any :: .any :: .agg [.sl (Y5.Me.Pq.map Gv.c), .sl (Y5.Me.Tr.map (cL (cI .i64))), .sl (Y5.Sp.map Gs.c), .f .f32 Y5.Film, .f .f32 Y5.Bend, .sl (Y5.We.map (cF .f32)), .f .f32 Y5.Fall.X, .f .f32 Y5.Fall.Y, .f .f32 Y5.Fall.Z] :: .b (Zm Y5) :: .b (!(Zm Y5)) :: .any :: .ptr 0 0 2 :: .sl (Y5.Sp.map Gs.c) :: .i .i64 (Y5.Sp.length:Int) :: .i .i64 Y2 :: an 15 [],[.box 34 [.sl (Y5.Me.Pq.map Gv.c), .sl (Y5.Me.Tr.map (cL (cI .i64))), .sl (Y5.Sp.map Gs.c), .f .f32 Y5.Film, .f .f32 Y5.Bend, .sl (Y5.We.map (cF .f32)), .f .f32 Y5.Fall.X, .f .f32 Y5.Fall.Y, .f .f32 Y5.Fall.Z], .vec 29 1 (Y3.map (cF .f32)) false]⟩
theorem Z5M (Y5:Gb) (hp0:Y5.Me.Pq.length≤1073741824) (hp1:Y5.Me.Tr.length≤1073741824) (hp2:∀ t∈Y5.Me.Tr,t.length≤1073741824) (hp3:Y5.Sp.length≤1073741824) (hp4:Y5.We.length≤1073741824) (Z82:(Zm Y5)=true):∀ (k:Nat) (Y2:Int) (Y3:(List Nat)) (Z3A:0≤Y2) (Z3B:(Y3.length:Int)=Y2) (hk:((Y5.Sp.length:Int) - Y2).toNat < k),Lp prog 0 (sub (X2 f44) [1,1,1,0,1,0,0]) (Z2N Y5 Y2 Y3) (Z2M Y5 (Z11 Y5 k Y2 Y3)).1 (Z2M Y5 (Z11 Y5 k Y2 Y3)).2:=by
 intro k
 induction k with
 | zero=>intro Y2 Y3 Z3A Z3B hk;exact absurd hk (Nat.not_lt_zero _)
 | succ k ih =>
  intro Y2 Y3 Z3A Z3B hk
  cases Yr:(decide (Y2 < (Y5.Sp.length:Int))) with
  | true =>
   have YM:=odt Yr
   have YU:(0:Int)≤Y2:=(by assumption)
   have YR:Y2 < (Y5.Sp.length:Int):=(by assumption)
   have y_2:0≤(Y5.Sp.getD Y2.toNat default).A:=(by have hi:Y2 < (Y5.Sp.length:Int):=odt (by assumption);have h0:0≤Y2:=(by assumption);have hv:=Z2P Y5 (by assumption);have qa:=OkIx.at hv.a h0 hi;have qb:=OkIx.at hv.b h0 hi;omega)
   have YV:(Y5.Sp.getD Y2.toNat default).A < (Y5.Me.Pq.length:Int):=(by have hi:Y2 < (Y5.Sp.length:Int):=odt (by assumption);have h0:0≤Y2:=(by assumption);have hv:=Z2P Y5 (by assumption);have qa:=OkIx.at hv.a h0 hi;have qb:=OkIx.at hv.b h0 hi;omega)
   have y_4:0≤(Y5.Sp.getD Y2.toNat default).B:=(by have hi:Y2 < (Y5.Sp.length:Int):=odt (by assumption);have h0:0≤Y2:=(by assumption);have hv:=Z2P Y5 (by assumption);have qa:=OkIx.at hv.a h0 hi;have qb:=OkIx.at hv.b h0 hi;omega)
   have y_5:(Y5.Sp.getD Y2.toNat default).B < (Y5.Me.Pq.length:Int):=(by have hi:Y2 < (Y5.Sp.length:Int):=odt (by assumption);have h0:0≤Y2:=(by assumption);have hv:=Z2P Y5 (by assumption);have qa:=OkIx.at hv.a h0 hi;have qb:=OkIx.at hv.b h0 hi;omega)
   have y_6:Y3.length + ([(fop .quo .f32 (Zr (ZC Y5 (Y5.Sp.getD Y2.toNat default))) ((Y5.Sp.getD Y2.toNat default).Long))]).length≤1073741824:=(by simp_all<;>omega)
   have y_7:(-9223372036854775808:Int)≤(Y2 + 1):=(by omega)
   have y_8:(Y2 + 1)≤(9223372036854775807:Int):=(by omega)
   have e:Z11 Y5 (k + 1) Y2 Y3=(Z11 Y5 k (Y2 + 1) (Y3 ++ [(fop .quo .f32 (Zr (ZC Y5 (Y5.Sp.getD Y2.toNat default))) ((Y5.Sp.getD Y2.toNat default).Long))])):=by simp only [Z11,Yr,cond_true]
   rw [e]
   exact XD E0Ok Zg [] (mR false [0,5,2,3,1,4,15]) [0,1] (⟨.agg [.sl (Y5.Me.Pq.map Gv.c), .sl (Y5.Me.Tr.map (cL (cI .i64))), .sl (Y5.Sp.map Gs.c), .f .f32 Y5.Film, .f .f32 Y5.Bend, .sl (Y5.We.map (cF .f32)), .f .f32 Y5.Fall.X, .f .f32 Y5.Fall.Y, .f .f32 Y5.Fall.Z] :: .ptr 0 0 0 :: .nils :: .b false :: .own 1 :: .any :: .any :: .agg [.sl (Y5.Me.Pq.map Gv.c), .sl (Y5.Me.Tr.map (cL (cI .i64))), .sl (Y5.Sp.map Gs.c), .f .f32 Y5.Film, .f .f32 Y5.Bend, .sl (Y5.We.map (cF .f32)), .f .f32 Y5.Fall.X, .f .f32 Y5.Fall.Y, .f .f32 Y5.Fall.Z] :: .b (Zm Y5) :: .b (!(Zm Y5)) :: .any :: .ptr 0 0 2 :: .sl (Y5.Sp.map Gs.c) :: .i .i64 (Y5.Sp.length:Int) :: .i .i64 (Y2 + 1) :: an 15 [],[.box 34 [.sl (Y5.Me.Pq.map Gv.c), .sl (Y5.Me.Tr.map (cL (cI .i64))), .sl (Y5.Sp.map Gs.c), .f .f32 Y5.Film, .f .f32 Y5.Bend, .sl (Y5.We.map (cF .f32)), .f .f32 Y5.Fall.X, .f .f32 Y5.Fall.Y, .f .f32 Y5.Fall.Z], .vec 29 1 ((Y3.map (cF .f32)) ++ ([[.f .f32 (fop .quo .f32 (Zr (ZC Y5 (Y5.Sp.getD Y2.toNat default))) ((Y5.Sp.getD Y2.toNat default).Long))]]:List (List AV))) false]⟩) (sB Yr<|sG Gs.c Y5.Sp Y2 YU YR<|sK [9,9]<|sF (Z3p Y5 (Y5.Sp.getD Y2.toNat default) hp0 hp1 hp2 hp3 hp4 y_2 YV y_4 y_5)<|sF (Z30 (ZC Y5 (Y5.Sp.getD Y2.toNat default)))<|sC (show (Y3.map (cF .f32)).length + ([[.f .f32 (fop .quo .f32 (Zr (ZC Y5 (Y5.Sp.getD Y2.toNat default))) ((Y5.Sp.getD Y2.toNat default).Long))]]:List (List AV)).length≤1073741824 from (by simpa using y_6))<|sI (Y2 + 1) y_7 y_8<|sN) (by kernel_rfl) (by simp [Z2N,cF]) (ih (Y2 + 1) (Y3 ++ [(fop .quo .f32 (Zr (ZC Y5 (Y5.Sp.getD Y2.toNat default))) ((Y5.Sp.getD Y2.toNat default).Long))]) (show 0≤(Y2 + 1) from (by omega)) (show ((Y3 ++ [(fop .quo .f32 (Zr (ZC Y5 (Y5.Sp.getD Y2.toNat default))) ((Y5.Sp.getD Y2.toNat default).Long))]).length:Int)=(Y2 + 1) from (by simp_all<;>omega)) (by omega))
  | false =>
   have YM:=odf Yr
   have e:Z11 Y5 (k + 1) Y2 Y3=Y3:=by simp only [Z11,Yr,cond_false]
   rw [e]
   exact outR (e:=(.exit 0)) E0Ok Zg [] (mR false [0,5,2,3,1,2,17]) [0,1] (sB Yr<|sN) (by kernel_rfl) (by intro h;cases h)
def Z1F (Y5:Gb):(List Nat):=(Z11 Y5 (((Y5.Sp.length:Int) - 0).toNat + 1) 0 ([]:List Nat))
def Zj (Y5:Gb):(List Nat) × Bool:=(cond (Zm Y5)
  ((Z1F Y5),true)
  (([]:List Nat),false))
theorem Z6p (b:Gb):(Zj b).1.length≤b.Sp.length:=by
  unfold Zj Z1F
  rw [X1k (n:=(b.Sp.length:Int)) (lo:=Z11 b) (fun k i r=>rfl) _ _ _ (Nat.lt_succ_self _)]
  cases Zm b<;>simp
theorem Z6y (Y5:Gb) (hp0:Y5.Me.Pq.length≤1073741824) (hp1:Y5.Me.Tr.length≤1073741824) (hp2:∀ t∈Y5.Me.Tr,t.length≤1073741824) (hp3:Y5.Sp.length≤1073741824) (hp4:Y5.We.length≤1073741824)  : Fn prog 44 [.agg [.sl (Y5.Me.Pq.map Gv.c), .sl (Y5.Me.Tr.map (cL (cI .i64))), .sl (Y5.Sp.map Gs.c), .f .f32 Y5.Film, .f .f32 Y5.Bend, .sl (Y5.We.map (cF .f32)), .f .f32 Y5.Fall.X, .f .f32 Y5.Fall.Y, .f .f32 Y5.Fall.Z]] (.tup [.own 0, .b ((Zj Y5).2)]) [.vec 29 1 (((Zj Y5).1).map (cF .f32)) false]:=by
 have p {a C} (s:Scr a C):=sF (Z24 Y5 hp0 hp1 hp2 hp3 hp4)<|s
 cases h0:(Zm Y5) with
 | true =>
  refine fnS E0Ok Zg (c:=X2 f44) [] (.tup [.own 0, .b true]) [.vec 29 1 ((Z1F Y5).map (cF .f32)) false] func44 (p (sB' h0<|sZ Gs.c Y5.Sp<|sL (mR false [0,5,2,3,1,4,15]) 2 (X13 (st2:=⟨.agg [.sl (Y5.Me.Pq.map Gv.c), .sl (Y5.Me.Tr.map (cL (cI .i64))), .sl (Y5.Sp.map Gs.c), .f .f32 Y5.Film, .f .f32 Y5.Bend, .sl (Y5.We.map (cF .f32)), .f .f32 Y5.Fall.X, .f .f32 Y5.Fall.Y, .f .f32 Y5.Fall.Z] :: .ptr 0 0 0 :: .nils :: .b false :: .own 1 :: .any :: .any :: .agg [.sl (Y5.Me.Pq.map Gv.c), .sl (Y5.Me.Tr.map (cL (cI .i64))), .sl (Y5.Sp.map Gs.c), .f .f32 Y5.Film, .f .f32 Y5.Bend, .sl (Y5.We.map (cF .f32)), .f .f32 Y5.Fall.X, .f .f32 Y5.Fall.Y, .f .f32 Y5.Fall.Z] :: .b (Zm Y5) :: .b (!(Zm Y5)) :: .any :: .ptr 0 0 2 :: .sl (Y5.Sp.map Gs.c) :: .i .i64 (Y5.Sp.length:Int) :: .i .i64 0 :: an 15 [],[.box 34 [.sl (Y5.Me.Pq.map Gv.c), .sl (Y5.Me.Tr.map (cL (cI .i64))), .sl (Y5.Sp.map Gs.c), .f .f32 Y5.Film, .f .f32 Y5.Bend, .sl (Y5.We.map (cF .f32)), .f .f32 Y5.Fall.X, .f .f32 Y5.Fall.Y, .f .f32 Y5.Fall.Z], .vec 29 1 ([]:List (List AV)) false]⟩) (Xc (Z2M Y5) (x:=(Z1F Y5)) (Z5M Y5 hp0 hp1 hp2 hp3 hp4 h0 (((Y5.Sp.length:Int) - 0).toNat + 1) 0 ([]:List Nat) (show 0≤0 from (by simp;done)) (show (([]:List Nat).length:Int)=0 from (by simp;done)) (Nat.lt_succ_self _)) rfl) (by simp [Z2N,cF]))<|sK [1] sN)) rfl (by kernel_rfl) (by kernel_rfl) rfl ?_ ?_
  · simp only [Zj,h0,cond_true]
  · simp [Zj,h0]
 | false =>
  refine fnS E0Ok Zg (c:=X2 f44) [(.tm 2, .vec 29 1 [] false)] (.tup [.own 0, .b false]) [.vec 29 1 [] false] func44 (p (sB' h0<|sK [1] sN)) rfl (by kernel_rfl) (by kernel_rfl) rfl ?_ ?_
  · simp only [Zj,h0,cond_false]
  · simp [Zj,h0,cF]
def Z2A (Yx:Nat) (Yy:Nat):Nat:=(cond (fcmp .lss .f64 Yx Yy)
  (fop .sub .f64 Yy Yx)
  (fop .sub .f64 Yx Yy))
theorem Z66 (Yx:Nat) (Yy:Nat)   : Fn prog 16 [.f .f64 Yx, .f .f64 Yy] (.f .f64 (Z2A Yx Yy)) []:=by
 cases h0:(fcmp .lss .f64 Yx Yy) with
 | true =>
  refine fnS E0Ok Zg (c:=X2 f16) [] (.f .f64 (fop .sub .f64 Yy Yx)) [] func16 (sB h0<|sK [] sN) rfl (by kernel_rfl) (by kernel_rfl) rfl ?_ ?_
  · simp only [Z2A,h0,cond_true]
  · rfl
 | false =>
  refine fnS E0Ok Zg (c:=X2 f16) [] (.f .f64 (fop .sub .f64 Yx Yy)) [] func16 (sB h0<|sK [] sN) rfl (by kernel_rfl) (by kernel_rfl) rfl ?_ ?_
  · simp only [Z2A,h0,cond_false]
  · rfl
def Z1J (Y5:Gb) (i_1:Int):Bool:=(cond (Zm Y5)
  (ZI i_1 0 (IntKind.wrap .i64 ((Y5.Sp.length:Int) - 1)))
  false)
theorem Z6T (Y5:Gb) (i_1:Int) (hp0:Y5.Me.Pq.length≤1073741824) (hp1:Y5.Me.Tr.length≤1073741824) (hp2:∀ t∈Y5.Me.Tr,t.length≤1073741824) (hp3:Y5.Sp.length≤1073741824) (hp4:Y5.We.length≤1073741824)  : Fn prog 94 [.agg [.sl (Y5.Me.Pq.map Gv.c), .sl (Y5.Me.Tr.map (cL (cI .i64))), .sl (Y5.Sp.map Gs.c), .f .f32 Y5.Film, .f .f32 Y5.Bend, .sl (Y5.We.map (cF .f32)), .f .f32 Y5.Fall.X, .f .f32 Y5.Fall.Y, .f .f32 Y5.Fall.Z], .i .i64 i_1] (.b (Z1J Y5 i_1)) []:=by
 have p {a C} (s:Scr a C):=sF (Z24 Y5 hp0 hp1 hp2 hp3 hp4)<|s
 cases h0:(Zm Y5) with
 | true =>
  refine fnS E0Ok Zg (c:=X2 f94) [] (.b (ZI i_1 0 (IntKind.wrap .i64 ((Y5.Sp.length:Int) - 1)))) [] func94 (p (sB h0<|sB h0<|sB h0<|sB h0<|sZ Gs.c Y5.Sp<|sB h0<|sW .i64 ((Y5.Sp.length:Int) - 1)<|sB h0<|sF (Z40 i_1 0 (IntKind.wrap .i64 ((Y5.Sp.length:Int) - 1)))<|sB h0<|sK [] sN)) rfl (by kernel_rfl) (by kernel_rfl) rfl ?_ ?_
  · simp only [Z1J,h0,cond_true]
  · rfl
 | false =>
  refine fnS E0Ok Zg (c:=X2 f94) [] (.b false) [] func94 (p (sB h0<|sB h0<|sB h0<|sB h0<|sB h0<|sB h0<|sB h0<|sK [] sN)) rfl (by kernel_rfl) (by kernel_rfl) rfl ?_ ?_
  · simp only [Z1J,h0,cond_false]
  · rfl
theorem Z34 (b:Gb) (i:Int) (hb:b.Sp.length≤1073741824) (h:Z1J b i=true):OkBd b∧0≤i∧i < (b.Sp.length:Int):=by
  unfold Z1J at h
  cases h1:Zm b<;>rw [h1] at h
  · cases h
  · exact ⟨Z2P b h1,Z5V (by omega) (by omega) h⟩
def Z22 (d_0:Gv) (s_1:Gs):Nat:=(cond (fcmp .gtr .f32 (Zr d_0) 0)
  (fop .quo .f32 (fop .mul .f32 s_1.Stiff (fop .sub .f32 (Zr d_0) s_1.Long)) (Zr d_0))
  0)
theorem Z7S (d_0:Gv) (s_1:Gs)   : Fn prog 95 [.agg [.f .f32 d_0.X, .f .f32 d_0.Y, .f .f32 d_0.Z], .agg [.i .i64 s_1.A, .i .i64 s_1.B, .f .f32 s_1.Long, .f .f32 s_1.Stiff]] (.f .f32 (Z22 d_0 s_1)) []:=by
 have p {a C} (s:Scr a C):=sF (Z30 d_0)<|s
 cases h0:(fcmp .gtr .f32 (Zr d_0) 0) with
 | true =>
  refine fnS E0Ok Zg (c:=X2 f95) [] (.f .f32 (fop .quo .f32 (fop .mul .f32 s_1.Stiff (fop .sub .f32 (Zr d_0) s_1.Long)) (Zr d_0))) [] func95 (p (sB' h0<|sK [] sN)) rfl (by kernel_rfl) (by kernel_rfl) rfl ?_ ?_
  · simp only [Z22,h0,cond_true]
  · rfl
 | false =>
  refine fnS E0Ok Zg (c:=X2 f95) [] (.f .f32 0) [] func95 (p (sB' h0<|sK [] sN)) rfl (by kernel_rfl) (by kernel_rfl) rfl ?_ ?_
  · simp only [Z22,h0,cond_false]
  · rfl
def Z25 (Y5:Gb) (Yq:Int):Gv:=(ZK (ZC Y5 (Y5.Sp.getD Yq.toNat default)) (Z22 (ZC Y5 (Y5.Sp.getD Yq.toNat default)) (Y5.Sp.getD Yq.toNat default)))
def Z1p (Y5:Gb) (Yq:Int):Gv × Bool:=(cond (Z1J Y5 Yq)
  ((Z25 Y5 Yq),true)
  ((⟨0,0,0⟩:Gv),false))
theorem Z7T (Y5:Gb) (Yq:Int) (hp0:Y5.Me.Pq.length≤1073741824) (hp1:Y5.Me.Tr.length≤1073741824) (hp2:∀ t∈Y5.Me.Tr,t.length≤1073741824) (hp3:Y5.Sp.length≤1073741824) (hp4:Y5.We.length≤1073741824)  : Fn prog 45 [.agg [.sl (Y5.Me.Pq.map Gv.c), .sl (Y5.Me.Tr.map (cL (cI .i64))), .sl (Y5.Sp.map Gs.c), .f .f32 Y5.Film, .f .f32 Y5.Bend, .sl (Y5.We.map (cF .f32)), .f .f32 Y5.Fall.X, .f .f32 Y5.Fall.Y, .f .f32 Y5.Fall.Z], .i .i64 Yq] (.tup [.agg [.f .f32 ((Z1p Y5 Yq).1.X), .f .f32 ((Z1p Y5 Yq).1.Y), .f .f32 ((Z1p Y5 Yq).1.Z)], .b ((Z1p Y5 Yq).2)]) []:=by
 have p {a C} (s:Scr a C):=sF (Z6T Y5 Yq hp0 hp1 hp2 hp3 hp4)<|s
 cases h0:(Z1J Y5 Yq) with
 | true =>
  have y0:(0:Int)≤Yq:=by clear p;exact (by (have q:=(Z34 Y5 Yq (by assumption) (by assumption)).2;omega))
  have y1:Yq < (Y5.Sp.length:Int):=by clear p;exact (by (have q:=(Z34 Y5 Yq (by assumption) (by assumption)).2;omega))
  have y2:0≤(Y5.Sp.getD Yq.toNat default).A:=by clear p;exact (by have q0:=Z34 Y5 Yq (by assumption) (by assumption);have q:=q0.2;have qa:=OkIx.at q0.1.a q.1 q.2;have qb:=OkIx.at q0.1.b q.1 q.2;omega)
  have y3:(Y5.Sp.getD Yq.toNat default).A < (Y5.Me.Pq.length:Int):=by clear p;exact (by have q0:=Z34 Y5 Yq (by assumption) (by assumption);have q:=q0.2;have qa:=OkIx.at q0.1.a q.1 q.2;have qb:=OkIx.at q0.1.b q.1 q.2;omega)
  have y4:0≤(Y5.Sp.getD Yq.toNat default).B:=by clear p;exact (by have q0:=Z34 Y5 Yq (by assumption) (by assumption);have q:=q0.2;have qa:=OkIx.at q0.1.a q.1 q.2;have qb:=OkIx.at q0.1.b q.1 q.2;omega)
  have y5:(Y5.Sp.getD Yq.toNat default).B < (Y5.Me.Pq.length:Int):=by clear p;exact (by have q0:=Z34 Y5 Yq (by assumption) (by assumption);have q:=q0.2;have qa:=OkIx.at q0.1.a q.1 q.2;have qb:=OkIx.at q0.1.b q.1 q.2;omega)
  refine fnS E0Ok Zg (c:=X2 f45) [] (.tup [.agg [.f .f32 ((Z25 Y5 Yq).X), .f .f32 ((Z25 Y5 Yq).Y), .f .f32 ((Z25 Y5 Yq).Z)], .b true]) [] func45 (p (sB' h0<|sG Gs.c Y5.Sp Yq y0 y1<|sF (Z3p Y5 (Y5.Sp.getD Yq.toNat default) hp0 hp1 hp2 hp3 hp4 y2 y3 y4 y5)<|sK [4,4]<|sF (Z7S (ZC Y5 (Y5.Sp.getD Yq.toNat default)) (Y5.Sp.getD Yq.toNat default))<|sF (Z53 (ZC Y5 (Y5.Sp.getD Yq.toNat default)) (Z22 (ZC Y5 (Y5.Sp.getD Yq.toNat default)) (Y5.Sp.getD Yq.toNat default)))<|sK [] sN)) rfl (by kernel_rfl) (by kernel_rfl) rfl ?_ ?_
  · simp only [Z1p,h0,cond_true]
  · rfl
 | false =>
  refine fnS E0Ok Zg (c:=X2 f45) [] (.tup [.agg [.f .f32 0, .f .f32 0, .f .f32 0], .b false]) [] func45 (p (sB' h0<|sK [] sN)) rfl (by kernel_rfl) (by kernel_rfl) rfl ?_ ?_
  · simp only [Z1p,h0,cond_false]
  · rfl
def Z3b (Yx:Gv) (Yy:Gv):Nat:=(fop .add .f32 (fop .add .f32 (fop .mul .f32 Yx.X Yy.X) (fop .mul .f32 Yx.Y Yy.Y)) (fop .mul .f32 Yx.Z Yy.Z))
theorem Z7k (Yx:Gv) (Yy:Gv)   : Fn prog 106 [.agg [.f .f32 Yx.X, .f .f32 Yx.Y, .f .f32 Yx.Z], .agg [.f .f32 Yy.X, .f .f32 Yy.Y, .f .f32 Yy.Z]] (.f .f32 (Z3b Yx Yy)) []:=by
 refine fnS E0Ok Zg (c:=X2 f106) [] (.f .f32 (fop .add .f32 (fop .add .f32 (fop .mul .f32 Yx.X Yy.X) (fop .mul .f32 Yx.Y Yy.Y)) (fop .mul .f32 Yx.Z Yy.Z))) [] func106 (sK [] sN) rfl (by kernel_rfl) (by kernel_rfl) rfl ?_ ?_
 · rfl
 · rfl
def Z44 (YS:Nat):Nat:=(fcv .f64 .f32 YS)
theorem Z76 (YS:Nat) (hp0:X1P .f64 .f32 YS=true)  : Fn prog 123 [.f .f64 YS] (.f .f32 (Z44 YS)) []:=by
 refine fnS E0Ok Zg (c:=X2 f123) [] (.f .f32 (fcv .f64 .f32 YS)) [] func123 (sC hp0<|sK [] sN) rfl (by kernel_rfl) (by kernel_rfl) rfl ?_ ?_
 · rfl
 · rfl
def Z4Q (YS:Nat):Nat:=(Z44 (Z2o (fcv .f32 .f64 YS)))
theorem Z7C (YS:Nat)   : Fn prog 105 [.f .f32 YS] (.f .f32 (Z4Q YS)) []:=by
 have y0:X1P .f64 .f32 (Z2o (fcv .f32 .f64 YS))=true:=(X4d _)
 refine fnS E0Ok Zg (c:=X2 f105) [] (.f .f32 (Z44 (Z2o (fcv .f32 .f64 YS)))) [] func105 (sC (X1M YS)<|sF (Z6X (fcv .f32 .f64 YS))<|sF (Z76 (Z2o (fcv .f32 .f64 YS)) y0)<|sK [] sN) rfl (by kernel_rfl) (by kernel_rfl) rfl ?_ ?_
 · rfl
 · rfl
def Z4R (YT:Gv):Nat:=(Z4Q (Z3b YT YT))
theorem Z7D (YT:Gv)   : Fn prog 64 [.agg [.f .f32 YT.X, .f .f32 YT.Y, .f .f32 YT.Z]] (.f .f32 (Z4R YT)) []:=by
 refine fnS E0Ok Zg (c:=X2 f64) [] (.f .f32 (Z4Q (Z3b YT YT))) [] func64 (sF (Z7k YT YT)<|sF (Z7C (Z3b YT YT))<|sK [] sN) rfl (by kernel_rfl) (by kernel_rfl) rfl ?_ ?_
 · rfl
 · rfl
def Z32 (YT:Gv):Nat:=(Z4R YT)
theorem Z7U (YT:Gv)   : Fn prog 13 [.agg [.f .f32 YT.X, .f .f32 YT.Y, .f .f32 YT.Z]] (.f .f32 (Z32 YT)) []:=by
 refine fnS E0Ok Zg (c:=X2 f13) [] (.f .f32 (Z4R YT)) [] func13 (sF (Z7D YT)<|sK [] sN) rfl (by kernel_rfl) (by kernel_rfl) rfl ?_ ?_
 · rfl
 · rfl
def Z1d (Y4:Gm) (e_1:Gedge):Nat:=(Zr (ZM (Y4.Pq.getD e_1.e0.toNat default) (Y4.Pq.getD e_1.e1.toNat default)))
theorem Z6U (Y4:Gm) (e_1:Gedge) (hp0:Y4.Pq.length≤1073741824) (hp1:Y4.Tr.length≤1073741824) (hp2:∀ t∈Y4.Tr,t.length≤1073741824) (hp3:0≤e_1.e0) (hp4:e_1.e0 < e_1.e1) (hp5:e_1.e1 < (Y4.Pq.length:Int))  : Fn prog 96 [.agg [.sl (Y4.Pq.map Gv.c), .sl (Y4.Tr.map (cL (cI .i64)))], .agg [.i .i64 e_1.e0, .i .i64 e_1.e1]] (.f .f32 (Z1d Y4 e_1)) []:=by
 have y0:(0:Int)≤e_1.e0:=(by assumption)
 have y1:e_1.e0 < (Y4.Pq.length:Int):=(by omega)
 have y2:(0:Int)≤e_1.e1:=(by omega)
 refine fnS E0Ok Zg (c:=X2 f96) [] (.f .f32 (Zr (ZM (Y4.Pq.getD e_1.e0.toNat default) (Y4.Pq.getD e_1.e1.toNat default)))) [] func96 (sK [12,12]<|sC (show (0:Int)≤0∧0 < ((2:Nat):Int) from (by decide))<|sG Gv.c Y4.Pq e_1.e0 y0 y1<|sC (show (0:Int)≤1∧1 < ((2:Nat):Int) from (by decide))<|sG Gv.c Y4.Pq e_1.e1 y2 hp5<|sF (Z27 (Y4.Pq.getD e_1.e0.toNat default) (Y4.Pq.getD e_1.e1.toNat default))<|sF (Z30 (ZM (Y4.Pq.getD e_1.e0.toNat default) (Y4.Pq.getD e_1.e1.toNat default)))<|sK [] sN) rfl (by kernel_rfl) (by kernel_rfl) rfl ?_ ?_
 · rfl
 · rfl
def Z1h (Y4:Gm) (Yi:Nat):Nat→Int→(List Gs)→(List Gs)
  | 0,_,_=>default
  | k + 1,Y2,YC=>(cond (decide (Y2 < (((Z5 Y4).2).length:Int)))
    (Z1h Y4 Yi k (Y2 + 1) (YC ++ [(⟨(((Z5 Y4).2).getD Y2.toNat default).e0,(((Z5 Y4).2).getD Y2.toNat default).e1,(Z1d Y4 (((Z5 Y4).2).getD Y2.toNat default)),Yi⟩:Gs)]))
    YC)
def Z2O (Y4:Gm) (Yi:Nat) (r:(List Gs)):Ex × St:=((.exit 0),⟨.agg [.sl (Y4.Pq.map Gv.c), .sl (Y4.Tr.map (cL (cI .i64)))] :: .any :: .ptr 0 0 0 :: .any :: .ptr 1 0 0 :: .b false :: .ptr 2 0 0 :: .b ((Z4 Y4).2) :: .any :: .own 3 :: .any :: .any :: .any :: .agg [.sl (Y4.Pq.map Gv.c), .sl (Y4.Tr.map (cL (cI .i64)))] :: .any :: .any :: .b ((Z4 Y4).2) :: .b ((Z4 Y4).2) :: .b (!(Z4 Y4).2) :: .any :: .any :: .agg [.sl (Y4.Pq.map Gv.c), .sl (Y4.Tr.map (cL (cI .i64)))] :: .any :: .mp 4 :: .own 3 :: .own 3 :: an 25 [],[.box 27 [.sl (Y4.Pq.map Gv.c), .sl (Y4.Tr.map (cL (cI .i64)))], .box 34 [.nils, .nils, .nils, .f .f32 0, .f .f32 0, .nils, .f .f32 0, .f .f32 0, .f .f32 0], .box 34 [.own 5, .own 6, .own 7, .f .f32 ((Z4 Y4).1.Film), .f .f32 ((Z4 Y4).1.Bend), .own 8, .f .f32 ((Z4 Y4).1.Fall.X), .f .f32 ((Z4 Y4).1.Fall.Y), .f .f32 ((Z4 Y4).1.Fall.Z)], .vec 113 2 (((Z5 Y4).2).map Gedge.cells) false, .mapN 2 (mapC Gedge.pr (cI .i64) ((Z5 Y4).1)) none, .vec 32 3 (((Z4 Y4).1.Me.Pq).map Gv.c) false, .nest 60 (((Z4 Y4).1.Me.Tr).map fun l=>l.map (cI .i64)) false, .vec 76 4 (r.map Gs.c) false, .vec 29 1 (((Z4 Y4).1.We).map (cF .f32)) false]⟩)
def Z4j (Y4:Gm) (Yi:Nat) (Y2:Int) (YC:(List Gs)):St:=⟨.agg [.sl (Y4.Pq.map Gv.c), .sl (Y4.Tr.map (cL (cI .i64)))] :: .f .f32 Yi :: .ptr 0 0 0 :: .any :: .ptr 1 0 0 :: .b false :: .ptr 6 0 0 :: .b ((Z4 Y4).2) :: .any :: .own 8 :: .any :: .any :: .any :: .agg [.sl (Y4.Pq.map Gv.c), .sl (Y4.Tr.map (cL (cI .i64)))] :: .any :: .any :: .b ((Z4 Y4).2) :: .b ((Z4 Y4).2) :: .b (!(Z4 Y4).2) :: .any :: .any :: .agg [.sl (Y4.Pq.map Gv.c), .sl (Y4.Tr.map (cL (cI .i64)))] :: .any :: .mp 7 :: .own 8 :: .own 8 :: .i .i64 (((Z5 Y4).2).length:Int) :: .i .i64 Y2 :: an 23 [],[.box 27 [.sl (Y4.Pq.map Gv.c), .sl (Y4.Tr.map (cL (cI .i64)))], .box 34 [.nils, .nils, .nils, .f .f32 0, .f .f32 0, .nils, .f .f32 0, .f .f32 0, .f .f32 0], .vec 32 3 (((Z4 Y4).1.Me.Pq).map Gv.c) false, .nest 60 (((Z4 Y4).1.Me.Tr).map fun l=>l.map (cI .i64)) false, .vec 76 4 (YC.map Gs.c) false, .vec 29 1 (((Z4 Y4).1.We).map (cF .f32)) false, .box 34 [.own 2, .own 3, .own 4, .f .f32 ((Z4 Y4).1.Film), .f .f32 ((Z4 Y4).1.Bend), .own 5, .f .f32 ((Z4 Y4).1.Fall.X), .f .f32 ((Z4 Y4).1.Fall.Y), .f .f32 ((Z4 Y4).1.Fall.Z)], .mapN 2 (mapC Gedge.pr (cI .i64) ((Z5 Y4).1)) none, .vec 113 2 (((Z5 Y4).2).map Gedge.cells) false]⟩
def Z3C:List Bool:=(mR false [0,3,1,4,1,1,3,1,2,3,2,1,1,5,23])
def Z5y:List Bool:=(mR false [0,1,1,1,1,4,1,1,3,1,2,3,2,1,1,3,25])
theorem Z5N (Y4:Gm) (Yi:Nat) (hp0:Y4.Pq.length≤1073741824) (hp1:Y4.Tr.length≤1073741824) (hp2:∀ t∈Y4.Tr,t.length≤1073741824) (Z83:(Z4 Y4).2=true):∀ (k:Nat) (Y2:Int) (YC:(List Gs)) (Z1r:0≤Y2) (Z3D:(YC.length:Int)≤Y2) (hk:((((Z5 Y4).2).length:Int) - Y2).toNat < k),Lp prog 0 (sub (X2 f46) [1,1,1,1,0,1,0,0]) (Z4j Y4 Yi Y2 YC) (Z2O Y4 Yi (Z1h Y4 Yi k Y2 YC)).1 (Z2O Y4 Yi (Z1h Y4 Yi k Y2 YC)).2:=by
 intro k
 induction k with
 | zero=>intro Y2 YC Z1r Z3D hk;exact absurd hk (Nat.not_lt_zero _)
 | succ k ih =>
  intro Y2 YC Z1r Z3D hk
  cases Yr:(decide (Y2 < (((Z5 Y4).2).length:Int))) with
  | true =>
   have YM:=odt Yr
   have YU:(0:Int)≤Y2:=(by assumption)
   have YR:Y2 < (((Z5 Y4).2).length:Int):=(by assumption)
   have y_2:Y2.toNat < ((Z5 Y4).2).length:=(by omega)
   have YV:0≤(((Z5 Y4).2).getD Y2.toNat default).e0:=(by (have q:=Z29 Y4 (Z1O _ (Z3u _ (by assumption))) Z1r (odt (by assumption));omega))
   have y_4:(((Z5 Y4).2).getD Y2.toNat default).e0 < (((Z5 Y4).2).getD Y2.toNat default).e1:=(by (have q:=Z29 Y4 (Z1O _ (Z3u _ (by assumption))) Z1r (odt (by assumption));omega))
   have y_5:(((Z5 Y4).2).getD Y2.toNat default).e1 < (Y4.Pq.length:Int):=(by (have q:=Z29 Y4 (Z1O _ (Z3u _ (by assumption))) Z1r (odt (by assumption));omega))
   have y_6:YC.length + ([(⟨(((Z5 Y4).2).getD Y2.toNat default).e0,(((Z5 Y4).2).getD Y2.toNat default).e1,(Z1d Y4 (((Z5 Y4).2).getD Y2.toNat default)),Yi⟩:Gs)]).length≤1073741824:=(by ((have q:=Z29 Y4 (Z1O _ (Z3u _ (by assumption))) Z1r (odt (by assumption));(simp only [List.length_cons,List.length_nil];omega))))
   have y_7:(-9223372036854775808:Int)≤(Y2 + 1):=(by omega)
   have y_8:(Y2 + 1)≤(9223372036854775807:Int):=(by ((have q:=Z29 Y4 (Z1O _ (Z3u _ (by assumption))) Z1r (odt (by assumption));omega)))
   have e:Z1h Y4 Yi (k + 1) Y2 YC=(Z1h Y4 Yi k (Y2 + 1) (YC ++ [(⟨(((Z5 Y4).2).getD Y2.toNat default).e0,(((Z5 Y4).2).getD Y2.toNat default).e1,(Z1d Y4 (((Z5 Y4).2).getD Y2.toNat default)),Yi⟩:Gs)])):=by simp only [Z1h,Yr,cond_true]
   rw [e]
   exact XD E0Ok Zg [] Z3C [0,1,2,3,4,5,6,7,8] (⟨.agg [.sl (Y4.Pq.map Gv.c), .sl (Y4.Tr.map (cL (cI .i64)))] :: .f .f32 Yi :: .ptr 0 0 0 :: .any :: .ptr 1 0 0 :: .b false :: .ptr 6 0 0 :: .b ((Z4 Y4).2) :: .any :: .own 8 :: .any :: .any :: .any :: .agg [.sl (Y4.Pq.map Gv.c), .sl (Y4.Tr.map (cL (cI .i64)))] :: .any :: .any :: .b ((Z4 Y4).2) :: .b ((Z4 Y4).2) :: .b (!(Z4 Y4).2) :: .any :: .any :: .agg [.sl (Y4.Pq.map Gv.c), .sl (Y4.Tr.map (cL (cI .i64)))] :: .any :: .mp 7 :: .own 8 :: .own 8 :: .i .i64 (((Z5 Y4).2).length:Int) :: .i .i64 (Y2 + 1) :: an 23 [],[.box 27 [.sl (Y4.Pq.map Gv.c), .sl (Y4.Tr.map (cL (cI .i64)))], .box 34 [.nils, .nils, .nils, .f .f32 0, .f .f32 0, .nils, .f .f32 0, .f .f32 0, .f .f32 0], .vec 32 3 (((Z4 Y4).1.Me.Pq).map Gv.c) false, .nest 60 (((Z4 Y4).1.Me.Tr).map fun l=>l.map (cI .i64)) false, .vec 76 4 ((YC.map Gs.c) ++ ([[.i .i64 ((((Z5 Y4).2).getD Y2.toNat default).e0), .i .i64 ((((Z5 Y4).2).getD Y2.toNat default).e1), .f .f32 (Z1d Y4 (((Z5 Y4).2).getD Y2.toNat default)), .f .f32 Yi]]:List (List AV))) false, .vec 29 1 (((Z4 Y4).1.We).map (cF .f32)) false, .box 34 [.own 2, .own 3, .own 4, .f .f32 ((Z4 Y4).1.Film), .f .f32 ((Z4 Y4).1.Bend), .own 5, .f .f32 ((Z4 Y4).1.Fall.X), .f .f32 ((Z4 Y4).1.Fall.Y), .f .f32 ((Z4 Y4).1.Fall.Z)], .mapN 2 (mapC Gedge.pr (cI .i64) ((Z5 Y4).1)) none, .vec 113 2 (((Z5 Y4).2).map Gedge.cells) false]⟩) (sB Yr<|sX Gedge.cells ((Z5 Y4).2) Y2 YU YR<|sV Gedge.cells ((Z5 Y4).2) Y2.toNat y_2<|sK [12,12]<|sC (show (0:Int)≤0∧0 < ((2:Nat):Int) from (by decide))<|sC (show (0:Int)≤1∧1 < ((2:Nat):Int) from (by decide))<|sF (Z6U Y4 (((Z5 Y4).2).getD Y2.toNat default) hp0 hp1 hp2 YV y_4 y_5)<|sC (show (YC.map Gs.c).length + ([[.i .i64 ((((Z5 Y4).2).getD Y2.toNat default).e0), .i .i64 ((((Z5 Y4).2).getD Y2.toNat default).e1), .f .f32 (Z1d Y4 (((Z5 Y4).2).getD Y2.toNat default)), .f .f32 Yi]]:List (List AV)).length≤1073741824 from (by simpa using y_6))<|sI (Y2 + 1) y_7 y_8<|sN) (by kernel_rfl) (by simp [Z4j,Gs.c]) (ih (Y2 + 1) (YC ++ [(⟨(((Z5 Y4).2).getD Y2.toNat default).e0,(((Z5 Y4).2).getD Y2.toNat default).e1,(Z1d Y4 (((Z5 Y4).2).getD Y2.toNat default)),Yi⟩:Gs)]) (show 0≤(Y2 + 1) from (by omega)) (show ((YC ++ [(⟨(((Z5 Y4).2).getD Y2.toNat default).e0,(((Z5 Y4).2).getD Y2.toNat default).e1,(Z1d Y4 (((Z5 Y4).2).getD Y2.toNat default)),Yi⟩:Gs)]).length:Int)≤(Y2 + 1) from (by simp_all<;>omega)) (by omega))
  | false =>
   have YM:=odf Yr
   have e:Z1h Y4 Yi (k + 1) Y2 YC=YC:=by simp only [Z1h,Yr,cond_false]
   rw [e]
   exact outR (e:=(.exit 0)) E0Ok Zg [] Z5y [0,1,6,8,7,2,3,4,5] (sB Yr<|sN) (by kernel_rfl) (by intro h;cases h)
end Go.Ab
