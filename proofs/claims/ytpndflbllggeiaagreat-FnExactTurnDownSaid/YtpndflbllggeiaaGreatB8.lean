/- The functions of this seat as plain Lean, and that the program's are these. Printed by a program of the prover's own. -/
import Derived.Test.YtpndflbllggeiaaGreatB7
set_option linter.unusedVariables false
set_option linter.unusedSimpArgs false
set_option maxRecDepth 100000
namespace Go.Ab
open Go.RowKit Go.Proofs.Tryz
def Z2M (Y12:(List Int)) (Y15:(List Int)):(Int) ⊕ (Unit):=(ZE Y12 Y15 (((Y12.length:Int) - 0).toNat + 1) 0)
def Z2l (Y12:(List Int)) (Y15:(List Int)):Int:=(match (Z2M Y12 Y15) with
  | .inl r1=>r1
  | .inr r1=>(cond (decide ((Y12.length:Int) < (Y15.length:Int)))
    (-1)
    0))
theorem Z9d (Y12:(List Int)) (Y15:(List Int)) (hp0:Y12.length≤1073741824) (hp1:Y15.length≤1073741824)  : Fn prog 155 [.sl (Y12.map (cI .i64)), .sl (Y15.map (cI .i64))] (.i .i64 (Z2l Y12 Y15)) []:=by
 have p {a C} (s:Scr a C):=sZ (cI .i64) Y12<|s
 cases h0:(Z2M Y12 Y15) with
 | inl r1 =>
  refine fnS E0Ok Z7 (c:=X0 f155) [] (.i .i64 r1) [] func155 (p (sL (mR false [0,2,7,3,24]) 0 (X1 (Z3J Y12 Y15) (x:=(Z2M Y12 Y15)) (Z5j Y12 Y15 hp0 hp1 (((Y12.length:Int) - 0).toNat + 1) 0 (show 0≤0 from (by omega)) (Nat.lt_succ_self _)) h0)<|sK [] sN)) rfl (by kernel_rfl) (by kernel_rfl) rfl ?_ ?_
  · simp only [Z2l,h0]
  · rfl
 | inr r1 =>
  have q {a C} (s:Scr a C):=p (sL (mR false [0,2,7,3,24]) 0 (X1 (Z3J Y12 Y15) (x:=(Z2M Y12 Y15)) (Z5j Y12 Y15 hp0 hp1 (((Y12.length:Int) - 0).toNat + 1) 0 (show 0≤0 from (by omega)) (Nat.lt_succ_self _)) h0)<|sZ (cI .i64) Y12<|sZ (cI .i64) Y15<|s)
  clear p
  cases h1:(decide ((Y12.length:Int) < (Y15.length:Int))) with
  | true =>
   have gh1:=odt h1
   refine fnS E0Ok Z7 (c:=X0 f155) [] (.i .i64 (-1)) [] func155 (q (sB h1<|sK [] sN)) rfl (by kernel_rfl) (by kernel_rfl) rfl ?_ ?_
   · simp only [Z2l,h0,h1,cond_true]
   · rfl
  | false =>
   have gh1:=odf h1
   refine fnS E0Ok Z7 (c:=X0 f155) [] (.i .i64 0) [] func155 (q (sB h1<|sK [] sN)) rfl (by kernel_rfl) (by kernel_rfl) rfl ?_ ?_
   · simp only [Z2l,h0,h1,cond_false]
   · rfl
def Z7e (Yg:Gedge) (Yw:Gedge):Int:=(Z2l ([Yg.e0,Yg.e1]) ([Yw.e0,Yw.e1]))
theorem Zam (Yg:Gedge) (Yw:Gedge)   : Fn prog 151 [.agg [.i .i64 Yg.e0, .i .i64 Yg.e1], .agg [.i .i64 Yw.e0, .i .i64 Yw.e1]] (.i .i64 (Z7e Yg Yw)) []:=by
 have y0:([Yg.e0,Yg.e1]).length≤1073741824:=(by simp_all<;>omega)
 have y1:([Yw.e0,Yw.e1]).length≤1073741824:=(by assumption)
 refine fnS E0Ok Z7 (c:=X0 f151) [] (.i .i64 (Z2l ([Yg.e0,Yg.e1]) ([Yw.e0,Yw.e1]))) [] func151 (sK [2,2]<|sF (Z9d ([Yg.e0,Yg.e1]) ([Yw.e0,Yw.e1]) y0 y1)<|sK [] sN) rfl (by kernel_rfl) (by kernel_rfl) rfl ?_ ?_
 · rfl
 · rfl
def Z8 (Yi:Gm) (Y1:Int) (Yh:Int):Gedge:=(Z6N ((Yi.Tr.getD Y1.toNat default).getD Yh.toNat default) ((Yi.Tr.getD Y1.toNat default).getD (Int.tmod (Yh + 1) 3).toNat default))
def Zw (Yi:Gm) (Y1:Int) (Yl:(List (Gedge × List Int))) (Y5:(List Gedge)):Nat→Int→(List (Gedge × List Int))→(List Gedge)→(List (Gedge × List Int)) × (List Gedge)
  | 0,_,_,_=>default
  | k + 1,Yh,Yt,YR=>(cond (decide (Yh < 3))
    (cond (mhas Yt (Z8 Yi Y1 Yh))
      (cond (((Yt.getD (midx Yt (Z8 Yi Y1 Yh)) default).2.length:Int) == 0)
        (Zw Yi Y1 Yl Y5 k (Yh + 1) (mput Yt (midx Yt (Z8 Yi Y1 Yh)) ((Yt.getD (midx Yt (Z8 Yi Y1 Yh)) default).2 ++ [Y1])) (YR ++ [(Z8 Yi Y1 Yh)]))
        (Zw Yi Y1 Yl Y5 k (Yh + 1) (mput Yt (midx Yt (Z8 Yi Y1 Yh)) ((Yt.getD (midx Yt (Z8 Yi Y1 Yh)) default).2 ++ [Y1])) YR))
      (Zw Yi Y1 Yl Y5 k (Yh + 1) (Yt ++ [((Z8 Yi Y1 Yh),[Y1])]) (YR ++ [(Z8 Yi Y1 Yh)])))
    (Yt,YR))
def Z5s (Yi:Gm) (Y1:Int) (Yl:(List (Gedge × List Int))) (Y5:(List Gedge)) (r:(List (Gedge × List Int)) × (List Gedge)):Ex × St:=((.exit 2),⟨.agg [.sl (Yi.Pq.map Gv.c), .sl (Yi.Tr.map (cL (cI .i64)))] :: .ptr 0 0 0 :: .any :: .nils :: .mp 1 :: .own 2 :: .i .i64 Y1 :: .sl ((Yi.Tr.getD Y1.toNat default).map (cI .i64)) :: .any :: .any :: .mp 1 :: .any :: .ptr 0 0 1 :: .sl (Yi.Tr.map (cL (cI .i64))) :: .i .i64 (Yi.Tr.length:Int) :: .i .i64 Y1 :: .b (decide (Y1 < (Yi.Tr.length:Int))) :: .i .i64 Y1 :: .ref [.sl ((Yi.Tr.getD Y1.toNat default).map (cI .i64))] 0 :: .sl ((Yi.Tr.getD Y1.toNat default).map (cI .i64)) :: an 37 [],[.box 38 [.sl (Yi.Pq.map Gv.c), .sl (Yi.Tr.map (cL (cI .i64)))], .mapN 2 (mapC Gedge.pr (cI .i64) r.1) none, .vec 167 2 (r.2.map Gedge.cells) false]⟩)
def ZbQ (Yi:Gm) (Y1:Int) (Yl:(List (Gedge × List Int))) (Y5:(List Gedge)) (Yh:Int) (Yt:(List (Gedge × List Int))) (YR:(List Gedge)):St:=⟨.agg [.sl (Yi.Pq.map Gv.c), .sl (Yi.Tr.map (cL (cI .i64)))] :: .ptr 0 0 0 :: .any :: .nils :: .mp 1 :: .own 2 :: .i .i64 Y1 :: .sl ((Yi.Tr.getD Y1.toNat default).map (cI .i64)) :: .any :: .any :: .mp 1 :: .any :: .ptr 0 0 1 :: .sl (Yi.Tr.map (cL (cI .i64))) :: .i .i64 (Yi.Tr.length:Int) :: .i .i64 Y1 :: .b (decide (Y1 < (Yi.Tr.length:Int))) :: .i .i64 Y1 :: .ref [.sl ((Yi.Tr.getD Y1.toNat default).map (cI .i64))] 0 :: .sl ((Yi.Tr.getD Y1.toNat default).map (cI .i64)) :: .i .i64 Yh :: an 36 [],[.box 38 [.sl (Yi.Pq.map Gv.c), .sl (Yi.Tr.map (cL (cI .i64)))], .mapN 2 (mapC Gedge.pr (cI .i64) Yt) none, .vec 167 2 (YR.map Gedge.cells) false]⟩
set_option maxHeartbeats 1000000 in
theorem ZbR (Yi:Gm) (Y1:Int) (Yl:(List (Gedge × List Int))) (Y5:(List Gedge)) (hp0:Yi.Pq.length≤1073741824) (hp1:Yi.Tr.length≤1073741824) (hp2:∀ t∈Yi.Tr,t.length≤1073741824) (hp3:OkE Yi.Pq.length Yi.Tr) (Z16:0≤Y1) (Z4A:(Y5.length:Int)≤3 * Y1) (Z3S:∀ y∈Yl,(y.2.length:Int)≤3 * Y1) (Z2N:(decide (Y1 < (Yi.Tr.length:Int)))=true):∀ (k:Nat) (Yh:Int) (Yt:(List (Gedge × List Int))) (YR:(List Gedge)) (Z27:0≤Yh) (Z6h:(YR.length:Int)≤(Y5.length:Int) + Yh) (Z6i:∀ y∈Yt,(y.2.length:Int)≤3 * Y1 + Yh) (hk:((3:Int) - Yh).toNat < k),Lp prog 0 (sub (X0 f141) [1,1,0,1,0,0,1,1,0,0,1,1,0,0]) (ZbQ Yi Y1 Yl Y5 Yh Yt YR) (Z5s Yi Y1 Yl Y5 (Zw Yi Y1 Yl Y5 k Yh Yt YR)).1 (Z5s Yi Y1 Yl Y5 (Zw Yi Y1 Yl Y5 k Yh Yt YR)).2:=by
 intro k
 induction k with
 | zero=>intro Yh Yt YR Z27 Z6h Z6i hk;exact absurd hk (Nat.not_lt_zero _)
 | succ k ih =>
  intro Yh Yt YR Z27 Z6h Z6i hk
  cases YS:(decide (Yh < 3)) with
  | true =>
   have YW:=odt YS
   have Y1c:(0:Int)≤Yh:=(by assumption)
   have Y1g:Yh < ((Yi.Tr.getD Y1.toNat default).length:Int):=(by ((have g5:=odt Z2N;have q:=OkE.at hp3 Z16 g5 Z27 (odt (by assumption));omega)))
   have Y1e:(-9223372036854775808:Int)≤(Yh + 1):=(by omega)
   have Y19:(Yh + 1)≤(9223372036854775807:Int):=(by omega)
   have Y1f:(0:Int)≤(Int.tmod (Yh + 1) 3):=(by ((have g5:=odt Z2N;have q:=OkE.at hp3 Z16 g5 Z27 (odt (by assumption));omega)))
   have Y1n:(Int.tmod (Yh + 1) 3) < ((Yi.Tr.getD Y1.toNat default).length:Int):=(by ((have g5:=odt Z2N;have q:=OkE.at hp3 Z16 g5 Z27 (odt (by assumption));omega)))
   have p {a C} (s:Scr a C):=sB YS<|sK [12,12]<|sG (cI .i64) (Yi.Tr.getD Y1.toNat default) Yh Y1c Y1g<|sI (Yh + 1) Y1e Y19<|sC (show (3:Int)≠0 from (by decide))<|sQ (Int.tmod (Yh + 1) 3)<|sG (cI .i64) (Yi.Tr.getD Y1.toNat default) (Int.tmod (Yh + 1) 3) Y1f Y1n<|sF (Zhj ((Yi.Tr.getD Y1.toNat default).getD Yh.toNat default) ((Yi.Tr.getD Y1.toNat default).getD (Int.tmod (Yh + 1) 3).toNat default))<|s
   cases Y1a:(mhas Yt (Z8 Yi Y1 Yh)) with
   | true =>
    have m__16:=X2E Y1a
    have q {a C} (s:Scr a C):=p (sA (.keep [midx Yt (Z8 Yi Y1 Yh)])<|sC (X3o (ck:=Gedge.pr) (cv:=(cI .i64)) Y1a)<|sM (X5D (ck:=Gedge.pr) (cv:=(cI .i64)) (l:=Yt) (j:=(midx Yt (Z8 Yi Y1 Yh))))<|s)
    clear p
    cases Y1M:(((Yt.getD (midx Yt (Z8 Yi Y1 Yh)) default).2.length:Int) == 0) with
    | true =>
     have gh__2:=eq_of_beq Y1M
     have Y1j:YR.length + ([(Z8 Yi Y1 Yh)]).length≤1073741824:=by clear q;exact (by ((have g5:=odt Z2N;have q:=OkE.at hp3 Z16 g5 Z27 (odt (by assumption));(simp only [List.length_append,List.length_cons,List.length_nil];omega))))
     have Y1w:(midx Yt (Z8 Yi Y1 Yh)) < Yt.length:=by clear q;exact (by assumption)
     have Y1I:((Yt.getD (midx Yt (Z8 Yi Y1 Yh)) default).2).length + ([Y1]).length≤1073741824:=by clear q;exact (by ((have g5:=odt Z2N;have q:=OkE.at hp3 Z16 g5 Z27 (odt (by assumption));(simp only [List.length_append,List.length_cons,List.length_nil];omega))))
     have e:Zw Yi Y1 Yl Y5 (k + 1) Yh Yt YR=(Zw Yi Y1 Yl Y5 k (Yh + 1) (mput Yt (midx Yt (Z8 Yi Y1 Yh)) ((Yt.getD (midx Yt (Z8 Yi Y1 Yh)) default).2 ++ [Y1])) (YR ++ [(Z8 Yi Y1 Yh)])):=by simp only [Zw,YS,Y1a,Y1M,cond_true]
     rw [e]
     exact X9 E0Ok Z7 [] (mR false [0,2,1,5,2,1,1,9,36]) [0,1,2] (⟨.agg [.sl (Yi.Pq.map Gv.c), .sl (Yi.Tr.map (cL (cI .i64)))] :: .ptr 0 0 0 :: .any :: .nils :: .mp 1 :: .own 2 :: .i .i64 Y1 :: .sl ((Yi.Tr.getD Y1.toNat default).map (cI .i64)) :: .any :: .any :: .mp 1 :: .any :: .ptr 0 0 1 :: .sl (Yi.Tr.map (cL (cI .i64))) :: .i .i64 (Yi.Tr.length:Int) :: .i .i64 Y1 :: .b (decide (Y1 < (Yi.Tr.length:Int))) :: .i .i64 Y1 :: .ref [.sl ((Yi.Tr.getD Y1.toNat default).map (cI .i64))] 0 :: .sl ((Yi.Tr.getD Y1.toNat default).map (cI .i64)) :: .i .i64 (Yh + 1) :: an 36 [],[.box 38 [.sl (Yi.Pq.map Gv.c), .sl (Yi.Tr.map (cL (cI .i64)))], .mapN 2 (((mapC Gedge.pr (cI .i64) Yt).set (midx Yt (Z8 Yi Y1 Yh)) (((mapC Gedge.pr (cI .i64) Yt).getD (midx Yt (Z8 Yi Y1 Yh)) default).1,[])).set (midx Yt (Z8 Yi Y1 Yh)) ((((mapC Gedge.pr (cI .i64) Yt).set (midx Yt (Z8 Yi Y1 Yh)) (((mapC Gedge.pr (cI .i64) Yt).getD (midx Yt (Z8 Yi Y1 Yh)) default).1,[])).getD (midx Yt (Z8 Yi Y1 Yh)) default).1,(((mapC Gedge.pr (cI .i64) Yt).getD (midx Yt (Z8 Yi Y1 Yh)) default).2 ++ ([Y1].map (cI .i64))))) none, .vec 167 2 ((YR.map Gedge.cells) ++ ([[.i .i64 ((Z8 Yi Y1 Yh).e0), .i .i64 ((Z8 Yi Y1 Yh).e1)]]:List (List AV))) false]⟩) (q (sB Y1M<|sC (show (YR.map Gedge.cells).length + ([[.i .i64 ((Z8 Yi Y1 Yh).e0), .i .i64 ((Z8 Yi Y1 Yh).e1)]]:List (List AV)).length≤1073741824 from (by simpa using Y1j))<|sA (.keep [midx Yt (Z8 Yi Y1 Yh)])<|sC (X3o (ck:=Gedge.pr) (cv:=(cI .i64)) Y1a)<|sC (show (midx Yt (Z8 Yi Y1 Yh)) < (mapC Gedge.pr (cI .i64) Yt).length from (by simpa using Y1w))<|sC (show (((mapC Gedge.pr (cI .i64) Yt).getD (midx Yt (Z8 Yi Y1 Yh)) default).2).length + ([[.i .i64 Y1]]:List (List AV)).length≤1073741824 from (by simpa using Y1I))<|sA (.keep [(midx Yt (Z8 Yi Y1 Yh))])<|sC (show ((midx Yt (Z8 Yi Y1 Yh)):Int)=(((midx Yt (Z8 Yi Y1 Yh)):Nat):Int) from rfl)<|sC (show (midx Yt (Z8 Yi Y1 Yh)) < ((mapC Gedge.pr (cI .i64) Yt).set (midx Yt (Z8 Yi Y1 Yh)) (((mapC Gedge.pr (cI .i64) Yt).getD (midx Yt (Z8 Yi Y1 Yh)) default).1,[])).length from (by simpa using Y1w))<|sC (show ∀ i,some (midx Yt (Z8 Yi Y1 Yh))=some i→i=(midx Yt (Z8 Yi Y1 Yh)) from (fun i h=>by cases h;rfl))<|sI (Yh + 1) Y1e Y19<|sN)) (by kernel_rfl) (show _=⟨.agg [.sl (Yi.Pq.map Gv.c), .sl (Yi.Tr.map (cL (cI .i64)))] :: .ptr 0 0 0 :: .any :: .nils :: .mp 1 :: .own 2 :: .i .i64 Y1 :: .sl ((Yi.Tr.getD Y1.toNat default).map (cI .i64)) :: .any :: .any :: .mp 1 :: .any :: .ptr 0 0 1 :: .sl (Yi.Tr.map (cL (cI .i64))) :: .i .i64 (Yi.Tr.length:Int) :: .i .i64 Y1 :: .b (decide (Y1 < (Yi.Tr.length:Int))) :: .i .i64 Y1 :: .ref [.sl ((Yi.Tr.getD Y1.toNat default).map (cI .i64))] 0 :: .sl ((Yi.Tr.getD Y1.toNat default).map (cI .i64)) :: .i .i64 (Yh + 1) :: an 36 [],[.box 38 [.sl (Yi.Pq.map Gv.c), .sl (Yi.Tr.map (cL (cI .i64)))], .mapN 2 (mapC Gedge.pr (cI .i64) (mput Yt (midx Yt (Z8 Yi Y1 Yh)) ((Yt.getD (midx Yt (Z8 Yi Y1 Yh)) default).2 ++ [Y1]))) none, .vec 167 2 ((YR ++ [(Z8 Yi Y1 Yh)]).map Gedge.cells) false]⟩ from (by rw [X5E (X2E Y1a)];simp [List.map_set,Gedge.cells])) (ih (Yh + 1) (mput Yt (midx Yt (Z8 Yi Y1 Yh)) ((Yt.getD (midx Yt (Z8 Yi Y1 Yh)) default).2 ++ [Y1])) (YR ++ [(Z8 Yi Y1 Yh)]) (show 0≤(Yh + 1) from (by omega)) (show ((YR ++ [(Z8 Yi Y1 Yh)]).length:Int)≤(Y5.length:Int) + (Yh + 1) from (by simp only [List.length_append,List.length_cons,List.length_nil];omega)) (show ∀ y∈(mput Yt (midx Yt (Z8 Yi Y1 Yh)) ((Yt.getD (midx Yt (Z8 Yi Y1 Yh)) default).2 ++ [Y1])),(y.2.length:Int)≤3 * Y1 + (Yh + 1) from (by exact X2V (by assumption) (by omega) (by omega))) (by omega))
    | false =>
     have gh__2:=ne_of_beq_false Y1M
     have Y1j:(midx Yt (Z8 Yi Y1 Yh)) < Yt.length:=by clear q;exact (by assumption)
     have Y1w:((Yt.getD (midx Yt (Z8 Yi Y1 Yh)) default).2).length + ([Y1]).length≤1073741824:=by clear q;exact (by ((have g5:=odt Z2N;have q:=OkE.at hp3 Z16 g5 Z27 (odt (by assumption));(have q3:=X5F (N:=3 * Y1 + Yh) (by omega) (by assumption) (midx Yt (Z8 Yi Y1 Yh));simp only [List.length_cons,List.length_nil];omega))))
     have e:Zw Yi Y1 Yl Y5 (k + 1) Yh Yt YR=(Zw Yi Y1 Yl Y5 k (Yh + 1) (mput Yt (midx Yt (Z8 Yi Y1 Yh)) ((Yt.getD (midx Yt (Z8 Yi Y1 Yh)) default).2 ++ [Y1])) YR):=by simp only [Zw,YS,Y1a,Y1M,cond_true,cond_false]
     rw [e]
     exact X9 E0Ok Z7 [] (mR false [0,2,1,5,2,1,1,9,36]) [0,1,2] (⟨.agg [.sl (Yi.Pq.map Gv.c), .sl (Yi.Tr.map (cL (cI .i64)))] :: .ptr 0 0 0 :: .any :: .nils :: .mp 1 :: .own 2 :: .i .i64 Y1 :: .sl ((Yi.Tr.getD Y1.toNat default).map (cI .i64)) :: .any :: .any :: .mp 1 :: .any :: .ptr 0 0 1 :: .sl (Yi.Tr.map (cL (cI .i64))) :: .i .i64 (Yi.Tr.length:Int) :: .i .i64 Y1 :: .b (decide (Y1 < (Yi.Tr.length:Int))) :: .i .i64 Y1 :: .ref [.sl ((Yi.Tr.getD Y1.toNat default).map (cI .i64))] 0 :: .sl ((Yi.Tr.getD Y1.toNat default).map (cI .i64)) :: .i .i64 (Yh + 1) :: an 36 [],[.box 38 [.sl (Yi.Pq.map Gv.c), .sl (Yi.Tr.map (cL (cI .i64)))], .mapN 2 (((mapC Gedge.pr (cI .i64) Yt).set (midx Yt (Z8 Yi Y1 Yh)) (((mapC Gedge.pr (cI .i64) Yt).getD (midx Yt (Z8 Yi Y1 Yh)) default).1,[])).set (midx Yt (Z8 Yi Y1 Yh)) ((((mapC Gedge.pr (cI .i64) Yt).set (midx Yt (Z8 Yi Y1 Yh)) (((mapC Gedge.pr (cI .i64) Yt).getD (midx Yt (Z8 Yi Y1 Yh)) default).1,[])).getD (midx Yt (Z8 Yi Y1 Yh)) default).1,(((mapC Gedge.pr (cI .i64) Yt).getD (midx Yt (Z8 Yi Y1 Yh)) default).2 ++ ([Y1].map (cI .i64))))) none, .vec 167 2 (YR.map Gedge.cells) false]⟩) (q (sB Y1M<|sA (.keep [midx Yt (Z8 Yi Y1 Yh)])<|sC (X3o (ck:=Gedge.pr) (cv:=(cI .i64)) Y1a)<|sC (show (midx Yt (Z8 Yi Y1 Yh)) < (mapC Gedge.pr (cI .i64) Yt).length from (by simpa using Y1j))<|sC (show (((mapC Gedge.pr (cI .i64) Yt).getD (midx Yt (Z8 Yi Y1 Yh)) default).2).length + ([[.i .i64 Y1]]:List (List AV)).length≤1073741824 from (by simpa using Y1w))<|sA (.keep [(midx Yt (Z8 Yi Y1 Yh))])<|sC (show ((midx Yt (Z8 Yi Y1 Yh)):Int)=(((midx Yt (Z8 Yi Y1 Yh)):Nat):Int) from rfl)<|sC (show (midx Yt (Z8 Yi Y1 Yh)) < ((mapC Gedge.pr (cI .i64) Yt).set (midx Yt (Z8 Yi Y1 Yh)) (((mapC Gedge.pr (cI .i64) Yt).getD (midx Yt (Z8 Yi Y1 Yh)) default).1,[])).length from (by simpa using Y1j))<|sC (show ∀ i,some (midx Yt (Z8 Yi Y1 Yh))=some i→i=(midx Yt (Z8 Yi Y1 Yh)) from (fun i h=>by cases h;rfl))<|sI (Yh + 1) Y1e Y19<|sN)) (by kernel_rfl) (show _=⟨.agg [.sl (Yi.Pq.map Gv.c), .sl (Yi.Tr.map (cL (cI .i64)))] :: .ptr 0 0 0 :: .any :: .nils :: .mp 1 :: .own 2 :: .i .i64 Y1 :: .sl ((Yi.Tr.getD Y1.toNat default).map (cI .i64)) :: .any :: .any :: .mp 1 :: .any :: .ptr 0 0 1 :: .sl (Yi.Tr.map (cL (cI .i64))) :: .i .i64 (Yi.Tr.length:Int) :: .i .i64 Y1 :: .b (decide (Y1 < (Yi.Tr.length:Int))) :: .i .i64 Y1 :: .ref [.sl ((Yi.Tr.getD Y1.toNat default).map (cI .i64))] 0 :: .sl ((Yi.Tr.getD Y1.toNat default).map (cI .i64)) :: .i .i64 (Yh + 1) :: an 36 [],[.box 38 [.sl (Yi.Pq.map Gv.c), .sl (Yi.Tr.map (cL (cI .i64)))], .mapN 2 (mapC Gedge.pr (cI .i64) (mput Yt (midx Yt (Z8 Yi Y1 Yh)) ((Yt.getD (midx Yt (Z8 Yi Y1 Yh)) default).2 ++ [Y1]))) none, .vec 167 2 (YR.map Gedge.cells) false]⟩ from (by rw [X5E (X2E Y1a)];done)) (ih (Yh + 1) (mput Yt (midx Yt (Z8 Yi Y1 Yh)) ((Yt.getD (midx Yt (Z8 Yi Y1 Yh)) default).2 ++ [Y1])) YR (show 0≤(Yh + 1) from (by omega)) (show (YR.length:Int)≤(Y5.length:Int) + (Yh + 1) from (by omega)) (show ∀ y∈(mput Yt (midx Yt (Z8 Yi Y1 Yh)) ((Yt.getD (midx Yt (Z8 Yi Y1 Yh)) default).2 ++ [Y1])),(y.2.length:Int)≤3 * Y1 + (Yh + 1) from (by exact X2V (by assumption) (by omega) (by omega))) (by omega))
   | false =>
    have Y1j:YR.length + ([(Z8 Yi Y1 Yh)]).length≤1073741824:=by clear p;exact (by ((have g5:=odt Z2N;have q:=OkE.at hp3 Z16 g5 Z27 (odt (by assumption));(simp only [List.length_append,List.length_cons,List.length_nil];omega))))
    have e:Zw Yi Y1 Yl Y5 (k + 1) Yh Yt YR=(Zw Yi Y1 Yl Y5 k (Yh + 1) (Yt ++ [((Z8 Yi Y1 Yh),[Y1])]) (YR ++ [(Z8 Yi Y1 Yh)])):=by simp only [Zw,YS,Y1a,cond_true,cond_false]
    rw [e]
    exact X9 E0Ok Z7 [] (mR false [0,2,1,5,2,1,1,9,36]) [0,1,2] (⟨.agg [.sl (Yi.Pq.map Gv.c), .sl (Yi.Tr.map (cL (cI .i64)))] :: .ptr 0 0 0 :: .any :: .nils :: .mp 1 :: .own 2 :: .i .i64 Y1 :: .sl ((Yi.Tr.getD Y1.toNat default).map (cI .i64)) :: .any :: .any :: .mp 1 :: .any :: .ptr 0 0 1 :: .sl (Yi.Tr.map (cL (cI .i64))) :: .i .i64 (Yi.Tr.length:Int) :: .i .i64 Y1 :: .b (decide (Y1 < (Yi.Tr.length:Int))) :: .i .i64 Y1 :: .ref [.sl ((Yi.Tr.getD Y1.toNat default).map (cI .i64))] 0 :: .sl ((Yi.Tr.getD Y1.toNat default).map (cI .i64)) :: .i .i64 (Yh + 1) :: an 36 [],[.box 38 [.sl (Yi.Pq.map Gv.c), .sl (Yi.Tr.map (cL (cI .i64)))], .mapN 2 (((mapC Gedge.pr (cI .i64) Yt) ++ [((Gedge.pr (Z8 Yi Y1 Yh)),[])]).set (mapC Gedge.pr (cI .i64) Yt).length ((((mapC Gedge.pr (cI .i64) Yt) ++ [((Gedge.pr (Z8 Yi Y1 Yh)),[])]).getD (mapC Gedge.pr (cI .i64) Yt).length default).1,(([Y1]).map (cI .i64)))) none, .vec 167 2 ((YR.map Gedge.cells) ++ ([[.i .i64 ((Z8 Yi Y1 Yh).e0), .i .i64 ((Z8 Yi Y1 Yh).e1)]]:List (List AV))) false]⟩) (p (sA (.keep [])<|sC (X4c (ck:=Gedge.pr) (cv:=(cI .i64)) Gedge.inj Y1a)<|sM (show ((0:Nat):Int)=0 from rfl)<|sB (show (0 == 0)=true from rfl)<|sC (show (YR.map Gedge.cells).length + ([[.i .i64 ((Z8 Yi Y1 Yh).e0), .i .i64 ((Z8 Yi Y1 Yh).e1)]]:List (List AV)).length≤1073741824 from (by simpa using Y1j))<|sA (.keep [])<|sC (X4c (ck:=Gedge.pr) (cv:=(cI .i64)) Gedge.inj Y1a)<|sC (show ([[.i .i64 Y1]]:List (List AV))≠[] from (by simp))<|sC (show ([[.i .i64 Y1]]:List (List AV)).length≤1073741824 from (by simp))<|sA (.keep [(mapC Gedge.pr (cI .i64) Yt).length])<|sC (show ((mapC Gedge.pr (cI .i64) Yt).length:Int)=(((mapC Gedge.pr (cI .i64) Yt).length:Nat):Int) from rfl)<|sC (show (mapC Gedge.pr (cI .i64) Yt).length < ((mapC Gedge.pr (cI .i64) Yt) ++ [((Gedge.pr (Z8 Yi Y1 Yh)),[])]).length from (by simp))<|sC (show ∀ i,(none:Option Nat)=some i→i=(mapC Gedge.pr (cI .i64) Yt).length from (fun i h=>by cases h))<|sI (Yh + 1) Y1e Y19<|sN)) (by kernel_rfl) (show _=⟨.agg [.sl (Yi.Pq.map Gv.c), .sl (Yi.Tr.map (cL (cI .i64)))] :: .ptr 0 0 0 :: .any :: .nils :: .mp 1 :: .own 2 :: .i .i64 Y1 :: .sl ((Yi.Tr.getD Y1.toNat default).map (cI .i64)) :: .any :: .any :: .mp 1 :: .any :: .ptr 0 0 1 :: .sl (Yi.Tr.map (cL (cI .i64))) :: .i .i64 (Yi.Tr.length:Int) :: .i .i64 Y1 :: .b (decide (Y1 < (Yi.Tr.length:Int))) :: .i .i64 Y1 :: .ref [.sl ((Yi.Tr.getD Y1.toNat default).map (cI .i64))] 0 :: .sl ((Yi.Tr.getD Y1.toNat default).map (cI .i64)) :: .i .i64 (Yh + 1) :: an 36 [],[.box 38 [.sl (Yi.Pq.map Gv.c), .sl (Yi.Tr.map (cL (cI .i64)))], .mapN 2 (mapC Gedge.pr (cI .i64) (Yt ++ [((Z8 Yi Y1 Yh),[Y1])])) none, .vec 167 2 ((YR ++ [(Z8 Yi Y1 Yh)]).map Gedge.cells) false]⟩ from (by rw [X7p];simp [List.map_set,Gedge.cells])) (ih (Yh + 1) (Yt ++ [((Z8 Yi Y1 Yh),[Y1])]) (YR ++ [(Z8 Yi Y1 Yh)]) (show 0≤(Yh + 1) from (by omega)) (show ((YR ++ [(Z8 Yi Y1 Yh)]).length:Int)≤(Y5.length:Int) + (Yh + 1) from (by simp only [List.length_append,List.length_cons,List.length_nil];omega)) (show ∀ y∈(Yt ++ [((Z8 Yi Y1 Yh),[Y1])]),(y.2.length:Int)≤3 * Y1 + (Yh + 1) from (by exact X5G (by assumption) (by omega) (by omega))) (by omega))
  | false =>
   have YW:=odf YS
   have e:Zw Yi Y1 Yl Y5 (k + 1) Yh Yt YR=(Yt,YR):=by simp only [Zw,YS,cond_false]
   rw [e]
   exact outR (e:=(.exit 2)) E0Ok Z7 [] (mR false [0,2,1,5,2,1,1,8,37]) [0,1,2] (sB YS<|sN) (by kernel_rfl) (by intro h;cases h)
def Z17 (Yi:Gm) (Y1:Int) (Yl:(List (Gedge × List Int))) (Y5:(List Gedge)):(List (Gedge × List Int)) × (List Gedge):=(Zw Yi Y1 Yl Y5 (((3:Int) - 0).toNat + 1) 0 Yl Y5)
theorem ZiU (m:Gm) (i:Int) (b0:List (Gedge × List Int)) (l0:List Gedge) (h0:0≤i):∀ (k:Nat) (x:Int) (b:List (Gedge × List Int)) (l:List Gedge),0≤x→(3 - x).toNat < k→x≤3→(l.length:Int)≤3 * i + x→(∀ y∈b,(y.2.length:Int)≤3 * i + x)→((Zw m i b0 l0 k x b l).2.length:Int)≤3 * (i + 1)∧∀ y∈(Zw m i b0 l0 k x b l).1,(y.2.length:Int)≤3 * (i + 1):=by
  intro k
  induction k with
  | zero=>intro x b l _ hk;exact absurd hk (Nat.not_lt_zero _)
  | succ k ih =>
    intro x b l hx hk h3 hl hb
    rw [Zw]
    cases hc:decide (x < 3) with
    | false=>rw [cond_false];exact ⟨by simp only;omega,fun y hy=>by have:=hb y hy;omega⟩
    | true =>
      have hc':=odt hc
      rw [cond_true]
      cases mhas b (Z8 m i x) with
      | true =>
        rw [cond_true]
        cases (((b.getD (midx b (Z8 m i x)) default).2.length:Int) == 0) with
        | true=>rw [cond_true];exact ih _ _ _ (by omega) (by omega) (by omega) (by simp only [List.length_append,List.length_cons,List.length_nil];omega) (X2V hb (by omega) (by omega))
        | false=>rw [cond_false];exact ih _ _ _ (by omega) (by omega) (by omega) (by omega) (X2V hb (by omega) (by omega))
      | false=>rw [cond_false];exact ih _ _ _ (by omega) (by omega) (by omega) (by simp only [List.length_append,List.length_cons,List.length_nil];omega) (X5G hb (by omega) (by omega))
theorem Zi6 (m:Gm) (i:Int) (b:List (Gedge × List Int)) (l:List Gedge) (h0:0≤i) (hl:(l.length:Int)≤3 * i) (hb:∀ y∈b,(y.2.length:Int)≤3 * i) :
    ((Z17 m i b l).2.length:Int)≤3 * (i + 1)∧∀ y∈(Z17 m i b l).1,(y.2.length:Int)≤3 * (i + 1) :=
  ZiU m i b l h0 _ 0 b l (Int.le_refl 0) (by omega) (by omega) (by omega) (fun y hy=>by have:=hb y hy;omega)
def Z1o (Yi:Gm):Nat→Int→(List (Gedge × List Int))→(List Gedge)→(List (Gedge × List Int)) × (List Gedge)
  | 0,_,_,_=>default
  | k + 1,Y1,Yl,Y5=>(cond (decide (Y1 < (Yi.Tr.length:Int)))
    (Z1o Yi k (Y1 + 1) ((Z17 Yi Y1 Yl Y5).1) ((Z17 Yi Y1 Yl Y5).2))
    (Yl,Y5))
def Z5t (Yi:Gm) (r:(List (Gedge × List Int)) × (List Gedge)):Ex × St:=((.exit 0),⟨.agg [.sl (Yi.Pq.map Gv.c), .sl (Yi.Tr.map (cL (cI .i64)))] :: .ptr 0 0 0 :: .any :: .nils :: .mp 1 :: .own 2 :: an 4 (.mp 1 :: .any :: .ptr 0 0 1 :: .sl (Yi.Tr.map (cL (cI .i64))) :: an 43 []),[.box 38 [.sl (Yi.Pq.map Gv.c), .sl (Yi.Tr.map (cL (cI .i64)))], .mapN 2 (mapC Gedge.pr (cI .i64) r.1) none, .vec 167 2 (r.2.map Gedge.cells) false]⟩)
def Z7l (Yi:Gm) (Y1:Int) (Yl:(List (Gedge × List Int))) (Y5:(List Gedge)):St:=⟨.agg [.sl (Yi.Pq.map Gv.c), .sl (Yi.Tr.map (cL (cI .i64)))] :: .ptr 0 0 0 :: .any :: .nils :: .mp 1 :: .own 2 :: an 4 (.mp 1 :: .any :: .ptr 0 0 1 :: .sl (Yi.Tr.map (cL (cI .i64))) :: .i .i64 (Yi.Tr.length:Int) :: .i .i64 Y1 :: an 41 []),[.box 38 [.sl (Yi.Pq.map Gv.c), .sl (Yi.Tr.map (cL (cI .i64)))], .mapN 2 (mapC Gedge.pr (cI .i64) Yl) none, .vec 167 2 (Y5.map Gedge.cells) false]⟩
theorem ZbS (Yi:Gm) (hp0:Yi.Pq.length≤1073741824) (hp1:Yi.Tr.length≤1073741824) (hp2:∀ t∈Yi.Tr,t.length≤1073741824) (hp3:OkE Yi.Pq.length Yi.Tr):∀ (k:Nat) (Y1:Int) (Yl:(List (Gedge × List Int))) (Y5:(List Gedge)) (Z16:0≤Y1) (Z4A:(Y5.length:Int)≤3 * Y1) (Z3S:∀ y∈Yl,(y.2.length:Int)≤3 * Y1) (hk:((Yi.Tr.length:Int) - Y1).toNat < k),Lp prog 0 (sub (X0 f141) [1,1,0,1,0,0]) (Z7l Yi Y1 Yl Y5) (Z5t Yi (Z1o Yi k Y1 Yl Y5)).1 (Z5t Yi (Z1o Yi k Y1 Yl Y5)).2:=by
 intro k
 induction k with
 | zero=>intro Y1 Yl Y5 Z16 Z4A Z3S hk;exact absurd hk (Nat.not_lt_zero _)
 | succ k ih =>
  intro Y1 Yl Y5 Z16 Z4A Z3S hk
  cases Yv:(decide (Y1 < (Yi.Tr.length:Int))) with
  | true =>
   have YI:=odt Yv
   have YT:(0:Int)≤Y1:=(by assumption)
   have YV:Y1 < (Yi.Tr.length:Int):=(by assumption)
   have YX:(-9223372036854775808:Int)≤(Y1 + 1):=(by omega)
   have YZ:(Y1 + 1)≤(9223372036854775807:Int):=(by omega)
   have e:Z1o Yi (k + 1) Y1 Yl Y5=(Z1o Yi k (Y1 + 1) ((Z17 Yi Y1 Yl Y5).1) ((Z17 Yi Y1 Yl Y5).2)):=by simp only [Z1o,Yv,cond_true]
   rw [e]
   exact X8 E0Ok Z7 [] (mR false [0,2,1,3,4,1,1,4,41]) [0,1,2] (ih (Y1 + 1) ((Z17 Yi Y1 Yl Y5).1) ((Z17 Yi Y1 Yl Y5).2) (show 0≤(Y1 + 1) from (by omega)) (show (((Z17 Yi Y1 Yl Y5).2).length:Int)≤3 * (Y1 + 1) from (by exact (Zi6 _ _ _ _ Z16 (by assumption) (by assumption)).1)) (show ∀ y∈((Z17 Yi Y1 Yl Y5).1),(y.2.length:Int)≤3 * (Y1 + 1) from (by exact (Zi6 _ _ _ _ Z16 (by assumption) (by assumption)).2)) (by omega)) (sB Yv<|sG (cL (cI .i64)) Yi.Tr Y1 YT YV<|sL (mR false [0,2,1,5,2,1,1,9,36]) 3 (X1 (Z5s Yi Y1 Yl Y5) (x:=(Z17 Yi Y1 Yl Y5)) (ZbR Yi Y1 Yl Y5 hp0 hp1 hp2 hp3 Z16 Z4A Z3S Yv (((3:Int) - 0).toNat + 1) 0 Yl Y5 (show 0≤0 from (by omega)) (show (Y5.length:Int)≤(Y5.length:Int) + 0 from (by omega)) (show ∀ y∈Yl,(y.2.length:Int)≤3 * Y1 + 0 from (by intro y hy;have q:=Z3S y hy;omega)) (Nat.lt_succ_self _)) rfl)<|sI (Y1 + 1) YX YZ<|sN) (by kernel_rfl)
  | false =>
   have YI:=odf Yv
   have e:Z1o Yi (k + 1) Y1 Yl Y5=(Yl,Y5):=by simp only [Z1o,Yv,cond_false]
   rw [e]
   exact outR (e:=(.exit 0)) E0Ok Z7 [] (mR false [0,2,1,3,4,1,1,2,43]) [0,1,2] (sB Yv<|sN) (by kernel_rfl) (by intro h;cases h)
def Z1i (Yi:Gm):(List (Gedge × List Int)) × (List Gedge):=(Z1o Yi (((Yi.Tr.length:Int) - 0).toNat + 1) 0 ([]:(List (Gedge × List Int))) ([]:List Gedge))
theorem Zj3 (m:Gm) (k:Nat) (i:Int) (b:List (Gedge × List Int)) (l:List Gedge) (h0:0≤i):Z1o m (k + 1) i b l=cond (decide (i < (m.Tr.length:Int))) (Z1o m k (i + 1) (stT (b,l) (m.Tr.getD i.toNat default) i).1 (stT (b,l) (m.Tr.getD i.toNat default) i).2) (b,l):=by
  have st:∀ (x:Int) (k:Nat) (b:List (Gedge × List Int)) (l:List Gedge),x < 3→Zw m i b l (k + 1) x b l=Zw m i b l (k + 1) x b l:=fun _ _ _ _ _=>rfl
  have one:∀ (b0:List (Gedge × List Int)) (l0:List Gedge) (k:Nat) (x:Int) (s:List (Gedge × List Int) × List Gedge),x < 3→Zw m i b0 l0 (k + 1) x s.1 s.2=Zw m i b0 l0 k (x + 1) (stE s (Z8 m i x) i).1 (stE s (Z8 m i x) i).2:=by
    intro b0 l0 k x s hx
    rw [Zw,decide_eq_true hx,cond_true]
    unfold stE
    cases mhas s.1 (Z8 m i x) with
    | true =>
      rw [cond_true,cond_true]
      cases (((s.1.getD (midx s.1 (Z8 m i x)) default).2.length:Int) == 0)<;>rfl
    | false=>rfl
  have tri:Z17 m i b l=stT (b,l) (m.Tr.getD i.toNat default) i:=by
    unfold Z17
    show Zw m i b l 4 0 (b,l).1 (b,l).2=_
    rw [one b l 3 0 (b,l) (by omega),one b l 2 (0 + 1) _ (by omega),one b l 1 (0 + 1 + 1) _ (by omega),Zw]
    show cond (decide ((3:Int) < 3)) _ _=_
    rw [decide_eq_false (by omega),cond_false]
    unfold Z8 stT
    simp only [ZiC]
    rfl
  rw [Z1o,tri]
theorem ZgF (m:Gm) (ok:OkE m.Pq.length m.Tr):ETab m.Tr m.Tr.length (Z1i m):=by
  unfold Z1i
  exact ETab.loop ok (Zj3 m) _ 0 ([],[]) (Nat.zero_le _) (ETab.nil _) (by omega)
theorem ZiV (m:Gm) (ok:OkE m.Pq.length m.Tr):(Z1i m).2.length≤4096:=by
  have h:=congrArg List.length ((ZgF m ok).sorted ok)
  rw [X5H] at h
  rw [h];exact X2W ok
end Go.Ab
namespace Go.Proofs
open Go.Shelf
def Tryz.laysF0n6_ren:Go.Shelf.Ren:=⟨fun | 6=>150 | 15=>154 | 14=>153 | 28=>164 | 29=>165 | 20=>156 | 21=>157 | 22=>158 | 23=>159 | 24=>160 | 25=>161 | 26=>162 | 27=>163 | 46=>167 | 47=>168 | 48=>169 | 49=>170 | 50=>171 | 57=>173 | n=>n,fun | 22=>163 | 24=>167 | 25=>175 | 3=>3 | 39=>178 | 0=>0 | 53=>189 | 55=>191 | 4=>4 | 46=>182 | 45=>181 | 50=>186 | 5=>5 | 9=>9 | 66=>193 | 70=>197 | 76=>200 | 77=>201 | n=>n,fun | n=>n⟩
theorem Tryz.laysF0n6:Go.Proofs.SlLaysF0.n6 Tryz.prog Tryz.laysF0n6_ren:={
  mixed:=by kernel_rfl
  f6:=⟨Tryz.f150.name,by decide,Tryz.func150.trans (congrArg some (by kernel_rfl))⟩
  f14:=⟨Tryz.f153.name,by decide,Tryz.func153.trans (congrArg some (by kernel_rfl))⟩
  f15:=Tryz.func154.trans (congrArg some (by kernel_rfl))
  f20:=⟨Tryz.f156.name,by decide,Tryz.func156.trans (congrArg some (by kernel_rfl))⟩
  f21:=⟨Tryz.f157.name,by decide,Tryz.func157.trans (congrArg some (by kernel_rfl))⟩
  f22:=⟨Tryz.f158.name,by decide,Tryz.func158.trans (congrArg some (by kernel_rfl))⟩
  f23:=⟨Tryz.f159.name,by decide,Tryz.func159.trans (congrArg some (by kernel_rfl))⟩
  f24:=⟨Tryz.f160.name,by decide,Tryz.func160.trans (congrArg some (by kernel_rfl))⟩
  f25:=⟨Tryz.f161.name,by decide,Tryz.func161.trans (congrArg some (by kernel_rfl))⟩
  f26:=⟨Tryz.f162.name,by decide,Tryz.func162.trans (congrArg some (by kernel_rfl))⟩
  f27:=⟨Tryz.f163.name,by decide,Tryz.func163.trans (congrArg some (by kernel_rfl))⟩
  f28:=Tryz.func164.trans (congrArg some (by kernel_rfl))
  f29:=Tryz.func165.trans (congrArg some (by kernel_rfl))
  f46:=⟨Tryz.f167.name,by decide,Tryz.func167.trans (congrArg some (by kernel_rfl))⟩
  f47:=Tryz.func168.trans (congrArg some (by kernel_rfl))
  f48:=Tryz.func169.trans (congrArg some (by kernel_rfl))
  f49:=⟨Tryz.f170.name,by decide,Tryz.func170.trans (congrArg some (by kernel_rfl))⟩
  f50:=⟨Tryz.f171.name,by decide,Tryz.func171.trans (congrArg some (by kernel_rfl))⟩
  f57:=⟨Tryz.f173.name,by decide,Tryz.func173.trans (congrArg some (by kernel_rfl))⟩
  t0:=Tryz.underlying0
  a0:=Tryz.isAgg0
  z0:=Tryz.sizeOf0
  v0:=Tryz.zeroValue0
  t3:=Tryz.underlying3
  a3:=Tryz.isAgg3
  z3:=Tryz.sizeOf3
  v3:=Tryz.zeroValue3
  t4:=Tryz.underlying4
  a4:=Tryz.isAgg4
  z4:=Tryz.sizeOf4
  v4:=Tryz.zeroValue4
  t5:=Tryz.underlying5
  a5:=Tryz.isAgg5
  z5:=Tryz.sizeOf5
  v5:=Tryz.zeroValue5
  t9:=Tryz.underlying9
  a9:=Tryz.isAgg9
  z9:=Tryz.sizeOf9
  v9:=Tryz.zeroValue9
  t22:=Tryz.underlying163
  a22:=Tryz.isAgg163
  z22:=Tryz.sizeOf163
  v22:=Tryz.zeroValue163
  t25:=Tryz.underlying175
  a25:=Tryz.isAgg175
  z25:=Tryz.sizeOf175
  v25:=Tryz.zeroValue175
  t39:=Tryz.underlying178
  a39:=Tryz.isAgg178
  z39:=Tryz.sizeOf178
  v39:=Tryz.zeroValue178
  t45:=Tryz.underlying181
  a45:=Tryz.isAgg181
  z45:=Tryz.sizeOf181
  v45:=Tryz.zeroValue181
  t46:=Tryz.underlying182
  a46:=Tryz.isAgg182
  z46:=Tryz.sizeOf182
  v46:=Tryz.zeroValue182
  t50:=Tryz.underlying186
  a50:=Tryz.isAgg186
  z50:=Tryz.sizeOf186
  v50:=Tryz.zeroValue186
  t53:=Tryz.underlying189
  a53:=Tryz.isAgg189
  z53:=Tryz.sizeOf189
  v53:=Tryz.zeroValue189
  t55:=Tryz.underlying191
  a55:=Tryz.isAgg191
  z55:=Tryz.sizeOf191
  v55:=Tryz.zeroValue191
  t66:=Tryz.underlying193
  a66:=Tryz.isAgg193
  z66:=Tryz.sizeOf193
  v66:=Tryz.zeroValue193
  t70:=Tryz.underlying197
  a70:=Tryz.isAgg197
  z70:=Tryz.sizeOf197
  v70:=Tryz.zeroValue197
  t76:=Tryz.underlying200
  a76:=Tryz.isAgg200
  z76:=Tryz.sizeOf200
  v76:=Tryz.zeroValue200
  t77:=Tryz.underlying201
  a77:=Tryz.isAgg201
  z77:=Tryz.sizeOf201
  v77:=Tryz.zeroValue201 }
end Go.Proofs
namespace Go.Ab
open Go.RowKit Go.Proofs.Tryz
theorem Zja (x y:Int):Z22 x y=if x < y then -1 else if x > y then 1 else 0:=by
  unfold Z22 Z3R
  simp only [bne_self_eq_false,cond_false]
  by_cases h1:x < y
  · simp [h1]
  · by_cases h2:x > y<;>simp [h1,h2]
theorem Zjb (a b:Gedge):Z7e a b=cmpP a.pr b.pr:=by
  unfold Z7e Z2l Z2M cmpP Gedge.pr
  show (match ZE [a.e0,a.e1] [b.e0,b.e1] 3 0 with | .inl r1=>r1 | .inr r1=>cond (decide (((2:Nat):Int) < ((2:Nat):Int))) (-1) 0)=_
  simp only [ZE,Zja,List.length_cons,List.length_nil]
  by_cases h1:a.e0 < b.e0
  · simp [h1]
  · by_cases h2:a.e0 > b.e0
    · simp [h1,h2]
    · by_cases h3:a.e1 < b.e1
      · simp [h1,h2,h3]
      · by_cases h4:a.e1 > b.e1<;>simp [h1,h2,h3,h4]
def Z64 (l:List Gedge):List Gedge:=X24 Gedge.pr l
theorem Zcd (l:List Gedge) (h:l.length≤1073741824):X4 prog 150 [.vec 167 2 (l.map Gedge.cells) false] [.own 0, .fn 151 []] (.tup []) [.vec 167 2 ((Z64 l).map Gedge.cells) false] :=
  X7t laysF0n6 isAgg167 sizeOf167 Gedge.pr Gedge.inj Gedge.cells (fun _=>rfl) 167 151 ⟨_,func150,rfl,by kernel_rfl⟩ (Zam default default).1
    (fun a b W=>((Zam a b).2 W #[keyV a.pr,keyV b.pr] ⟨rfl,fun j c e=>by match j,e with | 0,e=>cases e;exact Rep.agg _ _ rfl (fun i c e=>by match i,e with | 0,e=>cases e;exact .i _ _ | 1,e=>cases e;exact .i _ _) | 1,e=>cases e;exact Rep.agg _ _ rfl (fun i c e=>by match i,e with | 0,e=>cases e;exact .i _ _ | 1,e=>cases e;exact .i _ _)⟩).mono fun e w' ⟨v,μ',he,hb,_,hr⟩=>by
      cases hr;rw [Zjb] at he;exact ⟨he,hb⟩) l h
def Z3 (Yi:Gm):(List (Gedge × List Int)) × (List Gedge):=((Z1i Yi).1,(Z64 ((Z1i Yi).2)))
theorem Zce (m:Gm) (ok:OkE m.Pq.length m.Tr):(Z3 m).2=edgL m.Pq.length m.Tr:=(ZgF m ok).sorted ok
theorem ZhD (m:Gm) (ok:OkE m.Pq.length m.Tr) {e:Gedge} (he:e∈(Z3 m).2):mhas (Z3 m).1 e=true∧((Z3 m).1.getD (midx (Z3 m).1 e) default).2=idxP m.Tr e.e0 e.e1:=by
  rw [Zce m ok] at he
  have h:=(ZgF m ok).at ok he
  exact ⟨h.1,h.2.trans (X7J ok (X3E.1 he).1.2.1)⟩
theorem ZiD (m:Gm) (ok:OkE m.Pq.length m.Tr):(Z3 m).2.length≤4096:=by
  rw [Zce m ok];exact X2W ok
theorem ZeJ (m:Gm) (ok:OkE m.Pq.length m.Tr) {i:Int} (h0:0≤i) (hi:i < ((Z3 m).2.length:Int)):(Z3 m).2.getD i.toNat default∈(Z3 m).2:=by
  have hn:i.toNat < (Z3 m).2.length:=by omega
  rw [List.getD_eq_getElem?_getD,List.getElem?_eq_getElem hn];exact List.getElem_mem hn
theorem Z95 (m:Gm) (ok:OkE m.Pq.length m.Tr) {i:Int} (h0:0≤i) (hi:i < ((Z3 m).2.length:Int)) :
    0≤((Z3 m).2.getD i.toNat default).e0∧((Z3 m).2.getD i.toNat default).e0 < ((Z3 m).2.getD i.toNat default).e1∧((Z3 m).2.getD i.toNat default).e1 < (m.Pq.length:Int)∧(m.Pq.length:Int)≤64∧((Z3 m).2.length:Int)≤4096:=by
  have hl:=ZiD m ok
  have h64:=ok.1
  have hm:=ZeJ m ok h0 hi
  rw [Zce m ok] at hm
  have hb:=X4e hm
  rw [← Zce m ok] at hb
  exact ⟨hb.1,hb.2.1,hb.2.2,by omega,by omega⟩
theorem Zcy (m:Gm) (ok:OkE m.Pq.length m.Tr) {i:Int} (h0:0≤i) (hi:i < ((Z3 m).2.length:Int))
    (h2:((((Z3 m).1.getD (midx (Z3 m).1 ((Z3 m).2.getD i.toNat default)) default).2.length:Int))=2) :
    0≤((Z3 m).1.getD (midx (Z3 m).1 ((Z3 m).2.getD i.toNat default)) default).2.getD 0 default∧((Z3 m).1.getD (midx (Z3 m).1 ((Z3 m).2.getD i.toNat default)) default).2.getD 0 default < (m.Tr.length:Int) ∧
    0≤((Z3 m).1.getD (midx (Z3 m).1 ((Z3 m).2.getD i.toNat default)) default).2.getD 1 default∧((Z3 m).1.getD (midx (Z3 m).1 ((Z3 m).2.getD i.toNat default)) default).2.getD 1 default < (m.Tr.length:Int)∧(m.Tr.length:Int)≤128:=by
  obtain ⟨g1,g2⟩:=ZhD m ok (ZeJ m ok h0 hi)
  rw [g2] at h2 ⊢
  have a1:=X4f (ts:=m.Tr) (a:=((Z3 m).2.getD i.toNat default).e0) (b:=((Z3 m).2.getD i.toNat default).e1) (k:=0) (by omega)
  have a2:=X4f (ts:=m.Tr) (a:=((Z3 m).2.getD i.toNat default).e0) (b:=((Z3 m).2.getD i.toNat default).e1) (k:=1) (by omega)
  have:=ok.2.1
  exact ⟨a1.1,a1.2.1,a2.1,a2.2.1,by omega⟩
theorem ZcM (Yi:Gm) (hp0:Yi.Pq.length≤1073741824) (hp1:Yi.Tr.length≤1073741824) (hp2:∀ t∈Yi.Tr,t.length≤1073741824) (hp3:OkE Yi.Pq.length Yi.Tr)  : Fn prog 141 [.agg [.sl (Yi.Pq.map Gv.c), .sl (Yi.Tr.map (cL (cI .i64)))]] (.tup [.mp 0, .own 1]) [.mapN 2 (mapC Gedge.pr (cI .i64) ((Z3 Yi).1)) none, .vec 167 2 (((Z3 Yi).2).map Gedge.cells) false]:=by
 have y0:((Z1i Yi).2).length≤1073741824:=(by (have q:=ZiV Yi hp3;omega))
 refine fnS E0Ok Z7 (c:=X0 f141) [] (.tup [.mp 0, .own 1]) [.mapN 2 (mapC Gedge.pr (cI .i64) ((Z1i Yi).1)) none, .vec 167 2 ((Z64 ((Z1i Yi).2)).map Gedge.cells) false] func141 (sZ (cL (cI .i64)) Yi.Tr<|sL (mR false [0,2,1,3,4,1,1,4,41]) 3 (Xk (st2:=⟨.agg [.sl (Yi.Pq.map Gv.c), .sl (Yi.Tr.map (cL (cI .i64)))] :: .ptr 0 0 0 :: .any :: .nils :: .mp 1 :: .own 2 :: an 4 (.mp 1 :: .any :: .ptr 0 0 1 :: .sl (Yi.Tr.map (cL (cI .i64))) :: .i .i64 (Yi.Tr.length:Int) :: .i .i64 0 :: an 41 []),[.box 38 [.sl (Yi.Pq.map Gv.c), .sl (Yi.Tr.map (cL (cI .i64)))], .mapN 2 [] none, .vec 167 2 ([]:List (List AV)) false]⟩) (X1 (Z5t Yi) (x:=(Z1i Yi)) (ZbS Yi hp0 hp1 hp2 hp3 (((Yi.Tr.length:Int) - 0).toNat + 1) 0 ([]:(List (Gedge × List Int))) ([]:List Gedge) (show 0≤0 from (by omega)) (show (([]:List Gedge).length:Int)≤3 * 0 from (by simp;done)) (show ∀ y∈([]:(List (Gedge × List Int))),(y.2.length:Int)≤3 * 0 from (by simp;done)) (Nat.lt_succ_self _)) rfl) (by simp [Z7l,mapC,Gedge.cells]))<|sS (X4.frame (Zcd ((Z1i Yi).2) y0) [2] (R:=[.box 38 [.sl (Yi.Pq.map Gv.c), .sl (Yi.Tr.map (cL (cI .i64)))], .mapN 2 (mapC Gedge.pr (cI .i64) ((Z1i Yi).1)) none, .vec 167 2 (((Z1i Yi).2).map Gedge.cells) false]) (args':=[.own 2, .fn 151 []]) rfl rfl rfl rfl rfl rfl)<|sK [1,2] sN) rfl (by kernel_rfl) (by kernel_rfl) rfl ?_ ?_
 · rfl
 · simp [Z3]
def Z68 (YY:(List Int)) (e_1:Gedge):Int:=(IntKind.wrap .i64 ((IntKind.wrap .i64 ((IntKind.wrap .i64 ((IntKind.wrap .i64 ((YY.getD 0 default) + (YY.getD 1 default))) + (YY.getD 2 default))) - e_1.e0)) - e_1.e1))
def Z6d (YY:(List Int)) (e_1:Gedge):Int:=(Z68 YY e_1)
theorem Zd7 (YY:(List Int)) (e_1:Gedge) (hp0:YY.length≤1073741824) (hp1:YY.length=3)  : Fn prog 142 [.sl (YY.map (cI .i64)), .agg [.i .i64 e_1.e0, .i .i64 e_1.e1]] (.i .i64 (Z6d YY e_1)) []:=by
 have y0:(0:Int)≤0:=(by omega)
 have y1:0 < (YY.length:Int):=(by omega)
 have y2:(0:Int)≤1:=(by omega)
 have y3:1 < (YY.length:Int):=(by omega)
 have y4:(0:Int)≤2:=(by omega)
 have y5:2 < (YY.length:Int):=(by omega)
 refine fnS E0Ok Z7 (c:=X0 f142) [] (.i .i64 (Z68 YY e_1)) [] func142 (sK [16,16]<|sG (cI .i64) YY 0 y0 y1<|sG (cI .i64) YY 1 y2 y3<|sW .i64 ((YY.getD 0 default) + (YY.getD 1 default))<|sG (cI .i64) YY 2 y4 y5<|sW .i64 ((IntKind.wrap .i64 ((YY.getD 0 default) + (YY.getD 1 default))) + (YY.getD 2 default))<|sC (show (0:Int)≤0∧0 < ((2:Nat):Int) from (by decide))<|sW .i64 ((IntKind.wrap .i64 ((IntKind.wrap .i64 ((YY.getD 0 default) + (YY.getD 1 default))) + (YY.getD 2 default))) - e_1.e0)<|sC (show (0:Int)≤1∧1 < ((2:Nat):Int) from (by decide))<|sM (show IntKind.wrap .i64 ((IntKind.wrap .i64 ((IntKind.wrap .i64 ((IntKind.wrap .i64 ((YY.getD 0 default) + (YY.getD 1 default))) + (YY.getD 2 default))) - e_1.e0)) - e_1.e1)=(Z68 YY e_1) from rfl)<|sK [] sN) rfl (by kernel_rfl) (by kernel_rfl) rfl ?_ ?_
 · rfl
 · rfl
def Z3T (Yi:Gm) (Y1:Int):Int:=(Z6d (Yi.Tr.getD ((((Z3 Yi).1).getD (midx ((Z3 Yi).1) (((Z3 Yi).2).getD Y1.toNat default)) default).2.getD 0 default).toNat default) (((Z3 Yi).2).getD Y1.toNat default))
def Z3U (Yi:Gm) (Y1:Int):Int:=(Z6d (Yi.Tr.getD ((((Z3 Yi).1).getD (midx ((Z3 Yi).1) (((Z3 Yi).2).getD Y1.toNat default)) default).2.getD 1 default).toNat default) (((Z3 Yi).2).getD Y1.toNat default))
def Z18 (Yi:Gm):Nat→Int→(List (List Int))→(List (List Int))
  | 0,_,_=>default
  | k + 1,Y1,Yl=>(cond (decide (Y1 < (((Z3 Yi).2).length:Int)))
    (cond (mhas ((Z3 Yi).1) (((Z3 Yi).2).getD Y1.toNat default))
      (cond (((((Z3 Yi).1).getD (midx ((Z3 Yi).1) (((Z3 Yi).2).getD Y1.toNat default)) default).2.length:Int) == 2)
        (Z18 Yi k (Y1 + 1) (Yl ++ [[(((Z3 Yi).2).getD Y1.toNat default).e0,(((Z3 Yi).2).getD Y1.toNat default).e1,(Z3T Yi Y1),(Z3U Yi Y1)]]))
        (Z18 Yi k (Y1 + 1) Yl))
      (Z18 Yi k (Y1 + 1) Yl))
    Yl)
def Z7L (Yi:Gm) (r:(List (List Int))):Ex × St:=((.exit 0),⟨.agg [.sl (Yi.Pq.map Gv.c), .sl (Yi.Tr.map (cL (cI .i64)))] :: .ptr 0 0 0 :: .nils :: .own 1 :: .any :: .own 2 :: an 5 (.agg [.sl (Yi.Pq.map Gv.c), .sl (Yi.Tr.map (cL (cI .i64)))] :: .any :: .mp 3 :: .own 2 :: .own 2 :: an 39 []),[.box 38 [.sl (Yi.Pq.map Gv.c), .sl (Yi.Tr.map (cL (cI .i64)))], .nest 49 (r.map fun l=>l.map (cI .i64)) false, .vec 167 2 (((Z3 Yi).2).map Gedge.cells) false, .mapN 2 (mapC Gedge.pr (cI .i64) ((Z3 Yi).1)) none]⟩)
def Z7M (Yi:Gm) (Y1:Int) (Yl:(List (List Int))):St:=⟨.agg [.sl (Yi.Pq.map Gv.c), .sl (Yi.Tr.map (cL (cI .i64)))] :: .ptr 0 0 0 :: .nils :: .own 1 :: .mp 2 :: .own 3 :: an 5 (.agg [.sl (Yi.Pq.map Gv.c), .sl (Yi.Tr.map (cL (cI .i64)))] :: .any :: .mp 2 :: .own 3 :: .own 3 :: .i .i64 (((Z3 Yi).2).length:Int) :: .i .i64 Y1 :: an 37 []),[.box 38 [.sl (Yi.Pq.map Gv.c), .sl (Yi.Tr.map (cL (cI .i64)))], .nest 49 (Yl.map fun l=>l.map (cI .i64)) false, .mapN 2 (mapC Gedge.pr (cI .i64) ((Z3 Yi).1)) none, .vec 167 2 (((Z3 Yi).2).map Gedge.cells) false]⟩
set_option maxHeartbeats 1000000 in
theorem ZeK (Yi:Gm) (hp0:Yi.Pq.length≤1073741824) (hp1:Yi.Tr.length≤1073741824) (hp2:∀ t∈Yi.Tr,t.length≤1073741824) (hp3:OkE Yi.Pq.length Yi.Tr):∀ (k:Nat) (Y1:Int) (Yl:(List (List Int))) (Z1B:0≤Y1) (Z9M:(Yl.length:Int)≤Y1) (hk:((((Z3 Yi).2).length:Int) - Y1).toNat < k),Lp prog 0 (sub (X0 f115) [1,1,1,0,1,0,0]) (Z7M Yi Y1 Yl) (Z7L Yi (Z18 Yi k Y1 Yl)).1 (Z7L Yi (Z18 Yi k Y1 Yl)).2:=by
 intro k
 induction k with
 | zero=>intro Y1 Yl Z1B Z9M hk;exact absurd hk (Nat.not_lt_zero _)
 | succ k ih =>
  intro Y1 Yl Z1B Z9M hk
  cases Yv:(decide (Y1 < (((Z3 Yi).2).length:Int))) with
  | true =>
   have YI:=odt Yv
   have YT:(0:Int)≤Y1:=(by assumption)
   have YV:Y1 < (((Z3 Yi).2).length:Int):=(by assumption)
   have YX:Y1.toNat < ((Z3 Yi).2).length:=(by omega)
   have p {a C} (s:Scr a C):=sB Yv<|sX Gedge.cells ((Z3 Yi).2) Y1 YT YV<|sV Gedge.cells ((Z3 Yi).2) Y1.toNat YX<|s
   cases YF:(mhas ((Z3 Yi).1) (((Z3 Yi).2).getD Y1.toNat default)) with
   | true =>
    have m_8:=X2E YF
    have q {a C} (s:Scr a C):=p (sA (.keep [midx ((Z3 Yi).1) (((Z3 Yi).2).getD Y1.toNat default)])<|sC (X3o (ck:=Gedge.pr) (cv:=(cI .i64)) YF)<|sM (X5D (ck:=Gedge.pr) (cv:=(cI .i64)) (l:=(Z3 Yi).1) (j:=(midx ((Z3 Yi).1) (((Z3 Yi).2).getD Y1.toNat default))))<|s)
    clear p
    cases h_2:(((((Z3 Yi).1).getD (midx ((Z3 Yi).1) (((Z3 Yi).2).getD Y1.toNat default)) default).2.length:Int) == 2) with
    | true =>
     have Y1A:=eq_of_beq h_2
     have YZ:(0:Int)≤0:=by clear q;exact (by omega)
     have y_4:0 < ((((Z3 Yi).1).getD (midx ((Z3 Yi).1) (((Z3 Yi).2).getD Y1.toNat default)) default).2.length:Int):=by clear q;exact (by omega)
     have y_5:0 < (((Z3 Yi).1).getD (midx ((Z3 Yi).1) (((Z3 Yi).2).getD Y1.toNat default)) default).2.length:=by clear q;exact (by omega)
     have y_6:(0:Int)≤((((Z3 Yi).1).getD (midx ((Z3 Yi).1) (((Z3 Yi).2).getD Y1.toNat default)) default).2.getD 0 default):=by clear q;exact (by ((have q:=Zcy Yi hp3 Z1B (odt (by assumption)) (by assumption);omega)))
     have y_7:((((Z3 Yi).1).getD (midx ((Z3 Yi).1) (((Z3 Yi).2).getD Y1.toNat default)) default).2.getD 0 default) < (Yi.Tr.length:Int):=by clear q;exact (by ((have q:=Zcy Yi hp3 Z1B (odt (by assumption)) (by assumption);omega)))
     have y_8:(Yi.Tr.getD ((((Z3 Yi).1).getD (midx ((Z3 Yi).1) (((Z3 Yi).2).getD Y1.toNat default)) default).2.getD 0 default).toNat default).length≤1073741824:=by clear q;exact (by (have q:=Zcy Yi hp3 Z1B (odt (by assumption)) (by assumption);have q1:=(hp3.tris.at q.1 q.2.1).1;have q2:=(hp3.tris.at q.2.2.1 q.2.2.2.1).1;omega))
     have y_9:(Yi.Tr.getD ((((Z3 Yi).1).getD (midx ((Z3 Yi).1) (((Z3 Yi).2).getD Y1.toNat default)) default).2.getD 0 default).toNat default).length=3:=by clear q;exact (by (have q:=Zcy Yi hp3 Z1B (odt (by assumption)) (by assumption);have q1:=(hp3.tris.at q.1 q.2.1).1;have q2:=(hp3.tris.at q.2.2.1 q.2.2.2.1).1;exact q1))
     have Y1b:(0:Int)≤1:=by clear q;exact (by omega)
     have Y1h:1 < ((((Z3 Yi).1).getD (midx ((Z3 Yi).1) (((Z3 Yi).2).getD Y1.toNat default)) default).2.length:Int):=by clear q;exact (by omega)
     have Y1l:1 < (((Z3 Yi).1).getD (midx ((Z3 Yi).1) (((Z3 Yi).2).getD Y1.toNat default)) default).2.length:=by clear q;exact (by omega)
     have Y1m:(0:Int)≤((((Z3 Yi).1).getD (midx ((Z3 Yi).1) (((Z3 Yi).2).getD Y1.toNat default)) default).2.getD 1 default):=by clear q;exact (by ((have q:=Zcy Yi hp3 Z1B (odt (by assumption)) (by assumption);omega)))
     have Y1q:((((Z3 Yi).1).getD (midx ((Z3 Yi).1) (((Z3 Yi).2).getD Y1.toNat default)) default).2.getD 1 default) < (Yi.Tr.length:Int):=by clear q;exact (by ((have q:=Zcy Yi hp3 Z1B (odt (by assumption)) (by assumption);omega)))
     have Y1r:(Yi.Tr.getD ((((Z3 Yi).1).getD (midx ((Z3 Yi).1) (((Z3 Yi).2).getD Y1.toNat default)) default).2.getD 1 default).toNat default).length≤1073741824:=by clear q;exact (by (have q:=Zcy Yi hp3 Z1B (odt (by assumption)) (by assumption);have q1:=(hp3.tris.at q.1 q.2.1).1;have q2:=(hp3.tris.at q.2.2.1 q.2.2.2.1).1;omega))
     have Y1s:(Yi.Tr.getD ((((Z3 Yi).1).getD (midx ((Z3 Yi).1) (((Z3 Yi).2).getD Y1.toNat default)) default).2.getD 1 default).toNat default).length=3:=by clear q;exact (by (have q:=Zcy Yi hp3 Z1B (odt (by assumption)) (by assumption);have q1:=(hp3.tris.at q.1 q.2.1).1;have q2:=(hp3.tris.at q.2.2.1 q.2.2.2.1).1;exact q2))
     have Y1t:Yl.length + [[(((Z3 Yi).2).getD Y1.toNat default).e0,(((Z3 Yi).2).getD Y1.toNat default).e1,(Z3T Yi Y1),(Z3U Yi Y1)]].length≤1073741824:=by clear q;exact (by ((have q:=Z95 Yi hp3 Z1B (odt (by assumption));(simp only [List.length_append,List.length_cons,List.length_nil];omega))))
     have Y1p:(-9223372036854775808:Int)≤(Y1 + 1):=by clear q;exact (by omega)
     have Y1u:(Y1 + 1)≤(9223372036854775807:Int):=by clear q;exact (by ((have q:=Z95 Yi hp3 Z1B (odt (by assumption));omega)))
     have e:Z18 Yi (k + 1) Y1 Yl=(Z18 Yi k (Y1 + 1) (Yl ++ [[(((Z3 Yi).2).getD Y1.toNat default).e0,(((Z3 Yi).2).getD Y1.toNat default).e1,(Z3T Yi Y1),(Z3U Yi Y1)]])):=by simp only [Z18,Yv,YF,h_2,cond_true]
     rw [e]
     exact X9 E0Ok Z7 [] (mR false [0,6,5,1,1,5,37]) [0,1,2,3] (⟨.agg [.sl (Yi.Pq.map Gv.c), .sl (Yi.Tr.map (cL (cI .i64)))] :: .ptr 0 0 0 :: .nils :: .own 1 :: .mp 2 :: .own 3 :: an 5 (.agg [.sl (Yi.Pq.map Gv.c), .sl (Yi.Tr.map (cL (cI .i64)))] :: .any :: .mp 2 :: .own 3 :: .own 3 :: .i .i64 (((Z3 Yi).2).length:Int) :: .i .i64 (Y1 + 1) :: an 37 []),[.box 38 [.sl (Yi.Pq.map Gv.c), .sl (Yi.Tr.map (cL (cI .i64)))], .nest 49 ((Yl.map fun l=>l.map (cI .i64)) ++ [([[.i .i64 ((((Z3 Yi).2).getD Y1.toNat default).e0)],[.i .i64 ((((Z3 Yi).2).getD Y1.toNat default).e1)],[.i .i64 (Z3T Yi Y1)],[.i .i64 (Z3U Yi Y1)]]:List (List AV))]) false, .mapN 2 (mapC Gedge.pr (cI .i64) ((Z3 Yi).1)) none, .vec 167 2 (((Z3 Yi).2).map Gedge.cells) false]⟩) (q (sB h_2<|sK [25,25]<|sC (show (0:Int)≤0∧0 < ((2:Nat):Int) from (by decide))<|sC (show (0:Int)≤1∧1 < ((2:Nat):Int) from (by decide))<|sC (X67 (ck:=Gedge.pr) (cv:=(cI .i64)) (l:=(Z3 Yi).1) (j:=(midx ((Z3 Yi).1) (((Z3 Yi).2).getD Y1.toNat default))) (i:=0) YZ y_4)<|sE (X66 (ck:=Gedge.pr) (cv:=(cI .i64)) (l:=(Z3 Yi).1) (j:=(midx ((Z3 Yi).1) (((Z3 Yi).2).getD Y1.toNat default))) (i:=0) y_5)<|sG (cL (cI .i64)) Yi.Tr ((((Z3 Yi).1).getD (midx ((Z3 Yi).1) (((Z3 Yi).2).getD Y1.toNat default)) default).2.getD 0 default) y_6 y_7<|sF (Zd7 (Yi.Tr.getD ((((Z3 Yi).1).getD (midx ((Z3 Yi).1) (((Z3 Yi).2).getD Y1.toNat default)) default).2.getD 0 default).toNat default) (((Z3 Yi).2).getD Y1.toNat default) y_8 y_9)<|sC (X67 (ck:=Gedge.pr) (cv:=(cI .i64)) (l:=(Z3 Yi).1) (j:=(midx ((Z3 Yi).1) (((Z3 Yi).2).getD Y1.toNat default))) (i:=1) Y1b Y1h)<|sE (X66 (ck:=Gedge.pr) (cv:=(cI .i64)) (l:=(Z3 Yi).1) (j:=(midx ((Z3 Yi).1) (((Z3 Yi).2).getD Y1.toNat default))) (i:=1) Y1l)<|sG (cL (cI .i64)) Yi.Tr ((((Z3 Yi).1).getD (midx ((Z3 Yi).1) (((Z3 Yi).2).getD Y1.toNat default)) default).2.getD 1 default) Y1m Y1q<|sF (Zd7 (Yi.Tr.getD ((((Z3 Yi).1).getD (midx ((Z3 Yi).1) (((Z3 Yi).2).getD Y1.toNat default)) default).2.getD 1 default).toNat default) (((Z3 Yi).2).getD Y1.toNat default) Y1r Y1s)<|sC (show (Yl.map fun l=>l.map (cI .i64)).length + [([[.i .i64 ((((Z3 Yi).2).getD Y1.toNat default).e0)],[.i .i64 ((((Z3 Yi).2).getD Y1.toNat default).e1)],[.i .i64 (Z3T Yi Y1)],[.i .i64 (Z3U Yi Y1)]]:List (List AV))].length≤1073741824 from (by simpa using Y1t))<|sI (Y1 + 1) Y1p Y1u<|sN)) (by kernel_rfl) (by simp [Z7M,cL,cI]) (ih (Y1 + 1) (Yl ++ [[(((Z3 Yi).2).getD Y1.toNat default).e0,(((Z3 Yi).2).getD Y1.toNat default).e1,(Z3T Yi Y1),(Z3U Yi Y1)]]) (show 0≤(Y1 + 1) from (by omega)) (show ((Yl ++ [[(((Z3 Yi).2).getD Y1.toNat default).e0,(((Z3 Yi).2).getD Y1.toNat default).e1,(Z3T Yi Y1),(Z3U Yi Y1)]]).length:Int)≤(Y1 + 1) from (by ((have q:=Z95 Yi hp3 Z1B (odt (by assumption));(simp only [List.length_append,List.length_cons,List.length_nil];omega))))) (by omega))
    | false =>
     have Y1A:=ne_of_beq_false h_2
     have YZ:(-9223372036854775808:Int)≤(Y1 + 1):=by clear q;exact (by omega)
     have y_4:(Y1 + 1)≤(9223372036854775807:Int):=by clear q;exact (by ((have q:=Z95 Yi hp3 Z1B (odt (by assumption));omega)))
     have e:Z18 Yi (k + 1) Y1 Yl=(Z18 Yi k (Y1 + 1) Yl):=by simp only [Z18,Yv,YF,h_2,cond_true,cond_false]
     rw [e]
     exact X8 E0Ok Z7 [] (mR false [0,6,5,1,1,5,37]) [0,1,2,3] (ih (Y1 + 1) Yl (show 0≤(Y1 + 1) from (by omega)) (show (Yl.length:Int)≤(Y1 + 1) from (by omega)) (by omega)) (q (sB h_2<|sI (Y1 + 1) YZ y_4<|sN)) (by kernel_rfl)
   | false =>
    have YZ:(-9223372036854775808:Int)≤(Y1 + 1):=by clear p;exact (by omega)
    have y_4:(Y1 + 1)≤(9223372036854775807:Int):=by clear p;exact (by ((have q:=Z95 Yi hp3 Z1B (odt (by assumption));omega)))
    have e:Z18 Yi (k + 1) Y1 Yl=(Z18 Yi k (Y1 + 1) Yl):=by simp only [Z18,Yv,YF,cond_true,cond_false]
    rw [e]
    exact X8 E0Ok Z7 [] (mR false [0,6,5,1,1,5,37]) [0,1,2,3] (ih (Y1 + 1) Yl (show 0≤(Y1 + 1) from (by omega)) (show (Yl.length:Int)≤(Y1 + 1) from (by omega)) (by omega)) (p (sA (.keep [])<|sC (X4c (ck:=Gedge.pr) (cv:=(cI .i64)) Gedge.inj YF)<|sM (show ((0:Nat):Int)=0 from rfl)<|sB (show (0 == 2)=false from rfl)<|sI (Y1 + 1) YZ y_4<|sN)) (by kernel_rfl)
  | false =>
   have YI:=odf Yv
   have e:Z18 Yi (k + 1) Y1 Yl=Yl:=by simp only [Z18,Yv,cond_false]
   rw [e]
   exact outR (e:=(.exit 0)) E0Ok Z7 [] (mR false [0,4,1,1,5,1,1,3,39]) [0,1,3,2] (sB Yv<|sN) (by kernel_rfl) (by intro h;cases h)
def Z5u (Yi:Gm):(List (List Int)):=(Z18 Yi (((((Z3 Yi).2).length:Int) - 0).toNat + 1) 0 ([]:List (List Int)))
def Za (Yi:Gm):(List (List Int)):=(Z5u Yi)
theorem Z6C (m:Gm) (ok:OkE m.Pq.length m.Tr):Za m=hgL m.Pq.length m.Tr:=by
  unfold Za Z5u
  refine (X3Y (a:=(Z3 m).2) (p:=fun e=>decide ((idxP m.Tr e.e0 e.e1).length=2)) (f:=fun e => [e.e0,e.e1] ++ (idxP m.Tr e.e0 e.e1).map fun i=>thd (m.Tr.getD i.toNat default) e.e0 e.e1) (lo:=Z18 m) (fun k i r h0 hi => ?_) (fun k i r hi => ?_)).trans ?_
  · have q:=Z95 m ok h0 hi
    have hm:=ZeJ m ok h0 hi
    obtain ⟨g1,g2⟩:=ZhD m ok hm
    rw [Z18,decide_eq_true hi,cond_true,g1,cond_true,g2]
    unfold Z3T Z3U
    rw [g2]
    generalize (Z3 m).2.getD i.toNat default=e at *
    by_cases h2:(idxP m.Tr e.e0 e.e1).length=2
    · rw [decide_eq_true h2,show (((idxP m.Tr e.e0 e.e1).length:Int) == 2)=true from by rw [beq_iff_eq];omega,cond_true,cond_true]
      have hthd:∀ k:Nat,k < 2→Z6d (m.Tr.getD ((idxP m.Tr e.e0 e.e1).getD k default).toNat default) e=thd (m.Tr.getD ((idxP m.Tr e.e0 e.e1).getD k default).toNat default) e.e0 e.e1:=by
        intro k hk
        obtain ⟨a1,a2,a3⟩:=X4f (ts:=m.Tr) (a:=e.e0) (b:=e.e1) (k:=k) (by omega)
        generalize (idxP m.Tr e.e0 e.e1).getD k default=i' at *
        have q2:=ok.tris.at a1 a2
        generalize m.Tr.getD i'.toNat default=t at *
        have h64:=ok.1
        unfold Z6d Z68 thd
        rw [Xb (n:=t.getD 0 default + t.getD 1 default) (by omega) (by omega),Xb (n:=t.getD 0 default + t.getD 1 default + t.getD 2 default) (by omega) (by omega),Xb (n:=t.getD 0 default + t.getD 1 default + t.getD 2 default - e.e0) (by omega) (by omega),Xb (n:=t.getD 0 default + t.getD 1 default + t.getD 2 default - e.e0 - e.e1) (by omega) (by omega)]
      rw [hthd 0 (by omega),hthd 1 (by omega)]
      generalize idxP m.Tr e.e0 e.e1=l at *
      match l,h2 with
      | [a,b],_=>rfl
    · rw [decide_eq_false h2,show (((idxP m.Tr e.e0 e.e1).length:Int) == 2)=false from by rw [beq_eq_false_iff_ne];omega,cond_false,cond_false]
  · rw [Z18,decide_eq_false (by omega),cond_false]
  · rw [Zce m ok];rfl
theorem ZhN (m:Gm) (ok:OkE m.Pq.length m.Tr) {i:Int} (h0:0≤i) (hi:i < ((Za m).length:Int)):((Za m).getD i.toNat default).length=4∧∀ x∈(Za m).getD i.toNat default,0≤x∧x < (m.Pq.length:Int):=by
  refine X6d ok ?_
  rw [← Z6C m ok,List.getD_eq_getElem?_getD,List.getElem?_eq_getElem (by omega)];exact List.getElem_mem _
theorem Z7m {m:Gm} (ok:OkE m.Pq.length m.Tr) {i:Int} (h0:0≤i) (hi:decide (i < ((Za m).length:Int))=true):((Za m).getD i.toNat default).length=4∧∀ x∈(Za m).getD i.toNat default,0≤x∧x < (m.Pq.length:Int):=ZhN m ok h0 (odt hi)
theorem ZiE {m:Gm} (ok:OkE m.Pq.length m.Tr) {i:Int} (h0:0≤i) (hi:decide (i < ((Za m).length:Int))=true):((Za m).getD i.toNat default).length≤1073741824:=by have:=(Z7m ok h0 hi).1;omega
theorem ZbE (m:Gm) (ok:OkE m.Pq.length m.Tr):(Za m).length≤4096:=by rw [Z6C m ok];exact X6c ok
theorem Zcz (Yi:Gm) (hp0:Yi.Pq.length≤1073741824) (hp1:Yi.Tr.length≤1073741824) (hp2:∀ t∈Yi.Tr,t.length≤1073741824) (hp3:OkE Yi.Pq.length Yi.Tr)  : Fn prog 115 [.agg [.sl (Yi.Pq.map Gv.c), .sl (Yi.Tr.map (cL (cI .i64)))]] (.own 0) [.nest 49 ((Za Yi).map fun l=>l.map (cI .i64)) false]:=by
 refine fnS E0Ok Z7 (c:=X0 f115) [] (.own 0) [.nest 49 ((Z5u Yi).map fun l=>l.map (cI .i64)) false] func115 (sF (ZcM Yi hp0 hp1 hp2 hp3)<|sZ Gedge.cells ((Z3 Yi).2)<|sL (mR false [0,6,5,1,1,5,37]) 4 (Xk (st2:=⟨.agg [.sl (Yi.Pq.map Gv.c), .sl (Yi.Tr.map (cL (cI .i64)))] :: .ptr 0 0 0 :: .nils :: .own 1 :: .mp 2 :: .own 3 :: an 5 (.agg [.sl (Yi.Pq.map Gv.c), .sl (Yi.Tr.map (cL (cI .i64)))] :: .any :: .mp 2 :: .own 3 :: .own 3 :: .i .i64 (((Z3 Yi).2).length:Int) :: .i .i64 0 :: an 37 []),[.box 38 [.sl (Yi.Pq.map Gv.c), .sl (Yi.Tr.map (cL (cI .i64)))], .nest 49 [] false, .mapN 2 (mapC Gedge.pr (cI .i64) ((Z3 Yi).1)) none, .vec 167 2 (((Z3 Yi).2).map Gedge.cells) false]⟩) (X1 (Z7L Yi) (x:=(Z5u Yi)) (ZeK Yi hp0 hp1 hp2 hp3 (((((Z3 Yi).2).length:Int) - 0).toNat + 1) 0 ([]:List (List Int)) (show 0≤0 from (by omega)) (show (([]:List (List Int)).length:Int)≤0 from (by simp)) (Nat.lt_succ_self _)) rfl) (by simp [Z7M,cL,cI]))<|sK [1] sN) rfl (by kernel_rfl) (by kernel_rfl) rfl ?_ ?_
 · rfl
 · simp [Za]
def Z6D (Yi:Gm) (YF:(List Int)):Gv:=(Z2g (ZD (Yi.Pq.getD (YF.getD 2 default).toNat default) (Yi.Pq.getD (YF.getD 3 default).toNat default)) (ZD (Yi.Pq.getD (YF.getD 0 default).toNat default) (Yi.Pq.getD (YF.getD 1 default).toNat default)))
def ZG (Yi:Gm) (YF:(List Int)):Gv:=(Z6D Yi YF)
theorem ZdP (Yi:Gm) (YF:(List Int)) (hp0:Yi.Pq.length≤1073741824) (hp1:Yi.Tr.length≤1073741824) (hp2:∀ t∈Yi.Tr,t.length≤1073741824) (hp3:YF.length≤1073741824) (hp4:YF.length=4∧∀ x∈YF,0≤x∧x < (Yi.Pq.length:Int))  : Fn prog 116 [.agg [.sl (Yi.Pq.map Gv.c), .sl (Yi.Tr.map (cL (cI .i64)))], .sl (YF.map (cI .i64))] (.agg [.f .f32 ((ZG Yi YF).X), .f .f32 ((ZG Yi YF).Y), .f .f32 ((ZG Yi YF).Z)]) []:=by
 have y0:(0:Int)≤2:=(by omega)
 have y1:2 < (YF.length:Int):=(by omega)
 have y2:(0:Int)≤(YF.getD 2 default):=(by have q:=Okh.at hp4;omega)
 have y3:(YF.getD 2 default) < (Yi.Pq.length:Int):=(by have q:=Okh.at hp4;omega)
 have y4:(0:Int)≤3:=(by omega)
 have y5:3 < (YF.length:Int):=(by omega)
 have y6:(0:Int)≤(YF.getD 3 default):=(by have q:=Okh.at hp4;omega)
 have y7:(YF.getD 3 default) < (Yi.Pq.length:Int):=(by have q:=Okh.at hp4;omega)
 have y8:(0:Int)≤0:=(by omega)
 have y9:0 < (YF.length:Int):=(by omega)
 have y10:(0:Int)≤(YF.getD 0 default):=(by have q:=Okh.at hp4;omega)
 have y11:(YF.getD 0 default) < (Yi.Pq.length:Int):=(by have q:=Okh.at hp4;omega)
 have y12:(0:Int)≤1:=(by omega)
 have y13:1 < (YF.length:Int):=(by omega)
 have y14:(0:Int)≤(YF.getD 1 default):=(by have q:=Okh.at hp4;omega)
 have y15:(YF.getD 1 default) < (Yi.Pq.length:Int):=(by have q:=Okh.at hp4;omega)
 refine fnS E0Ok Z7 (c:=X0 f116) [] (.agg [.f .f32 ((Z6D Yi YF).X), .f .f32 ((Z6D Yi YF).Y), .f .f32 ((Z6D Yi YF).Z)]) [] func116 (sK [25,25]<|sG (cI .i64) YF 2 y0 y1<|sG Gv.c Yi.Pq (YF.getD 2 default) y2 y3<|sG (cI .i64) YF 3 y4 y5<|sG Gv.c Yi.Pq (YF.getD 3 default) y6 y7<|sF (Z4X (Yi.Pq.getD (YF.getD 2 default).toNat default) (Yi.Pq.getD (YF.getD 3 default).toNat default))<|sG (cI .i64) YF 0 y8 y9<|sG Gv.c Yi.Pq (YF.getD 0 default) y10 y11<|sG (cI .i64) YF 1 y12 y13<|sG Gv.c Yi.Pq (YF.getD 1 default) y14 y15<|sF (Z4X (Yi.Pq.getD (YF.getD 0 default).toNat default) (Yi.Pq.getD (YF.getD 1 default).toNat default))<|sF (Z4N (ZD (Yi.Pq.getD (YF.getD 2 default).toNat default) (Yi.Pq.getD (YF.getD 3 default).toNat default)) (ZD (Yi.Pq.getD (YF.getD 0 default).toNat default) (Yi.Pq.getD (YF.getD 1 default).toNat default)))<|sK [] sN) rfl (by kernel_rfl) (by kernel_rfl) rfl ?_ ?_
 · rfl
 · rfl
def Z3V (Y0:Gb) (Y1:Int) (Yl:(List Gv)):(List Gv):=(ZL ((Y0.Sp.getD Y1.toNat default).A) (ZF Y0 (Y0.Sp.getD Y1.toNat default)) (Z4E (ZF Y0 (Y0.Sp.getD Y1.toNat default)) (Y0.Sp.getD Y1.toNat default)) Yl)
@[simp] theorem Z8q (Y0:Gb) (Y1:Int) (Yl:(List Gv)):(Z3V Y0 Y1 Yl).length=Yl.length:=by unfold Z3V;simp
def Z3W (Y0:Gb) (Y1:Int) (Yl:(List Gv)):(List Gv):=(ZL ((Y0.Sp.getD Y1.toNat default).B) (ZF Y0 (Y0.Sp.getD Y1.toNat default)) (fneg .f32 (Z4E (ZF Y0 (Y0.Sp.getD Y1.toNat default)) (Y0.Sp.getD Y1.toNat default))) (Z3V Y0 Y1 Yl))
@[simp] theorem ZhO (Y0:Gb) (Y1:Int) (Yl:(List Gv)):(Z3W Y0 Y1 Yl).length=(Z3V Y0 Y1 Yl).length:=by unfold Z3W;simp
def Z1L (Y0:Gb):Nat→Int→(List Gv)→(List Gv)
  | 0,_,_=>default
  | k + 1,Y1,Yl=>(cond (decide (Y1 < (Y0.Sp.length:Int)))
    (Z1L Y0 k (Y1 + 1) (Z3W Y0 Y1 Yl))
    Yl)
def Z7N (Y0:Gb) (r:(List Gv)):Ex × St:=((.exit 0),⟨.agg [.sl (Y0.Me.Pq.map Gv.c), .sl (Y0.Me.Tr.map (cL (cI .i64))), .sl (Y0.Sp.map Gs.c), .f .f32 Y0.Film, .f .f32 Y0.Bend, .sl (Y0.We.map (cF .f32)), .f .f32 Y0.Fall.X, .f .f32 Y0.Fall.Y, .f .f32 Y0.Fall.Z] :: .ptr 0 0 0 :: .nils :: .ptr 1 0 0 :: .fn 106 [.ptr 1 0 0] :: an 18 (.ptr 0 0 0 :: .ptr 0 0 0 :: .sl (Y0.Me.Pq.map Gv.c) :: .i .i64 (Y0.Me.Pq.length:Int) :: .own 2 :: .fn 106 [.ptr 1 0 0] :: .ptr 0 0 2 :: .sl (Y0.Sp.map Gs.c) :: an 148 []),[.box 42 [.sl (Y0.Me.Pq.map Gv.c), .sl (Y0.Me.Tr.map (cL (cI .i64))), .sl (Y0.Sp.map Gs.c), .f .f32 Y0.Film, .f .f32 Y0.Bend, .sl (Y0.We.map (cF .f32)), .f .f32 Y0.Fall.X, .f .f32 Y0.Fall.Y, .f .f32 Y0.Fall.Z], .box 34 [.own 2], .vec 40 3 (r.map Gv.c) false]⟩)
def Zb5 (Y0:Gb) (Y1:Int) (Yl:(List Gv)):St:=⟨.agg [.sl (Y0.Me.Pq.map Gv.c), .sl (Y0.Me.Tr.map (cL (cI .i64))), .sl (Y0.Sp.map Gs.c), .f .f32 Y0.Film, .f .f32 Y0.Bend, .sl (Y0.We.map (cF .f32)), .f .f32 Y0.Fall.X, .f .f32 Y0.Fall.Y, .f .f32 Y0.Fall.Z] :: .ptr 0 0 0 :: .nils :: .ptr 2 0 0 :: .fn 106 [.ptr 2 0 0] :: an 18 (.ptr 0 0 0 :: .ptr 0 0 0 :: .sl (Y0.Me.Pq.map Gv.c) :: .i .i64 (Y0.Me.Pq.length:Int) :: .own 1 :: .fn 106 [.ptr 2 0 0] :: .ptr 0 0 2 :: .sl (Y0.Sp.map Gs.c) :: .i .i64 (Y0.Sp.length:Int) :: .i .i64 Y1 :: an 146 []),[.box 42 [.sl (Y0.Me.Pq.map Gv.c), .sl (Y0.Me.Tr.map (cL (cI .i64))), .sl (Y0.Sp.map Gs.c), .f .f32 Y0.Film, .f .f32 Y0.Bend, .sl (Y0.We.map (cF .f32)), .f .f32 Y0.Fall.X, .f .f32 Y0.Fall.Y, .f .f32 Y0.Fall.Z], .vec 40 3 (Yl.map Gv.c) false, .box 34 [.own 1]]⟩
theorem ZeL (Y0:Gb) (hp0:Y0.Me.Pq.length≤1073741824) (hp1:Y0.Me.Tr.length≤1073741824) (hp2:∀ t∈Y0.Me.Tr,t.length≤1073741824) (hp3:Y0.Sp.length≤1073741824) (hp4:Y0.We.length≤1073741824) (hp5:OkBd Y0):∀ (k:Nat) (Y1:Int) (Yl:(List Gv)) (Z9N:0≤Y1) (Z9O:Yl.length=Y0.Me.Pq.length) (hk:((Y0.Sp.length:Int) - Y1).toNat < k),Lp prog 0 (sub (X0 f57) [1,1,1,0,1,0,0]) (Zb5 Y0 Y1 Yl) (Z7N Y0 (Z1L Y0 k Y1 Yl)).1 (Z7N Y0 (Z1L Y0 k Y1 Yl)).2:=by
 intro k
 induction k with
 | zero=>intro Y1 Yl Z9N Z9O hk;exact absurd hk (Nat.not_lt_zero _)
 | succ k ih =>
  intro Y1 Yl Z9N Z9O hk
  cases Yv:(decide (Y1 < (Y0.Sp.length:Int))) with
  | true =>
   have YI:=odt Yv
   have YT:(0:Int)≤Y1:=(by assumption)
   have YV:Y1 < (Y0.Sp.length:Int):=(by assumption)
   have YX:0≤(Y0.Sp.getD Y1.toNat default).A:=(by have q:=Z3O hp5 (by assumption) Yv;omega)
   have YZ:(Y0.Sp.getD Y1.toNat default).A < (Y0.Me.Pq.length:Int):=(by have q:=Z3O hp5 (by assumption) Yv;omega)
   have y_4:0≤(Y0.Sp.getD Y1.toNat default).B:=(by have q:=Z3O hp5 (by assumption) Yv;omega)
   have y_5:(Y0.Sp.getD Y1.toNat default).B < (Y0.Me.Pq.length:Int):=(by have q:=Z3O hp5 (by assumption) Yv;omega)
   have y_6:Yl.length≤1073741824:=(by omega)
   have y_7:0≤((Y0.Sp.getD Y1.toNat default).A):=(by assumption)
   have y_8:((Y0.Sp.getD Y1.toNat default).A) < (Yl.length:Int):=(by omega)
   have y_9:(Z3V Y0 Y1 Yl).length≤1073741824:=(by have q:=Z3O hp5 (by assumption) Yv;(simp only [Z8q];omega))
   have Y1b:0≤((Y0.Sp.getD Y1.toNat default).B):=(by assumption)
   have Y1h:((Y0.Sp.getD Y1.toNat default).B) < ((Z3V Y0 Y1 Yl).length:Int):=(by have q:=Z3O hp5 (by assumption) Yv;(simp only [Z8q];omega))
   have Y1l:(-9223372036854775808:Int)≤(Y1 + 1):=(by omega)
   have Y1m:(Y1 + 1)≤(9223372036854775807:Int):=(by omega)
   have e:Z1L Y0 (k + 1) Y1 Yl=(Z1L Y0 k (Y1 + 1) (Z3W Y0 Y1 Yl)):=by simp only [Z1L,Yv,cond_true]
   rw [e]
   exact X8 E0Ok Z7 [] (mR false [0,5,18,10,146]) [0,1,2] (ih (Y1 + 1) (Z3W Y0 Y1 Yl) (show 0≤(Y1 + 1) from (by omega)) (show (Z3W Y0 Y1 Yl).length=Y0.Me.Pq.length from (by simp_all<;>omega)) (by omega)) (sB Yv<|sG Gs.c Y0.Sp Y1 YT YV<|sF (Zb3 Y0 (Y0.Sp.getD Y1.toNat default) hp0 hp1 hp2 hp3 hp4 YX YZ y_4 y_5)<|sF (Zhi (ZF Y0 (Y0.Sp.getD Y1.toNat default)) (Y0.Sp.getD Y1.toNat default))<|sS (X4.frame (Z2k ((Y0.Sp.getD Y1.toNat default).A) (ZF Y0 (Y0.Sp.getD Y1.toNat default)) (Z4E (ZF Y0 (Y0.Sp.getD Y1.toNat default)) (Y0.Sp.getD Y1.toNat default)) Yl y_6 y_7 y_8) [2,1] (R:=[.box 42 [.sl (Y0.Me.Pq.map Gv.c), .sl (Y0.Me.Tr.map (cL (cI .i64))), .sl (Y0.Sp.map Gs.c), .f .f32 Y0.Film, .f .f32 Y0.Bend, .sl (Y0.We.map (cF .f32)), .f .f32 Y0.Fall.X, .f .f32 Y0.Fall.Y, .f .f32 Y0.Fall.Z], .vec 40 3 (Yl.map Gv.c) false, .box 34 [.own 1], .box 133 [.i .i64 ((Y0.Sp.getD Y1.toNat default).A), .i .i64 ((Y0.Sp.getD Y1.toNat default).B), .f .f32 ((Y0.Sp.getD Y1.toNat default).Long), .f .f32 ((Y0.Sp.getD Y1.toNat default).Stiff)], .box 40 [.f .f32 ((ZF Y0 (Y0.Sp.getD Y1.toNat default)).X), .f .f32 ((ZF Y0 (Y0.Sp.getD Y1.toNat default)).Y), .f .f32 ((ZF Y0 (Y0.Sp.getD Y1.toNat default)).Z)]]) (args':=[.i .i64 ((Y0.Sp.getD Y1.toNat default).A), .agg [.f .f32 ((ZF Y0 (Y0.Sp.getD Y1.toNat default)).X), .f .f32 ((ZF Y0 (Y0.Sp.getD Y1.toNat default)).Y), .f .f32 ((ZF Y0 (Y0.Sp.getD Y1.toNat default)).Z)], .f .f32 (Z4E (ZF Y0 (Y0.Sp.getD Y1.toNat default)) (Y0.Sp.getD Y1.toNat default)), .ptr 2 0 0]) rfl rfl rfl rfl rfl rfl)<|sS (X4.frame (Z2k ((Y0.Sp.getD Y1.toNat default).B) (ZF Y0 (Y0.Sp.getD Y1.toNat default)) (fneg .f32 (Z4E (ZF Y0 (Y0.Sp.getD Y1.toNat default)) (Y0.Sp.getD Y1.toNat default))) (Z3V Y0 Y1 Yl) y_9 Y1b Y1h) [2,1] (R:=[.box 42 [.sl (Y0.Me.Pq.map Gv.c), .sl (Y0.Me.Tr.map (cL (cI .i64))), .sl (Y0.Sp.map Gs.c), .f .f32 Y0.Film, .f .f32 Y0.Bend, .sl (Y0.We.map (cF .f32)), .f .f32 Y0.Fall.X, .f .f32 Y0.Fall.Y, .f .f32 Y0.Fall.Z], .vec 40 3 ((Z3V Y0 Y1 Yl).map Gv.c) false, .box 34 [.own 1], .box 133 [.i .i64 ((Y0.Sp.getD Y1.toNat default).A), .i .i64 ((Y0.Sp.getD Y1.toNat default).B), .f .f32 ((Y0.Sp.getD Y1.toNat default).Long), .f .f32 ((Y0.Sp.getD Y1.toNat default).Stiff)], .box 40 [.f .f32 ((ZF Y0 (Y0.Sp.getD Y1.toNat default)).X), .f .f32 ((ZF Y0 (Y0.Sp.getD Y1.toNat default)).Y), .f .f32 ((ZF Y0 (Y0.Sp.getD Y1.toNat default)).Z)]]) (args':=[.i .i64 ((Y0.Sp.getD Y1.toNat default).B), .agg [.f .f32 ((ZF Y0 (Y0.Sp.getD Y1.toNat default)).X), .f .f32 ((ZF Y0 (Y0.Sp.getD Y1.toNat default)).Y), .f .f32 ((ZF Y0 (Y0.Sp.getD Y1.toNat default)).Z)], .f .f32 (fneg .f32 (Z4E (ZF Y0 (Y0.Sp.getD Y1.toNat default)) (Y0.Sp.getD Y1.toNat default))), .ptr 2 0 0]) rfl rfl rfl rfl rfl rfl)<|sI (Y1 + 1) Y1l Y1m<|sN) (by kernel_rfl)
  | false =>
   have YI:=odf Yv
   have e:Z1L Y0 (k + 1) Y1 Yl=Yl:=by simp only [Z1L,Yv,cond_false]
   rw [e]
   exact outR (e:=(.exit 0)) E0Ok Z7 [] (mR false [0,5,18,8,148]) [0,2,1] (sB Yv<|sN) (by kernel_rfl) (by intro h;cases h)
end Go.Ab
