/- The functions of this seat as plain Lean, and that the program's are these. Printed by a program of the prover's own. -/
import Derived.Test.YtoibkmljibnjnaaB6
set_option linter.unusedVariables false
set_option linter.unusedSimpArgs false
set_option maxRecDepth 100000
namespace Go.Ab
open Go.RowKit Go.Proofs.Try
theorem Z9G (a b:Gedge):Z38 a b=cmpP a.pr b.pr:=by
  unfold Z38 Z15 Z1f cmpP Gedge.pr
  show (match Zs [a.e0,a.e1] [b.e0,b.e1] 3 0 with | .inl r1=>r1 | .inr r1=>cond (decide (((2:Nat):Int) < ((2:Nat):Int))) (-1) 0)=_
  simp only [Zs,Z9F,List.length_cons,List.length_nil]
  by_cases h1:a.e0 < b.e0
  · simp [h1]
  · by_cases h2:a.e0 > b.e0
    · simp [h1,h2]
    · by_cases h3:a.e1 < b.e1
      · simp [h1,h2,h3]
      · by_cases h4:a.e1 > b.e1<;>simp [h1,h2,h3,h4]
def Z2F (l:List Gedge):List Gedge:=X2s Gedge.pr l
theorem Z5w (l:List Gedge) (h:l.length≤1073741824):X9 prog 119 [.vec 113 2 (l.map Gedge.cells) false] [.own 0, .fn 120 []] (.tup []) [.vec 113 2 ((Z2F l).map Gedge.cells) false] :=
  X9K laysF0n6 isAgg113 sizeOf113 Gedge.pr Gedge.inj Gedge.cells (fun _=>rfl) 113 120 ⟨_,func119,rfl,by kernel_rfl⟩ (Z4E default default).1
    (fun a b W=>((Z4E a b).2 W #[keyV a.pr,keyV b.pr] ⟨rfl,fun j c e=>by match j,e with | 0,e=>cases e;exact Rep.agg _ _ rfl (fun i c e=>by match i,e with | 0,e=>cases e;exact .i _ _ | 1,e=>cases e;exact .i _ _) | 1,e=>cases e;exact Rep.agg _ _ rfl (fun i c e=>by match i,e with | 0,e=>cases e;exact .i _ _ | 1,e=>cases e;exact .i _ _)⟩).mono fun e w' ⟨v,μ',he,hb,_,hr⟩=>by
      cases hr;rw [Z9G] at he;exact ⟨he,hb⟩) l h
def Z5 (Y4:Gm):(List (Gedge × List Int)) × (List Gedge):=((ZL Y4).1,(Z2F ((ZL Y4).2)))
theorem Z43 (m:Gm) (ok:OkE m.Pq.length m.Tr):(Z5 m).2=edgL m.Pq.length m.Tr:=(Z7w m ok).sorted ok
theorem Z7V (m:Gm) (ok:OkE m.Pq.length m.Tr) {e:Gedge} (he:e∈(Z5 m).2):mhas (Z5 m).1 e=true∧((Z5 m).1.getD (midx (Z5 m).1 e) default).2=idxP m.Tr e.e0 e.e1:=by
  rw [Z43 m ok] at he
  have h:=(Z7w m ok).at ok he
  exact ⟨h.1,h.2.trans (Xa7 ok (X4o.1 he).1.2.1)⟩
theorem Z7H (m:Gm) (ok:OkE m.Pq.length m.Tr):(Z5 m).2.length≤4096:=by
  rw [Z43 m ok];exact X3y ok
theorem Z6v (m:Gm) (ok:OkE m.Pq.length m.Tr) {i:Int} (h0:0≤i) (hi:i < ((Z5 m).2.length:Int)):(Z5 m).2.getD i.toNat default∈(Z5 m).2:=by
  have hn:i.toNat < (Z5 m).2.length:=by omega
  rw [List.getD_eq_getElem?_getD,List.getElem?_eq_getElem hn];exact List.getElem_mem hn
theorem Z29 (m:Gm) (ok:OkE m.Pq.length m.Tr) {i:Int} (h0:0≤i) (hi:i < ((Z5 m).2.length:Int)) :
    0≤((Z5 m).2.getD i.toNat default).e0∧((Z5 m).2.getD i.toNat default).e0 < ((Z5 m).2.getD i.toNat default).e1∧((Z5 m).2.getD i.toNat default).e1 < (m.Pq.length:Int)∧(m.Pq.length:Int)≤64∧((Z5 m).2.length:Int)≤4096:=by
  have hl:=Z7H m ok
  have h64:=ok.1
  have hm:=Z6v m ok h0 hi
  rw [Z43 m ok] at hm
  have hb:=X5e hm
  rw [← Z43 m ok] at hb
  exact ⟨hb.1,hb.2.1,hb.2.2,by omega,by omega⟩
theorem Z5z (m:Gm) (ok:OkE m.Pq.length m.Tr) {i:Int} (h0:0≤i) (hi:i < ((Z5 m).2.length:Int))
    (h2:((((Z5 m).1.getD (midx (Z5 m).1 ((Z5 m).2.getD i.toNat default)) default).2.length:Int))=2) :
    0≤((Z5 m).1.getD (midx (Z5 m).1 ((Z5 m).2.getD i.toNat default)) default).2.getD 0 default∧((Z5 m).1.getD (midx (Z5 m).1 ((Z5 m).2.getD i.toNat default)) default).2.getD 0 default < (m.Tr.length:Int) ∧
    0≤((Z5 m).1.getD (midx (Z5 m).1 ((Z5 m).2.getD i.toNat default)) default).2.getD 1 default∧((Z5 m).1.getD (midx (Z5 m).1 ((Z5 m).2.getD i.toNat default)) default).2.getD 1 default < (m.Tr.length:Int)∧(m.Tr.length:Int)≤128:=by
  obtain ⟨g1,g2⟩:=Z7V m ok (Z6v m ok h0 hi)
  rw [g2] at h2 ⊢
  have a1:=X5f (ts:=m.Tr) (a:=((Z5 m).2.getD i.toNat default).e0) (b:=((Z5 m).2.getD i.toNat default).e1) (k:=0) (by omega)
  have a2:=X5f (ts:=m.Tr) (a:=((Z5 m).2.getD i.toNat default).e0) (b:=((Z5 m).2.getD i.toNat default).e1) (k:=1) (by omega)
  have:=ok.2.1
  exact ⟨a1.1,a1.2.1,a2.1,a2.2.1,by omega⟩
theorem Z3U (Y4:Gm) (hp0:Y4.Pq.length≤1073741824) (hp1:Y4.Tr.length≤1073741824) (hp2:∀ t∈Y4.Tr,t.length≤1073741824) (hp3:OkE Y4.Pq.length Y4.Tr)  : Fn prog 82 [.agg [.sl (Y4.Pq.map Gv.c), .sl (Y4.Tr.map (cL (cI .i64)))]] (.tup [.mp 0, .own 1]) [.mapN 2 (mapC Gedge.pr (cI .i64) ((Z5 Y4).1)) none, .vec 113 2 (((Z5 Y4).2).map Gedge.cells) false]:=by
 have y0:((ZL Y4).2).length≤1073741824:=(by (have q:=Z8J Y4 hp3;omega))
 refine fnS E0Ok Zg (c:=X2 f82) [] (.tup [.mp 0, .own 1]) [.mapN 2 (mapC Gedge.pr (cI .i64) ((ZL Y4).1)) none, .vec 113 2 ((Z2F ((ZL Y4).2)).map Gedge.cells) false] func82 (sZ (cL (cI .i64)) Y4.Tr<|sL (mR false [0,2,1,3,4,1,1,4,41]) 3 (X13 (st2:=⟨.agg [.sl (Y4.Pq.map Gv.c), .sl (Y4.Tr.map (cL (cI .i64)))] :: .ptr 0 0 0 :: .any :: .nils :: .mp 1 :: .own 2 :: an 4 (.mp 1 :: .any :: .ptr 0 0 1 :: .sl (Y4.Tr.map (cL (cI .i64))) :: .i .i64 (Y4.Tr.length:Int) :: .i .i64 0 :: an 41 []),[.box 27 [.sl (Y4.Pq.map Gv.c), .sl (Y4.Tr.map (cL (cI .i64)))], .mapN 2 [] none, .vec 113 2 ([]:List (List AV)) false]⟩) (Xc (Z2j Y4) (x:=(ZL Y4)) (Z5k Y4 hp0 hp1 hp2 hp3 (((Y4.Tr.length:Int) - 0).toNat + 1) 0 ([]:(List (Gedge × List Int))) ([]:List Gedge) (show 0≤0 from (by omega)) (show (([]:List Gedge).length:Int)≤3 * 0 from (by simp;done)) (show ∀ y∈([]:(List (Gedge × List Int))),(y.2.length:Int)≤3 * 0 from (by simp;done)) (Nat.lt_succ_self _)) rfl) (by simp [Z39,mapC,Gedge.cells]))<|sS (X9.frame (Z5w ((ZL Y4).2) y0) [2] (R:=[.box 27 [.sl (Y4.Pq.map Gv.c), .sl (Y4.Tr.map (cL (cI .i64)))], .mapN 2 (mapC Gedge.pr (cI .i64) ((ZL Y4).1)) none, .vec 113 2 (((ZL Y4).2).map Gedge.cells) false]) (args':=[.own 2, .fn 120 []]) rfl rfl rfl rfl rfl rfl)<|sK [1,2] sN) rfl (by kernel_rfl) (by kernel_rfl) rfl ?_ ?_
 · rfl
 · simp [Z5]
def Z2H (t_0:(List Int)) (e_1:Gedge):Int:=(IntKind.wrap .i64 ((IntKind.wrap .i64 ((IntKind.wrap .i64 ((IntKind.wrap .i64 ((t_0.getD 0 default) + (t_0.getD 1 default))) + (t_0.getD 2 default))) - e_1.e0)) - e_1.e1))
def Z2L (t_0:(List Int)) (e_1:Gedge):Int:=(Z2H t_0 e_1)
theorem Z5K (t_0:(List Int)) (e_1:Gedge) (hp0:t_0.length≤1073741824) (hp1:t_0.length=3)  : Fn prog 122 [.sl (t_0.map (cI .i64)), .agg [.i .i64 e_1.e0, .i .i64 e_1.e1]] (.i .i64 (Z2L t_0 e_1)) []:=by
 have y0:(0:Int)≤0:=(by omega)
 have y1:0 < (t_0.length:Int):=(by omega)
 have y2:(0:Int)≤1:=(by omega)
 have y3:1 < (t_0.length:Int):=(by omega)
 have y4:(0:Int)≤2:=(by omega)
 have y5:2 < (t_0.length:Int):=(by omega)
 refine fnS E0Ok Zg (c:=X2 f122) [] (.i .i64 (Z2H t_0 e_1)) [] func122 (sK [16,16]<|sG (cI .i64) t_0 0 y0 y1<|sG (cI .i64) t_0 1 y2 y3<|sW .i64 ((t_0.getD 0 default) + (t_0.getD 1 default))<|sG (cI .i64) t_0 2 y4 y5<|sW .i64 ((IntKind.wrap .i64 ((t_0.getD 0 default) + (t_0.getD 1 default))) + (t_0.getD 2 default))<|sC (show (0:Int)≤0∧0 < ((2:Nat):Int) from (by decide))<|sW .i64 ((IntKind.wrap .i64 ((IntKind.wrap .i64 ((t_0.getD 0 default) + (t_0.getD 1 default))) + (t_0.getD 2 default))) - e_1.e0)<|sC (show (0:Int)≤1∧1 < ((2:Nat):Int) from (by decide))<|sM (show IntKind.wrap .i64 ((IntKind.wrap .i64 ((IntKind.wrap .i64 ((IntKind.wrap .i64 ((t_0.getD 0 default) + (t_0.getD 1 default))) + (t_0.getD 2 default))) - e_1.e0)) - e_1.e1)=(Z2H t_0 e_1) from rfl)<|sK [] sN) rfl (by kernel_rfl) (by kernel_rfl) rfl ?_ ?_
 · rfl
 · rfl
def Z1D (Y4:Gm) (Y2:Int):Int:=(Z2L (Y4.Tr.getD ((((Z5 Y4).1).getD (midx ((Z5 Y4).1) (((Z5 Y4).2).getD Y2.toNat default)) default).2.getD 0 default).toNat default) (((Z5 Y4).2).getD Y2.toNat default))
def Z1E (Y4:Gm) (Y2:Int):Int:=(Z2L (Y4.Tr.getD ((((Z5 Y4).1).getD (midx ((Z5 Y4).1) (((Z5 Y4).2).getD Y2.toNat default)) default).2.getD 1 default).toNat default) (((Z5 Y4).2).getD Y2.toNat default))
def ZH (Y4:Gm):Nat→Int→(List (List Int))→(List (List Int))
  | 0,_,_=>default
  | k + 1,Y2,Y3=>(cond (decide (Y2 < (((Z5 Y4).2).length:Int)))
    (cond (mhas ((Z5 Y4).1) (((Z5 Y4).2).getD Y2.toNat default))
      (cond (((((Z5 Y4).1).getD (midx ((Z5 Y4).1) (((Z5 Y4).2).getD Y2.toNat default)) default).2.length:Int) == 2)
        (ZH Y4 k (Y2 + 1) (Y3 ++ [[(((Z5 Y4).2).getD Y2.toNat default).e0,(((Z5 Y4).2).getD Y2.toNat default).e1,(Z1D Y4 Y2),(Z1E Y4 Y2)]]))
        (ZH Y4 k (Y2 + 1) Y3))
      (ZH Y4 k (Y2 + 1) Y3))
    Y3)
def Z3q (Y4:Gm) (r:(List (List Int))):Ex × St:=((.exit 0),⟨.agg [.sl (Y4.Pq.map Gv.c), .sl (Y4.Tr.map (cL (cI .i64)))] :: .ptr 0 0 0 :: .nils :: .own 1 :: .any :: .own 2 :: an 5 (.agg [.sl (Y4.Pq.map Gv.c), .sl (Y4.Tr.map (cL (cI .i64)))] :: .any :: .mp 3 :: .own 2 :: .own 2 :: an 39 []),[.box 27 [.sl (Y4.Pq.map Gv.c), .sl (Y4.Tr.map (cL (cI .i64)))], .nest 60 (r.map fun l=>l.map (cI .i64)) false, .vec 113 2 (((Z5 Y4).2).map Gedge.cells) false, .mapN 2 (mapC Gedge.pr (cI .i64) ((Z5 Y4).1)) none]⟩)
def Z3r (Y4:Gm) (Y2:Int) (Y3:(List (List Int))):St:=⟨.agg [.sl (Y4.Pq.map Gv.c), .sl (Y4.Tr.map (cL (cI .i64)))] :: .ptr 0 0 0 :: .nils :: .own 1 :: .mp 2 :: .own 3 :: an 5 (.agg [.sl (Y4.Pq.map Gv.c), .sl (Y4.Tr.map (cL (cI .i64)))] :: .any :: .mp 2 :: .own 3 :: .own 3 :: .i .i64 (((Z5 Y4).2).length:Int) :: .i .i64 Y2 :: an 37 []),[.box 27 [.sl (Y4.Pq.map Gv.c), .sl (Y4.Tr.map (cL (cI .i64)))], .nest 60 (Y3.map fun l=>l.map (cI .i64)) false, .mapN 2 (mapC Gedge.pr (cI .i64) ((Z5 Y4).1)) none, .vec 113 2 (((Z5 Y4).2).map Gedge.cells) false]⟩
set_option maxHeartbeats 1000000 in
theorem Z6w (Y4:Gm) (hp0:Y4.Pq.length≤1073741824) (hp1:Y4.Tr.length≤1073741824) (hp2:∀ t∈Y4.Tr,t.length≤1073741824) (hp3:OkE Y4.Pq.length Y4.Tr):∀ (k:Nat) (Y2:Int) (Y3:(List (List Int))) (ZR:0≤Y2) (Z4q:(Y3.length:Int)≤Y2) (hk:((((Z5 Y4).2).length:Int) - Y2).toNat < k),Lp prog 0 (sub (X2 f103) [1,1,1,0,1,0,0]) (Z3r Y4 Y2 Y3) (Z3q Y4 (ZH Y4 k Y2 Y3)).1 (Z3q Y4 (ZH Y4 k Y2 Y3)).2:=by
 intro k
 induction k with
 | zero=>intro Y2 Y3 ZR Z4q hk;exact absurd hk (Nat.not_lt_zero _)
 | succ k ih =>
  intro Y2 Y3 ZR Z4q hk
  cases Yr:(decide (Y2 < (((Z5 Y4).2).length:Int))) with
  | true =>
   have YM:=odt Yr
   have YU:(0:Int)≤Y2:=(by assumption)
   have YR:Y2 < (((Z5 Y4).2).length:Int):=(by assumption)
   have y_2:Y2.toNat < ((Z5 Y4).2).length:=(by omega)
   have p {a C} (s:Scr a C):=sB Yr<|sX Gedge.cells ((Z5 Y4).2) Y2 YU YR<|sV Gedge.cells ((Z5 Y4).2) Y2.toNat y_2<|s
   cases YB:(mhas ((Z5 Y4).1) (((Z5 Y4).2).getD Y2.toNat default)) with
   | true =>
    have m_8:=X3g YB
    have q {a C} (s:Scr a C):=p (sA (.keep [midx ((Z5 Y4).1) (((Z5 Y4).2).getD Y2.toNat default)])<|sC (X43 (ck:=Gedge.pr) (cv:=(cI .i64)) YB)<|sM (X72 (ck:=Gedge.pr) (cv:=(cI .i64)) (l:=(Z5 Y4).1) (j:=(midx ((Z5 Y4).1) (((Z5 Y4).2).getD Y2.toNat default))))<|s)
    clear p
    cases YQ:(((((Z5 Y4).1).getD (midx ((Z5 Y4).1) (((Z5 Y4).2).getD Y2.toNat default)) default).2.length:Int) == 2) with
    | true =>
     have Y1v:=eq_of_beq YQ
     have YV:(0:Int)≤0:=by clear q;exact (by omega)
     have y_4:0 < ((((Z5 Y4).1).getD (midx ((Z5 Y4).1) (((Z5 Y4).2).getD Y2.toNat default)) default).2.length:Int):=by clear q;exact (by omega)
     have y_5:0 < (((Z5 Y4).1).getD (midx ((Z5 Y4).1) (((Z5 Y4).2).getD Y2.toNat default)) default).2.length:=by clear q;exact (by omega)
     have y_6:(0:Int)≤((((Z5 Y4).1).getD (midx ((Z5 Y4).1) (((Z5 Y4).2).getD Y2.toNat default)) default).2.getD 0 default):=by clear q;exact (by ((have q:=Z5z Y4 hp3 ZR (odt (by assumption)) (by assumption);omega)))
     have y_7:((((Z5 Y4).1).getD (midx ((Z5 Y4).1) (((Z5 Y4).2).getD Y2.toNat default)) default).2.getD 0 default) < (Y4.Tr.length:Int):=by clear q;exact (by ((have q:=Z5z Y4 hp3 ZR (odt (by assumption)) (by assumption);omega)))
     have y_8:(Y4.Tr.getD ((((Z5 Y4).1).getD (midx ((Z5 Y4).1) (((Z5 Y4).2).getD Y2.toNat default)) default).2.getD 0 default).toNat default).length≤1073741824:=by clear q;exact (by (have q:=Z5z Y4 hp3 ZR (odt (by assumption)) (by assumption);have q1:=(hp3.tris.at q.1 q.2.1).1;have q2:=(hp3.tris.at q.2.2.1 q.2.2.2.1).1;omega))
     have y_9:(Y4.Tr.getD ((((Z5 Y4).1).getD (midx ((Z5 Y4).1) (((Z5 Y4).2).getD Y2.toNat default)) default).2.getD 0 default).toNat default).length=3:=by clear q;exact (by (have q:=Z5z Y4 hp3 ZR (odt (by assumption)) (by assumption);have q1:=(hp3.tris.at q.1 q.2.1).1;have q2:=(hp3.tris.at q.2.2.1 q.2.2.2.1).1;exact q1))
     have Y1l:(0:Int)≤1:=by clear q;exact (by omega)
     have Y1o:1 < ((((Z5 Y4).1).getD (midx ((Z5 Y4).1) (((Z5 Y4).2).getD Y2.toNat default)) default).2.length:Int):=by clear q;exact (by omega)
     have Y1t:1 < (((Z5 Y4).1).getD (midx ((Z5 Y4).1) (((Z5 Y4).2).getD Y2.toNat default)) default).2.length:=by clear q;exact (by omega)
     have Y1u:(0:Int)≤((((Z5 Y4).1).getD (midx ((Z5 Y4).1) (((Z5 Y4).2).getD Y2.toNat default)) default).2.getD 1 default):=by clear q;exact (by ((have q:=Z5z Y4 hp3 ZR (odt (by assumption)) (by assumption);omega)))
     have Y1y:((((Z5 Y4).1).getD (midx ((Z5 Y4).1) (((Z5 Y4).2).getD Y2.toNat default)) default).2.getD 1 default) < (Y4.Tr.length:Int):=by clear q;exact (by ((have q:=Z5z Y4 hp3 ZR (odt (by assumption)) (by assumption);omega)))
     have Y1z:(Y4.Tr.getD ((((Z5 Y4).1).getD (midx ((Z5 Y4).1) (((Z5 Y4).2).getD Y2.toNat default)) default).2.getD 1 default).toNat default).length≤1073741824:=by clear q;exact (by (have q:=Z5z Y4 hp3 ZR (odt (by assumption)) (by assumption);have q1:=(hp3.tris.at q.1 q.2.1).1;have q2:=(hp3.tris.at q.2.2.1 q.2.2.2.1).1;omega))
     have Y1A:(Y4.Tr.getD ((((Z5 Y4).1).getD (midx ((Z5 Y4).1) (((Z5 Y4).2).getD Y2.toNat default)) default).2.getD 1 default).toNat default).length=3:=by clear q;exact (by (have q:=Z5z Y4 hp3 ZR (odt (by assumption)) (by assumption);have q1:=(hp3.tris.at q.1 q.2.1).1;have q2:=(hp3.tris.at q.2.2.1 q.2.2.2.1).1;exact q2))
     have Y1B:Y3.length + [[(((Z5 Y4).2).getD Y2.toNat default).e0,(((Z5 Y4).2).getD Y2.toNat default).e1,(Z1D Y4 Y2),(Z1E Y4 Y2)]].length≤1073741824:=by clear q;exact (by ((have q:=Z29 Y4 hp3 ZR (odt (by assumption));(simp only [List.length_append,List.length_cons,List.length_nil];omega))))
     have y_18:(-9223372036854775808:Int)≤(Y2 + 1):=by clear q;exact (by omega)
     have y_19:(Y2 + 1)≤(9223372036854775807:Int):=by clear q;exact (by ((have q:=Z29 Y4 hp3 ZR (odt (by assumption));omega)))
     have e:ZH Y4 (k + 1) Y2 Y3=(ZH Y4 k (Y2 + 1) (Y3 ++ [[(((Z5 Y4).2).getD Y2.toNat default).e0,(((Z5 Y4).2).getD Y2.toNat default).e1,(Z1D Y4 Y2),(Z1E Y4 Y2)]])):=by simp only [ZH,Yr,YB,YQ,cond_true]
     rw [e]
     exact XD E0Ok Zg [] (mR false [0,6,5,1,1,5,37]) [0,1,2,3] (⟨.agg [.sl (Y4.Pq.map Gv.c), .sl (Y4.Tr.map (cL (cI .i64)))] :: .ptr 0 0 0 :: .nils :: .own 1 :: .mp 2 :: .own 3 :: an 5 (.agg [.sl (Y4.Pq.map Gv.c), .sl (Y4.Tr.map (cL (cI .i64)))] :: .any :: .mp 2 :: .own 3 :: .own 3 :: .i .i64 (((Z5 Y4).2).length:Int) :: .i .i64 (Y2 + 1) :: an 37 []),[.box 27 [.sl (Y4.Pq.map Gv.c), .sl (Y4.Tr.map (cL (cI .i64)))], .nest 60 ((Y3.map fun l=>l.map (cI .i64)) ++ [([[.i .i64 ((((Z5 Y4).2).getD Y2.toNat default).e0)],[.i .i64 ((((Z5 Y4).2).getD Y2.toNat default).e1)],[.i .i64 (Z1D Y4 Y2)],[.i .i64 (Z1E Y4 Y2)]]:List (List AV))]) false, .mapN 2 (mapC Gedge.pr (cI .i64) ((Z5 Y4).1)) none, .vec 113 2 (((Z5 Y4).2).map Gedge.cells) false]⟩) (q (sB YQ<|sK [25,25]<|sC (show (0:Int)≤0∧0 < ((2:Nat):Int) from (by decide))<|sC (show (0:Int)≤1∧1 < ((2:Nat):Int) from (by decide))<|sC (X7R (ck:=Gedge.pr) (cv:=(cI .i64)) (l:=(Z5 Y4).1) (j:=(midx ((Z5 Y4).1) (((Z5 Y4).2).getD Y2.toNat default))) (i:=0) YV y_4)<|sE (X7Q (ck:=Gedge.pr) (cv:=(cI .i64)) (l:=(Z5 Y4).1) (j:=(midx ((Z5 Y4).1) (((Z5 Y4).2).getD Y2.toNat default))) (i:=0) y_5)<|sG (cL (cI .i64)) Y4.Tr ((((Z5 Y4).1).getD (midx ((Z5 Y4).1) (((Z5 Y4).2).getD Y2.toNat default)) default).2.getD 0 default) y_6 y_7<|sF (Z5K (Y4.Tr.getD ((((Z5 Y4).1).getD (midx ((Z5 Y4).1) (((Z5 Y4).2).getD Y2.toNat default)) default).2.getD 0 default).toNat default) (((Z5 Y4).2).getD Y2.toNat default) y_8 y_9)<|sC (X7R (ck:=Gedge.pr) (cv:=(cI .i64)) (l:=(Z5 Y4).1) (j:=(midx ((Z5 Y4).1) (((Z5 Y4).2).getD Y2.toNat default))) (i:=1) Y1l Y1o)<|sE (X7Q (ck:=Gedge.pr) (cv:=(cI .i64)) (l:=(Z5 Y4).1) (j:=(midx ((Z5 Y4).1) (((Z5 Y4).2).getD Y2.toNat default))) (i:=1) Y1t)<|sG (cL (cI .i64)) Y4.Tr ((((Z5 Y4).1).getD (midx ((Z5 Y4).1) (((Z5 Y4).2).getD Y2.toNat default)) default).2.getD 1 default) Y1u Y1y<|sF (Z5K (Y4.Tr.getD ((((Z5 Y4).1).getD (midx ((Z5 Y4).1) (((Z5 Y4).2).getD Y2.toNat default)) default).2.getD 1 default).toNat default) (((Z5 Y4).2).getD Y2.toNat default) Y1z Y1A)<|sC (show (Y3.map fun l=>l.map (cI .i64)).length + [([[.i .i64 ((((Z5 Y4).2).getD Y2.toNat default).e0)],[.i .i64 ((((Z5 Y4).2).getD Y2.toNat default).e1)],[.i .i64 (Z1D Y4 Y2)],[.i .i64 (Z1E Y4 Y2)]]:List (List AV))].length≤1073741824 from (by simpa using Y1B))<|sI (Y2 + 1) y_18 y_19<|sN)) (by kernel_rfl) (by simp [Z3r,cL,cI]) (ih (Y2 + 1) (Y3 ++ [[(((Z5 Y4).2).getD Y2.toNat default).e0,(((Z5 Y4).2).getD Y2.toNat default).e1,(Z1D Y4 Y2),(Z1E Y4 Y2)]]) (show 0≤(Y2 + 1) from (by omega)) (show ((Y3 ++ [[(((Z5 Y4).2).getD Y2.toNat default).e0,(((Z5 Y4).2).getD Y2.toNat default).e1,(Z1D Y4 Y2),(Z1E Y4 Y2)]]).length:Int)≤(Y2 + 1) from (by ((have q:=Z29 Y4 hp3 ZR (odt (by assumption));(simp only [List.length_append,List.length_cons,List.length_nil];omega))))) (by omega))
    | false =>
     have Y1v:=ne_of_beq_false YQ
     have YV:(-9223372036854775808:Int)≤(Y2 + 1):=by clear q;exact (by omega)
     have y_4:(Y2 + 1)≤(9223372036854775807:Int):=by clear q;exact (by ((have q:=Z29 Y4 hp3 ZR (odt (by assumption));omega)))
     have e:ZH Y4 (k + 1) Y2 Y3=(ZH Y4 k (Y2 + 1) Y3):=by simp only [ZH,Yr,YB,YQ,cond_true,cond_false]
     rw [e]
     exact X1r E0Ok Zg [] (mR false [0,6,5,1,1,5,37]) [0,1,2,3] (ih (Y2 + 1) Y3 (show 0≤(Y2 + 1) from (by omega)) (show (Y3.length:Int)≤(Y2 + 1) from (by omega)) (by omega)) (q (sB YQ<|sI (Y2 + 1) YV y_4<|sN)) (by kernel_rfl)
   | false =>
    have YV:(-9223372036854775808:Int)≤(Y2 + 1):=by clear p;exact (by omega)
    have y_4:(Y2 + 1)≤(9223372036854775807:Int):=by clear p;exact (by ((have q:=Z29 Y4 hp3 ZR (odt (by assumption));omega)))
    have e:ZH Y4 (k + 1) Y2 Y3=(ZH Y4 k (Y2 + 1) Y3):=by simp only [ZH,Yr,YB,cond_true,cond_false]
    rw [e]
    exact X1r E0Ok Zg [] (mR false [0,6,5,1,1,5,37]) [0,1,2,3] (ih (Y2 + 1) Y3 (show 0≤(Y2 + 1) from (by omega)) (show (Y3.length:Int)≤(Y2 + 1) from (by omega)) (by omega)) (p (sA (.keep [])<|sC (X5c (ck:=Gedge.pr) (cv:=(cI .i64)) Gedge.inj YB)<|sM (show ((0:Nat):Int)=0 from rfl)<|sB (show (0 == 2)=false from rfl)<|sI (Y2 + 1) YV y_4<|sN)) (by kernel_rfl)
  | false =>
   have YM:=odf Yr
   have e:ZH Y4 (k + 1) Y2 Y3=Y3:=by simp only [ZH,Yr,cond_false]
   rw [e]
   exact outR (e:=(.exit 0)) E0Ok Zg [] (mR false [0,4,1,1,5,1,1,3,39]) [0,1,3,2] (sB Yr<|sN) (by kernel_rfl) (by intro h;cases h)
def Z2k (Y4:Gm):(List (List Int)):=(ZH Y4 (((((Z5 Y4).2).length:Int) - 0).toNat + 1) 0 ([]:List (List Int)))
def Zl (Y4:Gm):(List (List Int)):=(Z2k Y4)
theorem Z1P (m:Gm) (ok:OkE m.Pq.length m.Tr):Zl m=hgL m.Pq.length m.Tr:=by
  unfold Zl Z2k
  refine (X8s (a:=(Z5 m).2) (p:=fun e=>decide ((idxP m.Tr e.e0 e.e1).length=2)) (f:=fun e => [e.e0,e.e1] ++ (idxP m.Tr e.e0 e.e1).map fun i=>thd (m.Tr.getD i.toNat default) e.e0 e.e1) (lo:=ZH m) (fun k i r h0 hi => ?_) (fun k i r hi => ?_)).trans ?_
  · have q:=Z29 m ok h0 hi
    have hm:=Z6v m ok h0 hi
    obtain ⟨g1,g2⟩:=Z7V m ok hm
    rw [ZH,decide_eq_true hi,cond_true,g1,cond_true,g2]
    unfold Z1D Z1E
    rw [g2]
    generalize (Z5 m).2.getD i.toNat default=e at *
    by_cases h2:(idxP m.Tr e.e0 e.e1).length=2
    · rw [decide_eq_true h2,show (((idxP m.Tr e.e0 e.e1).length:Int) == 2)=true from by rw [beq_iff_eq];omega,cond_true,cond_true]
      have hthd:∀ k:Nat,k < 2→Z2L (m.Tr.getD ((idxP m.Tr e.e0 e.e1).getD k default).toNat default) e=thd (m.Tr.getD ((idxP m.Tr e.e0 e.e1).getD k default).toNat default) e.e0 e.e1:=by
        intro k hk
        obtain ⟨a1,a2,a3⟩:=X5f (ts:=m.Tr) (a:=e.e0) (b:=e.e1) (k:=k) (by omega)
        generalize (idxP m.Tr e.e0 e.e1).getD k default=i' at *
        have q2:=ok.tris.at a1 a2
        generalize m.Tr.getD i'.toNat default=t at *
        have h64:=ok.1
        unfold Z2L Z2H thd
        rw [Xx (n:=t.getD 0 default + t.getD 1 default) (by omega) (by omega),Xx (n:=t.getD 0 default + t.getD 1 default + t.getD 2 default) (by omega) (by omega),Xx (n:=t.getD 0 default + t.getD 1 default + t.getD 2 default - e.e0) (by omega) (by omega),Xx (n:=t.getD 0 default + t.getD 1 default + t.getD 2 default - e.e0 - e.e1) (by omega) (by omega)]
      rw [hthd 0 (by omega),hthd 1 (by omega)]
      generalize idxP m.Tr e.e0 e.e1=l at *
      match l,h2 with
      | [a,b],_=>rfl
    · rw [decide_eq_false h2,show (((idxP m.Tr e.e0 e.e1).length:Int) == 2)=false from by rw [beq_eq_false_iff_ne];omega,cond_false,cond_false]
  · rw [ZH,decide_eq_false (by omega),cond_false]
  · rw [Z43 m ok];rfl
theorem Z84 (m:Gm) (ok:OkE m.Pq.length m.Tr) {i:Int} (h0:0≤i) (hi:i < ((Zl m).length:Int)):((Zl m).getD i.toNat default).length=4∧∀ x∈(Zl m).getD i.toNat default,0≤x∧x < (m.Pq.length:Int):=by
  refine Xaa ok ?_
  rw [← Z1P m ok,List.getD_eq_getElem?_getD,List.getElem?_eq_getElem (by omega)];exact List.getElem_mem _
theorem Z92 {m:Gm} (ok:OkE m.Pq.length m.Tr) {i:Int} (h0:0≤i) (hi:decide (i < ((Zl m).length:Int))=true):((Zl m).getD i.toNat default).length=4∧∀ x∈(Zl m).getD i.toNat default,0≤x∧x < (m.Pq.length:Int):=Z84 m ok h0 (odt hi)
theorem Z9H {m:Gm} (ok:OkE m.Pq.length m.Tr) {i:Int} (h0:0≤i) (hi:decide (i < ((Zl m).length:Int))=true):((Zl m).getD i.toNat default).length≤1073741824:=by have:=(Z92 ok h0 hi).1;omega
theorem Z6L (m:Gm) (ok:OkE m.Pq.length m.Tr):(Zl m).length≤4096:=by rw [Z1P m ok];exact Xa9 ok
theorem Z7d (Y4:Gm) (hp0:Y4.Pq.length≤1073741824) (hp1:Y4.Tr.length≤1073741824) (hp2:∀ t∈Y4.Tr,t.length≤1073741824) (hp3:OkE Y4.Pq.length Y4.Tr)  : Fn prog 103 [.agg [.sl (Y4.Pq.map Gv.c), .sl (Y4.Tr.map (cL (cI .i64)))]] (.own 0) [.nest 60 ((Zl Y4).map fun l=>l.map (cI .i64)) false]:=by
 refine fnS E0Ok Zg (c:=X2 f103) [] (.own 0) [.nest 60 ((Z2k Y4).map fun l=>l.map (cI .i64)) false] func103 (sF (Z3U Y4 hp0 hp1 hp2 hp3)<|sZ Gedge.cells ((Z5 Y4).2)<|sL (mR false [0,6,5,1,1,5,37]) 4 (X13 (st2:=⟨.agg [.sl (Y4.Pq.map Gv.c), .sl (Y4.Tr.map (cL (cI .i64)))] :: .ptr 0 0 0 :: .nils :: .own 1 :: .mp 2 :: .own 3 :: an 5 (.agg [.sl (Y4.Pq.map Gv.c), .sl (Y4.Tr.map (cL (cI .i64)))] :: .any :: .mp 2 :: .own 3 :: .own 3 :: .i .i64 (((Z5 Y4).2).length:Int) :: .i .i64 0 :: an 37 []),[.box 27 [.sl (Y4.Pq.map Gv.c), .sl (Y4.Tr.map (cL (cI .i64)))], .nest 60 [] false, .mapN 2 (mapC Gedge.pr (cI .i64) ((Z5 Y4).1)) none, .vec 113 2 (((Z5 Y4).2).map Gedge.cells) false]⟩) (Xc (Z3q Y4) (x:=(Z2k Y4)) (Z6w Y4 hp0 hp1 hp2 hp3 (((((Z5 Y4).2).length:Int) - 0).toNat + 1) 0 ([]:List (List Int)) (show 0≤0 from (by omega)) (show (([]:List (List Int)).length:Int)≤0 from (by simp)) (Nat.lt_succ_self _)) rfl) (by simp [Z3r,cL,cI]))<|sK [1] sN) rfl (by kernel_rfl) (by kernel_rfl) rfl ?_ ?_
 · rfl
 · simp [Zl]
def ZD (Yx:Gv) (Yy:Gv):Gv:=(⟨(fop .add .f32 Yx.X Yy.X),(fop .add .f32 Yx.Y Yy.Y),(fop .add .f32 Yx.Z Yy.Z)⟩:Gv)
theorem Z3K (Yx:Gv) (Yy:Gv)   : Fn prog 51 [.agg [.f .f32 Yx.X, .f .f32 Yx.Y, .f .f32 Yx.Z], .agg [.f .f32 Yy.X, .f .f32 Yy.Y, .f .f32 Yy.Z]] (.agg [.f .f32 ((ZD Yx Yy).X), .f .f32 ((ZD Yx Yy).Y), .f .f32 ((ZD Yx Yy).Z)]) []:=by
 refine fnS E0Ok Zg (c:=X2 f51) [] (.agg [.f .f32 (fop .add .f32 Yx.X Yy.X), .f .f32 (fop .add .f32 Yx.Y Yy.Y), .f .f32 (fop .add .f32 Yx.Z Yy.Z)]) [] func51 (sK [] sN) rfl (by kernel_rfl) (by kernel_rfl) rfl ?_ ?_
 · rfl
 · rfl
def Z2T (Y4:Gm) (YB:(List Int)):Gv:=(ZM (ZD (Y4.Pq.getD (YB.getD 2 default).toNat default) (Y4.Pq.getD (YB.getD 3 default).toNat default)) (ZD (Y4.Pq.getD (YB.getD 0 default).toNat default) (Y4.Pq.getD (YB.getD 1 default).toNat default)))
def Z2b (Y4:Gm) (YB:(List Int)):Gv:=(Z2T Y4 YB)
theorem Z7R (Y4:Gm) (YB:(List Int)) (hp0:Y4.Pq.length≤1073741824) (hp1:Y4.Tr.length≤1073741824) (hp2:∀ t∈Y4.Tr,t.length≤1073741824) (hp3:YB.length≤1073741824) (hp4:YB.length=4∧∀ x∈YB,0≤x∧x < (Y4.Pq.length:Int))  : Fn prog 104 [.agg [.sl (Y4.Pq.map Gv.c), .sl (Y4.Tr.map (cL (cI .i64)))], .sl (YB.map (cI .i64))] (.agg [.f .f32 ((Z2b Y4 YB).X), .f .f32 ((Z2b Y4 YB).Y), .f .f32 ((Z2b Y4 YB).Z)]) []:=by
 have y0:(0:Int)≤2:=(by omega)
 have y1:2 < (YB.length:Int):=(by omega)
 have y2:(0:Int)≤(YB.getD 2 default):=(by have q:=Okh.at hp4;omega)
 have y3:(YB.getD 2 default) < (Y4.Pq.length:Int):=(by have q:=Okh.at hp4;omega)
 have y4:(0:Int)≤3:=(by omega)
 have y5:3 < (YB.length:Int):=(by omega)
 have y6:(0:Int)≤(YB.getD 3 default):=(by have q:=Okh.at hp4;omega)
 have y7:(YB.getD 3 default) < (Y4.Pq.length:Int):=(by have q:=Okh.at hp4;omega)
 have y8:(0:Int)≤0:=(by omega)
 have y9:0 < (YB.length:Int):=(by omega)
 have y10:(0:Int)≤(YB.getD 0 default):=(by have q:=Okh.at hp4;omega)
 have y11:(YB.getD 0 default) < (Y4.Pq.length:Int):=(by have q:=Okh.at hp4;omega)
 have y12:(0:Int)≤1:=(by omega)
 have y13:1 < (YB.length:Int):=(by omega)
 have y14:(0:Int)≤(YB.getD 1 default):=(by have q:=Okh.at hp4;omega)
 have y15:(YB.getD 1 default) < (Y4.Pq.length:Int):=(by have q:=Okh.at hp4;omega)
 refine fnS E0Ok Zg (c:=X2 f104) [] (.agg [.f .f32 ((Z2T Y4 YB).X), .f .f32 ((Z2T Y4 YB).Y), .f .f32 ((Z2T Y4 YB).Z)]) [] func104 (sK [25,25]<|sG (cI .i64) YB 2 y0 y1<|sG Gv.c Y4.Pq (YB.getD 2 default) y2 y3<|sG (cI .i64) YB 3 y4 y5<|sG Gv.c Y4.Pq (YB.getD 3 default) y6 y7<|sF (Z3K (Y4.Pq.getD (YB.getD 2 default).toNat default) (Y4.Pq.getD (YB.getD 3 default).toNat default))<|sG (cI .i64) YB 0 y8 y9<|sG Gv.c Y4.Pq (YB.getD 0 default) y10 y11<|sG (cI .i64) YB 1 y12 y13<|sG Gv.c Y4.Pq (YB.getD 1 default) y14 y15<|sF (Z3K (Y4.Pq.getD (YB.getD 0 default).toNat default) (Y4.Pq.getD (YB.getD 1 default).toNat default))<|sF (Z27 (ZD (Y4.Pq.getD (YB.getD 2 default).toNat default) (Y4.Pq.getD (YB.getD 3 default).toNat default)) (ZD (Y4.Pq.getD (YB.getD 0 default).toNat default) (Y4.Pq.getD (YB.getD 1 default).toNat default)))<|sK [] sN) rfl (by kernel_rfl) (by kernel_rfl) rfl ?_ ?_
 · rfl
 · rfl
def Z1Q (Y5:Gb) (Y2:Int):Nat:=(fop .mul .f32 (fop .sub .f32 (Zr (ZC Y5 (Y5.Sp.getD Y2.toNat default))) ((Y5.Sp.getD Y2.toNat default).Long)) (fop .sub .f32 (Zr (ZC Y5 (Y5.Sp.getD Y2.toNat default))) ((Y5.Sp.getD Y2.toNat default).Long)))
def ZV (Y5:Gb):Nat→Int→(List Nat)→(List Nat)
  | 0,_,_=>default
  | k + 1,Y2,Y3=>(cond (decide (Y2 < (Y5.Sp.length:Int)))
    (ZV Y5 k (Y2 + 1) (Y3.set 0 (fop .add .f32 (Y3.getD 0 default) (fop .mul .f32 (fop .mul .f32 1056964608 ((Y5.Sp.getD Y2.toNat default).Stiff)) (Z1Q Y5 Y2)))))
    Y3)
def Z3L (Y5:Gb) (r:(List Nat)):Ex × St:=((.exit 0),⟨.agg [.sl (Y5.Me.Pq.map Gv.c), .sl (Y5.Me.Tr.map (cL (cI .i64))), .sl (Y5.Sp.map Gs.c), .f .f32 Y5.Film, .f .f32 Y5.Bend, .sl (Y5.We.map (cF .f32)), .f .f32 Y5.Fall.X, .f .f32 Y5.Fall.Y, .f .f32 Y5.Fall.Z] :: .ptr 0 0 0 :: .nils :: .own 1 :: an 10 (.own 1 :: .ptr 0 0 2 :: .sl (Y5.Sp.map Gs.c) :: an 100 []),[.box 34 [.sl (Y5.Me.Pq.map Gv.c), .sl (Y5.Me.Tr.map (cL (cI .i64))), .sl (Y5.Sp.map Gs.c), .f .f32 Y5.Film, .f .f32 Y5.Bend, .sl (Y5.We.map (cF .f32)), .f .f32 Y5.Fall.X, .f .f32 Y5.Fall.Y, .f .f32 Y5.Fall.Z], .vec 29 1 (r.map (cF .f32)) false]⟩)
def Z3M (Y5:Gb) (Y2:Int) (Y3:(List Nat)):St:=⟨.agg [.sl (Y5.Me.Pq.map Gv.c), .sl (Y5.Me.Tr.map (cL (cI .i64))), .sl (Y5.Sp.map Gs.c), .f .f32 Y5.Film, .f .f32 Y5.Bend, .sl (Y5.We.map (cF .f32)), .f .f32 Y5.Fall.X, .f .f32 Y5.Fall.Y, .f .f32 Y5.Fall.Z] :: .ptr 0 0 0 :: .nils :: .own 1 :: an 10 (.own 1 :: .ptr 0 0 2 :: .sl (Y5.Sp.map Gs.c) :: .i .i64 (Y5.Sp.length:Int) :: .i .i64 Y2 :: an 98 []),[.box 34 [.sl (Y5.Me.Pq.map Gv.c), .sl (Y5.Me.Tr.map (cL (cI .i64))), .sl (Y5.Sp.map Gs.c), .f .f32 Y5.Film, .f .f32 Y5.Bend, .sl (Y5.We.map (cF .f32)), .f .f32 Y5.Fall.X, .f .f32 Y5.Fall.Y, .f .f32 Y5.Fall.Z], .vec 29 1 (Y3.map (cF .f32)) false]⟩
theorem Z6M (Y5:Gb) (hp0:Y5.Me.Pq.length≤1073741824) (hp1:Y5.Me.Tr.length≤1073741824) (hp2:∀ t∈Y5.Me.Tr,t.length≤1073741824) (hp3:Y5.Sp.length≤1073741824) (hp4:Y5.We.length≤1073741824) (hp5:OkBd Y5):∀ (k:Nat) (Y2:Int) (Y3:(List Nat)) (Z4F:0≤Y2) (Z4G:Y3.length=4) (hk:((Y5.Sp.length:Int) - Y2).toNat < k),Lp prog 0 (sub (X2 f89) [1,1,0,1,0,0]) (Z3M Y5 Y2 Y3) (Z3L Y5 (ZV Y5 k Y2 Y3)).1 (Z3L Y5 (ZV Y5 k Y2 Y3)).2:=by
 intro k
 induction k with
 | zero=>intro Y2 Y3 Z4F Z4G hk;exact absurd hk (Nat.not_lt_zero _)
 | succ k ih =>
  intro Y2 Y3 Z4F Z4G hk
  cases Yr:(decide (Y2 < (Y5.Sp.length:Int))) with
  | true =>
   have YM:=odt Yr
   have YU:(0:Int)≤Y2:=(by assumption)
   have YR:Y2 < (Y5.Sp.length:Int):=(by assumption)
   have y_2:0≤(Y5.Sp.getD Y2.toNat default).A:=(by have q:=Z5U hp5 (by assumption) Yr;omega)
   have YV:(Y5.Sp.getD Y2.toNat default).A < (Y5.Me.Pq.length:Int):=(by have q:=Z5U hp5 (by assumption) Yr;omega)
   have y_4:0≤(Y5.Sp.getD Y2.toNat default).B:=(by have q:=Z5U hp5 (by assumption) Yr;omega)
   have y_5:(Y5.Sp.getD Y2.toNat default).B < (Y5.Me.Pq.length:Int):=(by have q:=Z5U hp5 (by assumption) Yr;omega)
   have y_6:(0:Int)≤0:=(by omega)
   have y_7:0 < (Y3.length:Int):=(by omega)
   have y_8:0 < Y3.length:=(by omega)
   have y_9:(-9223372036854775808:Int)≤(Y2 + 1):=(by omega)
   have Y1l:(Y2 + 1)≤(9223372036854775807:Int):=(by omega)
   have e:ZV Y5 (k + 1) Y2 Y3=(ZV Y5 k (Y2 + 1) (Y3.set 0 (fop .add .f32 (Y3.getD 0 default) (fop .mul .f32 (fop .mul .f32 1056964608 ((Y5.Sp.getD Y2.toNat default).Stiff)) (Z1Q Y5 Y2))))):=by simp only [ZV,Yr,cond_true]
   rw [e]
   exact XD E0Ok Zg [] (mR false [0,4,10,5,98]) [0,1] (⟨.agg [.sl (Y5.Me.Pq.map Gv.c), .sl (Y5.Me.Tr.map (cL (cI .i64))), .sl (Y5.Sp.map Gs.c), .f .f32 Y5.Film, .f .f32 Y5.Bend, .sl (Y5.We.map (cF .f32)), .f .f32 Y5.Fall.X, .f .f32 Y5.Fall.Y, .f .f32 Y5.Fall.Z] :: .ptr 0 0 0 :: .nils :: .own 1 :: an 10 (.own 1 :: .ptr 0 0 2 :: .sl (Y5.Sp.map Gs.c) :: .i .i64 (Y5.Sp.length:Int) :: .i .i64 (Y2 + 1) :: an 98 []),[.box 34 [.sl (Y5.Me.Pq.map Gv.c), .sl (Y5.Me.Tr.map (cL (cI .i64))), .sl (Y5.Sp.map Gs.c), .f .f32 Y5.Film, .f .f32 Y5.Bend, .sl (Y5.We.map (cF .f32)), .f .f32 Y5.Fall.X, .f .f32 Y5.Fall.Y, .f .f32 Y5.Fall.Z], .vec 29 1 ((Y3.map (cF .f32)).set 0 [.f .f32 (fop .add .f32 (Y3.getD 0 default) (fop .mul .f32 (fop .mul .f32 1056964608 ((Y5.Sp.getD Y2.toNat default).Stiff)) (Z1Q Y5 Y2)))]) false]⟩) (sB Yr<|sG Gs.c Y5.Sp Y2 YU YR<|sK [6,6]<|sF (Z3p Y5 (Y5.Sp.getD Y2.toNat default) hp0 hp1 hp2 hp3 hp4 y_2 YV y_4 y_5)<|sF (Z30 (ZC Y5 (Y5.Sp.getD Y2.toNat default)))<|sK [10,10]<|sX (cF .f32) Y3 0 y_6 y_7<|sV (cF .f32) Y3 0 y_8<|sX (cF .f32) Y3 0 y_6 y_7<|sC (X3w (c:=(cF .f32)) (l:=Y3) y_8)<|sI (Y2 + 1) y_9 Y1l<|sN) (by kernel_rfl) (by simp [Z3M,List.map_set,cF]) (ih (Y2 + 1) (Y3.set 0 (fop .add .f32 (Y3.getD 0 default) (fop .mul .f32 (fop .mul .f32 1056964608 ((Y5.Sp.getD Y2.toNat default).Stiff)) (Z1Q Y5 Y2)))) (show 0≤(Y2 + 1) from (by omega)) (show (Y3.set 0 (fop .add .f32 (Y3.getD 0 default) (fop .mul .f32 (fop .mul .f32 1056964608 ((Y5.Sp.getD Y2.toNat default).Stiff)) (Z1Q Y5 Y2)))).length=4 from (by simp_all<;>omega)) (by omega))
  | false =>
   have YM:=odf Yr
   have e:ZV Y5 (k + 1) Y2 Y3=Y3:=by simp only [ZV,Yr,cond_false]
   rw [e]
   exact outR (e:=(.exit 0)) E0Ok Zg [] (mR false [0,4,10,3,100]) [0,1] (sB Yr<|sN) (by kernel_rfl) (by intro h;cases h)
theorem Z6d (Y5:Gb):∀ (k:Nat) (Y2:Int) (Y3:(List Nat)) (hk:((Y5.Sp.length:Int) - Y2).toNat < k),(ZV Y5 k Y2 Y3).length=Y3.length:=by
  intro k
  induction k with
  | zero=>intro Y2 Y3 hk;exact absurd hk (Nat.not_lt_zero _)
  | succ k ih =>
    intro Y2 Y3 hk
    cases Yr:(decide (Y2 < (Y5.Sp.length:Int))) with
    | true =>
      have e:ZV Y5 (k + 1) Y2 Y3=(ZV Y5 k (Y2 + 1) (Y3.set 0 (fop .add .f32 (Y3.getD 0 default) (fop .mul .f32 (fop .mul .f32 1056964608 ((Y5.Sp.getD Y2.toNat default).Stiff)) (Z1Q Y5 Y2))))):=by simp only [ZV,Yr,cond_true]
      rw [e,ih (Y2 + 1) (Y3.set 0 (fop .add .f32 (Y3.getD 0 default) (fop .mul .f32 (fop .mul .f32 1056964608 ((Y5.Sp.getD Y2.toNat default).Stiff)) (Z1Q Y5 Y2)))) (by simp_all<;>omega)]<;>simp
    | false =>
      have e:ZV Y5 (k + 1) Y2 Y3=Y3:=by simp only [ZV,Yr,cond_false]
      first | (rw [e];done) | (rw [e];rfl)
def Z17 (Y5:Gb):(List Nat):=(ZV Y5 (((Y5.Sp.length:Int) - 0).toNat + 1) 0 (List.replicate 4 0))
@[simp] theorem Z5l (Y5:Gb):(Z17 Y5).length=((List.replicate 4 0):(List Nat)).length:=Z6d Y5 (((Y5.Sp.length:Int) - 0).toNat + 1) 0 (List.replicate 4 0) (by exact Nat.lt_succ_self _)
def Z1R (Y5:Gb) (Y2:Int) (Y3:(List Nat)):Nat:=(fop .add .f32 (Y3.getD 1 default) (fop .mul .f32 Y5.Film (fop .mul .f32 1056964608 (Zr (Z2D Y5.Me (Y5.Me.Tr.getD Y2.toNat default))))))
def ZW (Y5:Gb):Nat→Int→(List Nat)→(List Nat)
  | 0,_,_=>default
  | k + 1,Y2,Y3=>(cond (decide (Y2 < (Y5.Me.Tr.length:Int)))
    (ZW Y5 k (Y2 + 1) (Y3.set 1 (Z1R Y5 Y2 Y3)))
    Y3)
def Z3N (Y5:Gb) (r:(List Nat)):Ex × St:=((.exit 2),⟨.agg [.sl (Y5.Me.Pq.map Gv.c), .sl (Y5.Me.Tr.map (cL (cI .i64))), .sl (Y5.Sp.map Gs.c), .f .f32 Y5.Film, .f .f32 Y5.Bend, .sl (Y5.We.map (cF .f32)), .f .f32 Y5.Fall.X, .f .f32 Y5.Fall.Y, .f .f32 Y5.Fall.Z] :: .ptr 0 0 0 :: .nils :: .own 1 :: an 10 (.own 1 :: .ptr 0 0 2 :: .sl (Y5.Sp.map Gs.c) :: an 25 (.ptr 0 0 0 :: .ptr 0 0 1 :: .sl (Y5.Me.Tr.map (cL (cI .i64))) :: an 72 [])),[.box 34 [.sl (Y5.Me.Pq.map Gv.c), .sl (Y5.Me.Tr.map (cL (cI .i64))), .sl (Y5.Sp.map Gs.c), .f .f32 Y5.Film, .f .f32 Y5.Bend, .sl (Y5.We.map (cF .f32)), .f .f32 Y5.Fall.X, .f .f32 Y5.Fall.Y, .f .f32 Y5.Fall.Z], .vec 29 1 (r.map (cF .f32)) false]⟩)
def Z5b (Y5:Gb) (Y2:Int) (Y3:(List Nat)):St:=⟨.agg [.sl (Y5.Me.Pq.map Gv.c), .sl (Y5.Me.Tr.map (cL (cI .i64))), .sl (Y5.Sp.map Gs.c), .f .f32 Y5.Film, .f .f32 Y5.Bend, .sl (Y5.We.map (cF .f32)), .f .f32 Y5.Fall.X, .f .f32 Y5.Fall.Y, .f .f32 Y5.Fall.Z] :: .ptr 0 0 0 :: .nils :: .own 1 :: an 10 (.own 1 :: .ptr 0 0 2 :: .sl (Y5.Sp.map Gs.c) :: an 25 (.ptr 0 0 0 :: .ptr 0 0 1 :: .sl (Y5.Me.Tr.map (cL (cI .i64))) :: .i .i64 (Y5.Me.Tr.length:Int) :: .i .i64 Y2 :: an 70 [])),[.box 34 [.sl (Y5.Me.Pq.map Gv.c), .sl (Y5.Me.Tr.map (cL (cI .i64))), .sl (Y5.Sp.map Gs.c), .f .f32 Y5.Film, .f .f32 Y5.Bend, .sl (Y5.We.map (cF .f32)), .f .f32 Y5.Fall.X, .f .f32 Y5.Fall.Y, .f .f32 Y5.Fall.Z], .vec 29 1 (Y3.map (cF .f32)) false]⟩
theorem Z6N (Y5:Gb) (hp0:Y5.Me.Pq.length≤1073741824) (hp1:Y5.Me.Tr.length≤1073741824) (hp2:∀ t∈Y5.Me.Tr,t.length≤1073741824) (hp3:Y5.Sp.length≤1073741824) (hp4:Y5.We.length≤1073741824) (hp5:OkBd Y5):∀ (k:Nat) (Y2:Int) (Y3:(List Nat)) (Z4H:0≤Y2) (Z4I:Y3.length=(Z17 Y5).length) (hk:((Y5.Me.Tr.length:Int) - Y2).toNat < k),Lp prog 0 (sub (X2 f89) [1,1,1,0,1,0,0]) (Z5b Y5 Y2 Y3) (Z3N Y5 (ZW Y5 k Y2 Y3)).1 (Z3N Y5 (ZW Y5 k Y2 Y3)).2:=by
 intro k
 induction k with
 | zero=>intro Y2 Y3 Z4H Z4I hk;exact absurd hk (Nat.not_lt_zero _)
 | succ k ih =>
  intro Y2 Y3 Z4H Z4I hk
  cases Yr:(decide (Y2 < (Y5.Me.Tr.length:Int))) with
  | true =>
   have YM:=odt Yr
   have YU:(0:Int)≤Y2:=(by assumption)
   have YR:Y2 < (Y5.Me.Tr.length:Int):=(by assumption)
   have y_2:(0:Int)≤1:=(by omega)
   have YV:1 < (Y3.length:Int):=(by simp_all<;>omega)
   have y_4:1 < Y3.length:=(by omega)
   have y_5:(Y5.Me.Tr.getD Y2.toNat default).length≤1073741824:=(by exact XaT hp5.e (by assumption) Yr)
   have y_6:(Y5.Me.Tr.getD Y2.toNat default).length=3∧∀ x∈(Y5.Me.Tr.getD Y2.toNat default),0≤x∧x < (Y5.Me.Pq.length:Int):=(by exact tri3 hp5.e (by assumption) Yr)
   have y_7:(-9223372036854775808:Int)≤(Y2 + 1):=(by omega)
   have y_8:(Y2 + 1)≤(9223372036854775807:Int):=(by omega)
   have e:ZW Y5 (k + 1) Y2 Y3=(ZW Y5 k (Y2 + 1) (Y3.set 1 (Z1R Y5 Y2 Y3))):=by simp only [ZW,Yr,cond_true]
   rw [e]
   exact XD E0Ok Zg [] (mR false [0,4,10,3,25,5,70]) [0,1] (⟨.agg [.sl (Y5.Me.Pq.map Gv.c), .sl (Y5.Me.Tr.map (cL (cI .i64))), .sl (Y5.Sp.map Gs.c), .f .f32 Y5.Film, .f .f32 Y5.Bend, .sl (Y5.We.map (cF .f32)), .f .f32 Y5.Fall.X, .f .f32 Y5.Fall.Y, .f .f32 Y5.Fall.Z] :: .ptr 0 0 0 :: .nils :: .own 1 :: an 10 (.own 1 :: .ptr 0 0 2 :: .sl (Y5.Sp.map Gs.c) :: an 25 (.ptr 0 0 0 :: .ptr 0 0 1 :: .sl (Y5.Me.Tr.map (cL (cI .i64))) :: .i .i64 (Y5.Me.Tr.length:Int) :: .i .i64 (Y2 + 1) :: an 70 [])),[.box 34 [.sl (Y5.Me.Pq.map Gv.c), .sl (Y5.Me.Tr.map (cL (cI .i64))), .sl (Y5.Sp.map Gs.c), .f .f32 Y5.Film, .f .f32 Y5.Bend, .sl (Y5.We.map (cF .f32)), .f .f32 Y5.Fall.X, .f .f32 Y5.Fall.Y, .f .f32 Y5.Fall.Z], .vec 29 1 ((Y3.map (cF .f32)).set 1 [.f .f32 (Z1R Y5 Y2 Y3)]) false]⟩) (sB Yr<|sG (cL (cI .i64)) Y5.Me.Tr Y2 YU YR<|sK [12,12]<|sX (cF .f32) Y3 1 y_2 YV<|sV (cF .f32) Y3 1 y_4<|sF (Z7c Y5.Me (Y5.Me.Tr.getD Y2.toNat default) hp0 hp1 hp2 y_5 y_6)<|sF (Z30 (Z2D Y5.Me (Y5.Me.Tr.getD Y2.toNat default)))<|sX (cF .f32) Y3 1 y_2 YV<|sC (X3w (c:=(cF .f32)) (l:=Y3) y_4)<|sI (Y2 + 1) y_7 y_8<|sN) (by kernel_rfl) (by simp [Z5b,List.map_set,cF]) (ih (Y2 + 1) (Y3.set 1 (Z1R Y5 Y2 Y3)) (show 0≤(Y2 + 1) from (by omega)) (show (Y3.set 1 (Z1R Y5 Y2 Y3)).length=(Z17 Y5).length from (by simp_all<;>omega)) (by omega))
  | false =>
   have YM:=odf Yr
   have e:ZW Y5 (k + 1) Y2 Y3=Y3:=by simp only [ZW,Yr,cond_false]
   rw [e]
   exact outR (e:=(.exit 2)) E0Ok Zg [] (mR false [0,4,10,3,25,3,72]) [0,1] (sB Yr<|sN) (by kernel_rfl) (by intro h;cases h)
theorem Z6e (Y5:Gb):∀ (k:Nat) (Y2:Int) (Y3:(List Nat)) (hk:((Y5.Me.Tr.length:Int) - Y2).toNat < k),(ZW Y5 k Y2 Y3).length=Y3.length:=by
  intro k
  induction k with
  | zero=>intro Y2 Y3 hk;exact absurd hk (Nat.not_lt_zero _)
  | succ k ih =>
    intro Y2 Y3 hk
    cases Yr:(decide (Y2 < (Y5.Me.Tr.length:Int))) with
    | true =>
      have e:ZW Y5 (k + 1) Y2 Y3=(ZW Y5 k (Y2 + 1) (Y3.set 1 (Z1R Y5 Y2 Y3))):=by simp only [ZW,Yr,cond_true]
      rw [e,ih (Y2 + 1) (Y3.set 1 (Z1R Y5 Y2 Y3)) (by simp_all<;>omega)]<;>simp
    | false =>
      have e:ZW Y5 (k + 1) Y2 Y3=Y3:=by simp only [ZW,Yr,cond_false]
      first | (rw [e];done) | (rw [e];rfl)
def Z18 (Y5:Gb):(List Nat):=(ZW Y5 (((Y5.Me.Tr.length:Int) - 0).toNat + 1) 0 (Z17 Y5))
@[simp] theorem Z5m (Y5:Gb):(Z18 Y5).length=((Z17 Y5):(List Nat)).length:=Z6e Y5 (((Y5.Me.Tr.length:Int) - 0).toNat + 1) 0 (Z17 Y5) (by exact Nat.lt_succ_self _)
def Z1S (Y5:Gb) (Y2:Int):Nat:=(Z1s (Z2b Y5.Me ((Zl Y5.Me).getD Y2.toNat default)) (Z2b Y5.Me ((Zl Y5.Me).getD Y2.toNat default)))
def ZX (Y5:Gb):Nat→Int→(List Nat)→(List Nat)
  | 0,_,_=>default
  | k + 1,Y2,Y3=>(cond (decide (Y2 < ((Zl Y5.Me).length:Int)))
    (ZX Y5 k (Y2 + 1) (Y3.set 2 (fop .add .f32 (Y3.getD 2 default) (fop .mul .f32 (fop .mul .f32 1056964608 Y5.Bend) (Z1S Y5 Y2)))))
    Y3)
def Z3O (Y5:Gb) (r:(List Nat)):Ex × St:=((.exit 4),⟨.agg [.sl (Y5.Me.Pq.map Gv.c), .sl (Y5.Me.Tr.map (cL (cI .i64))), .sl (Y5.Sp.map Gs.c), .f .f32 Y5.Film, .f .f32 Y5.Bend, .sl (Y5.We.map (cF .f32)), .f .f32 Y5.Fall.X, .f .f32 Y5.Fall.Y, .f .f32 Y5.Fall.Z] :: .ptr 0 0 0 :: .nils :: .own 1 :: an 10 (.own 1 :: .ptr 0 0 2 :: .sl (Y5.Sp.map Gs.c) :: an 25 (.ptr 0 0 0 :: .ptr 0 0 1 :: .sl (Y5.Me.Tr.map (cL (cI .i64))) :: an 20 (.ptr 0 0 0 :: .agg [.sl (Y5.Me.Pq.map Gv.c), .sl (Y5.Me.Tr.map (cL (cI .i64)))] :: .own 2 :: an 49 []))),[.box 34 [.sl (Y5.Me.Pq.map Gv.c), .sl (Y5.Me.Tr.map (cL (cI .i64))), .sl (Y5.Sp.map Gs.c), .f .f32 Y5.Film, .f .f32 Y5.Bend, .sl (Y5.We.map (cF .f32)), .f .f32 Y5.Fall.X, .f .f32 Y5.Fall.Y, .f .f32 Y5.Fall.Z], .vec 29 1 (r.map (cF .f32)) false, .nest 60 ((Zl Y5.Me).map fun l=>l.map (cI .i64)) false]⟩)
def Z5c (Y5:Gb) (Y2:Int) (Y3:(List Nat)):St:=⟨.agg [.sl (Y5.Me.Pq.map Gv.c), .sl (Y5.Me.Tr.map (cL (cI .i64))), .sl (Y5.Sp.map Gs.c), .f .f32 Y5.Film, .f .f32 Y5.Bend, .sl (Y5.We.map (cF .f32)), .f .f32 Y5.Fall.X, .f .f32 Y5.Fall.Y, .f .f32 Y5.Fall.Z] :: .ptr 0 0 0 :: .nils :: .own 1 :: an 10 (.own 1 :: .ptr 0 0 2 :: .sl (Y5.Sp.map Gs.c) :: an 25 (.ptr 0 0 0 :: .ptr 0 0 1 :: .sl (Y5.Me.Tr.map (cL (cI .i64))) :: an 20 (.ptr 0 0 0 :: .agg [.sl (Y5.Me.Pq.map Gv.c), .sl (Y5.Me.Tr.map (cL (cI .i64)))] :: .own 2 :: .i .i64 ((Zl Y5.Me).length:Int) :: .i .i64 Y2 :: an 47 []))),[.box 34 [.sl (Y5.Me.Pq.map Gv.c), .sl (Y5.Me.Tr.map (cL (cI .i64))), .sl (Y5.Sp.map Gs.c), .f .f32 Y5.Film, .f .f32 Y5.Bend, .sl (Y5.We.map (cF .f32)), .f .f32 Y5.Fall.X, .f .f32 Y5.Fall.Y, .f .f32 Y5.Fall.Z], .vec 29 1 (Y3.map (cF .f32)) false, .nest 60 ((Zl Y5.Me).map fun l=>l.map (cI .i64)) false]⟩
def Z4J:List Bool:=(mR false [0,4,10,3,25,3,20,5,47])
def Z6f:List Bool:=(mR false [0,4,10,3,25,3,20,3,49])
theorem Z6O (Y5:Gb) (hp0:Y5.Me.Pq.length≤1073741824) (hp1:Y5.Me.Tr.length≤1073741824) (hp2:∀ t∈Y5.Me.Tr,t.length≤1073741824) (hp3:Y5.Sp.length≤1073741824) (hp4:Y5.We.length≤1073741824) (hp5:OkBd Y5):∀ (k:Nat) (Y2:Int) (Y3:(List Nat)) (Z4K:0≤Y2) (Z4L:Y3.length=(Z18 Y5).length) (hk:(((Zl Y5.Me).length:Int) - Y2).toNat < k),Lp prog 0 (sub (X2 f89) [1,1,1,1,0,1,0,0]) (Z5c Y5 Y2 Y3) (Z3O Y5 (ZX Y5 k Y2 Y3)).1 (Z3O Y5 (ZX Y5 k Y2 Y3)).2:=by
 intro k
 induction k with
 | zero=>intro Y2 Y3 Z4K Z4L hk;exact absurd hk (Nat.not_lt_zero _)
 | succ k ih =>
  intro Y2 Y3 Z4K Z4L hk
  cases Yr:(decide (Y2 < ((Zl Y5.Me).length:Int))) with
  | true =>
   have YM:=odt Yr
   have YU:(0:Int)≤Y2:=(by assumption)
   have YR:Int.toNat Y2 < (Zl Y5.Me).length:=(by omega)
   have y_2:Y2.toNat < (Zl Y5.Me).length:=(by assumption)
   have YV:((Zl Y5.Me).getD Y2.toNat default).length≤1073741824:=(by exact Z9H hp5.e (by assumption) Yr)
   have y_4:((Zl Y5.Me).getD Y2.toNat default).length=4∧∀ x∈((Zl Y5.Me).getD Y2.toNat default),0≤x∧x < (Y5.Me.Pq.length:Int):=(by exact Z92 hp5.e (by assumption) Yr)
   have y_5:(0:Int)≤2:=(by omega)
   have y_6:2 < (Y3.length:Int):=(by simp_all<;>omega)
   have y_7:2 < Y3.length:=(by omega)
   have y_8:(-9223372036854775808:Int)≤(Y2 + 1):=(by omega)
   have y_9:(Y2 + 1)≤(9223372036854775807:Int):=(by have q:=hp5.w;(have q:=Z6L _ hp5.e;omega))
   have e:ZX Y5 (k + 1) Y2 Y3=(ZX Y5 k (Y2 + 1) (Y3.set 2 (fop .add .f32 (Y3.getD 2 default) (fop .mul .f32 (fop .mul .f32 1056964608 Y5.Bend) (Z1S Y5 Y2))))):=by simp only [ZX,Yr,cond_true]
   rw [e]
   exact XD E0Ok Zg [] Z4J [0,1,2] (⟨.agg [.sl (Y5.Me.Pq.map Gv.c), .sl (Y5.Me.Tr.map (cL (cI .i64))), .sl (Y5.Sp.map Gs.c), .f .f32 Y5.Film, .f .f32 Y5.Bend, .sl (Y5.We.map (cF .f32)), .f .f32 Y5.Fall.X, .f .f32 Y5.Fall.Y, .f .f32 Y5.Fall.Z] :: .ptr 0 0 0 :: .nils :: .own 1 :: an 10 (.own 1 :: .ptr 0 0 2 :: .sl (Y5.Sp.map Gs.c) :: an 25 (.ptr 0 0 0 :: .ptr 0 0 1 :: .sl (Y5.Me.Tr.map (cL (cI .i64))) :: an 20 (.ptr 0 0 0 :: .agg [.sl (Y5.Me.Pq.map Gv.c), .sl (Y5.Me.Tr.map (cL (cI .i64)))] :: .own 2 :: .i .i64 ((Zl Y5.Me).length:Int) :: .i .i64 (Y2 + 1) :: an 47 []))),[.box 34 [.sl (Y5.Me.Pq.map Gv.c), .sl (Y5.Me.Tr.map (cL (cI .i64))), .sl (Y5.Sp.map Gs.c), .f .f32 Y5.Film, .f .f32 Y5.Bend, .sl (Y5.We.map (cF .f32)), .f .f32 Y5.Fall.X, .f .f32 Y5.Fall.Y, .f .f32 Y5.Fall.Z], .vec 29 1 ((Y3.map (cF .f32)).set 2 [.f .f32 (fop .add .f32 (Y3.getD 2 default) (fop .mul .f32 (fop .mul .f32 1056964608 Y5.Bend) (Z1S Y5 Y2)))]) false, .nest 60 ((Zl Y5.Me).map fun l=>l.map (cI .i64)) false]⟩) (sB Yr<|sC (X70 (c:=(cI .i64)) (l:=(Zl Y5.Me)) (i:=Y2) YU YR)<|sC (X6Z (c:=(cI .i64)) (l:=(Zl Y5.Me)) y_2)<|sF (Fn.castA (args':=[.agg [.sl (Y5.Me.Pq.map Gv.c), .sl (Y5.Me.Tr.map (cL (cI .i64)))], .sl (((Zl Y5.Me).map fun l=>l.map (cI .i64)).getD Y2.toNat [])]) (Z7R Y5.Me ((Zl Y5.Me).getD Y2.toNat default) hp0 hp1 hp2 YV y_4) (by simp [cI];done))<|sK [10,10]<|sX (cF .f32) Y3 2 y_5 y_6<|sV (cF .f32) Y3 2 y_7<|sF (Z4P (Z2b Y5.Me ((Zl Y5.Me).getD Y2.toNat default)) (Z2b Y5.Me ((Zl Y5.Me).getD Y2.toNat default)))<|sX (cF .f32) Y3 2 y_5 y_6<|sC (X3w (c:=(cF .f32)) (l:=Y3) y_7)<|sI (Y2 + 1) y_8 y_9<|sN) (by kernel_rfl) (by simp [Z5c,List.map_set,cF]) (ih (Y2 + 1) (Y3.set 2 (fop .add .f32 (Y3.getD 2 default) (fop .mul .f32 (fop .mul .f32 1056964608 Y5.Bend) (Z1S Y5 Y2)))) (show 0≤(Y2 + 1) from (by omega)) (show (Y3.set 2 (fop .add .f32 (Y3.getD 2 default) (fop .mul .f32 (fop .mul .f32 1056964608 Y5.Bend) (Z1S Y5 Y2)))).length=(Z18 Y5).length from (by simp_all<;>omega)) (by omega))
  | false =>
   have YM:=odf Yr
   have e:ZX Y5 (k + 1) Y2 Y3=Y3:=by simp only [ZX,Yr,cond_false]
   rw [e]
   exact outR (e:=(.exit 4)) E0Ok Zg [] Z6f [0,1,2] (sB Yr<|sN) (by kernel_rfl) (by intro h;cases h)
theorem Z6g (Y5:Gb):∀ (k:Nat) (Y2:Int) (Y3:(List Nat)) (hk:(((Zl Y5.Me).length:Int) - Y2).toNat < k),(ZX Y5 k Y2 Y3).length=Y3.length:=by
  intro k
  induction k with
  | zero=>intro Y2 Y3 hk;exact absurd hk (Nat.not_lt_zero _)
  | succ k ih =>
    intro Y2 Y3 hk
    cases Yr:(decide (Y2 < ((Zl Y5.Me).length:Int))) with
    | true =>
      have e:ZX Y5 (k + 1) Y2 Y3=(ZX Y5 k (Y2 + 1) (Y3.set 2 (fop .add .f32 (Y3.getD 2 default) (fop .mul .f32 (fop .mul .f32 1056964608 Y5.Bend) (Z1S Y5 Y2))))):=by simp only [ZX,Yr,cond_true]
      rw [e,ih (Y2 + 1) (Y3.set 2 (fop .add .f32 (Y3.getD 2 default) (fop .mul .f32 (fop .mul .f32 1056964608 Y5.Bend) (Z1S Y5 Y2)))) (by simp_all<;>omega)]<;>simp
    | false =>
      have e:ZX Y5 (k + 1) Y2 Y3=Y3:=by simp only [ZX,Yr,cond_false]
      first | (rw [e];done) | (rw [e];rfl)
def Z19 (Y5:Gb):(List Nat):=(ZX Y5 ((((Zl Y5.Me).length:Int) - 0).toNat + 1) 0 (Z18 Y5))
@[simp] theorem Z5n (Y5:Gb):(Z19 Y5).length=((Z18 Y5):(List Nat)).length:=Z6g Y5 ((((Zl Y5.Me).length:Int) - 0).toNat + 1) 0 (Z18 Y5) (by exact Nat.lt_succ_self _)
def Z1I (Y5:Gb) (Y2:Int) (Y3:(List Nat)):Nat:=(fop .add .f32 (Y3.getD 3 default) (fneg .f32 (fop .mul .f32 (Y5.We.getD Y2.toNat default) (Z1s Y5.Fall (Y5.Me.Pq.getD Y2.toNat default)))))
def ZQ (Y5:Gb):Nat→Int→(List Nat)→(List Nat)
  | 0,_,_=>default
  | k + 1,Y2,Y3=>(cond (decide (Y2 < (Y5.Me.Pq.length:Int)))
    (ZQ Y5 k (Y2 + 1) (Y3.set 3 (Z1I Y5 Y2 Y3)))
    Y3)
def Z3P (Y5:Gb) (r:(List Nat)):Ex × St:=((.exit 6),⟨.agg [.sl (Y5.Me.Pq.map Gv.c), .sl (Y5.Me.Tr.map (cL (cI .i64))), .sl (Y5.Sp.map Gs.c), .f .f32 Y5.Film, .f .f32 Y5.Bend, .sl (Y5.We.map (cF .f32)), .f .f32 Y5.Fall.X, .f .f32 Y5.Fall.Y, .f .f32 Y5.Fall.Z] :: .ptr 0 0 0 :: .nils :: .own 1 :: an 10 (.own 1 :: .ptr 0 0 2 :: .sl (Y5.Sp.map Gs.c) :: an 25 (.ptr 0 0 0 :: .ptr 0 0 1 :: .sl (Y5.Me.Tr.map (cL (cI .i64))) :: an 20 (.ptr 0 0 0 :: .agg [.sl (Y5.Me.Pq.map Gv.c), .sl (Y5.Me.Tr.map (cL (cI .i64)))] :: .own 2 :: an 22 (.ptr 0 0 0 :: .ptr 0 0 0 :: .sl (Y5.Me.Pq.map Gv.c) :: an 24 [])))),[.box 34 [.sl (Y5.Me.Pq.map Gv.c), .sl (Y5.Me.Tr.map (cL (cI .i64))), .sl (Y5.Sp.map Gs.c), .f .f32 Y5.Film, .f .f32 Y5.Bend, .sl (Y5.We.map (cF .f32)), .f .f32 Y5.Fall.X, .f .f32 Y5.Fall.Y, .f .f32 Y5.Fall.Z], .vec 29 1 (r.map (cF .f32)) false, .nest 60 ((Zl Y5.Me).map fun l=>l.map (cI .i64)) false]⟩)
def Z5d (Y5:Gb) (Y2:Int) (Y3:(List Nat)):St:=⟨.agg [.sl (Y5.Me.Pq.map Gv.c), .sl (Y5.Me.Tr.map (cL (cI .i64))), .sl (Y5.Sp.map Gs.c), .f .f32 Y5.Film, .f .f32 Y5.Bend, .sl (Y5.We.map (cF .f32)), .f .f32 Y5.Fall.X, .f .f32 Y5.Fall.Y, .f .f32 Y5.Fall.Z] :: .ptr 0 0 0 :: .nils :: .own 1 :: an 10 (.own 1 :: .ptr 0 0 2 :: .sl (Y5.Sp.map Gs.c) :: an 25 (.ptr 0 0 0 :: .ptr 0 0 1 :: .sl (Y5.Me.Tr.map (cL (cI .i64))) :: an 20 (.ptr 0 0 0 :: .agg [.sl (Y5.Me.Pq.map Gv.c), .sl (Y5.Me.Tr.map (cL (cI .i64)))] :: .own 2 :: an 22 (.ptr 0 0 0 :: .ptr 0 0 0 :: .sl (Y5.Me.Pq.map Gv.c) :: .i .i64 (Y5.Me.Pq.length:Int) :: .i .i64 Y2 :: an 22 [])))),[.box 34 [.sl (Y5.Me.Pq.map Gv.c), .sl (Y5.Me.Tr.map (cL (cI .i64))), .sl (Y5.Sp.map Gs.c), .f .f32 Y5.Film, .f .f32 Y5.Bend, .sl (Y5.We.map (cF .f32)), .f .f32 Y5.Fall.X, .f .f32 Y5.Fall.Y, .f .f32 Y5.Fall.Z], .vec 29 1 (Y3.map (cF .f32)) false, .nest 60 ((Zl Y5.Me).map fun l=>l.map (cI .i64)) false]⟩
def Z4M:List Bool:=(mR false [0,4,10,3,25,3,20,3,22,5,22])
def Z6h:List Bool:=(mR false [0,4,10,3,25,3,20,3,22,3,24])
theorem Z6P (Y5:Gb) (hp0:Y5.Me.Pq.length≤1073741824) (hp1:Y5.Me.Tr.length≤1073741824) (hp2:∀ t∈Y5.Me.Tr,t.length≤1073741824) (hp3:Y5.Sp.length≤1073741824) (hp4:Y5.We.length≤1073741824) (hp5:OkBd Y5):∀ (k:Nat) (Y2:Int) (Y3:(List Nat)) (Z4N:0≤Y2) (Z4O:Y3.length=(Z19 Y5).length) (hk:((Y5.Me.Pq.length:Int) - Y2).toNat < k),Lp prog 0 (sub (X2 f89) [1,1,1,1,1,0,1,0,0]) (Z5d Y5 Y2 Y3) (Z3P Y5 (ZQ Y5 k Y2 Y3)).1 (Z3P Y5 (ZQ Y5 k Y2 Y3)).2:=by
 intro k
 induction k with
 | zero=>intro Y2 Y3 Z4N Z4O hk;exact absurd hk (Nat.not_lt_zero _)
 | succ k ih =>
  intro Y2 Y3 Z4N Z4O hk
  cases Yr:(decide (Y2 < (Y5.Me.Pq.length:Int))) with
  | true =>
   have YM:=odt Yr
   have YU:(0:Int)≤Y2:=(by assumption)
   have YR:Y2 < (Y5.Me.Pq.length:Int):=(by assumption)
   have y_2:(0:Int)≤3:=(by omega)
   have YV:3 < (Y3.length:Int):=(by simp_all<;>omega)
   have y_4:3 < Y3.length:=(by omega)
   have y_5:Y2 < (Y5.We.length:Int):=(by have q:=hp5.w;omega)
   have y_6:(-9223372036854775808:Int)≤(Y2 + 1):=(by omega)
   have y_7:(Y2 + 1)≤(9223372036854775807:Int):=(by omega)
   have e:ZQ Y5 (k + 1) Y2 Y3=(ZQ Y5 k (Y2 + 1) (Y3.set 3 (Z1I Y5 Y2 Y3))):=by simp only [ZQ,Yr,cond_true]
   rw [e]
   exact XD E0Ok Zg [] Z4M [0,1,2] (⟨.agg [.sl (Y5.Me.Pq.map Gv.c), .sl (Y5.Me.Tr.map (cL (cI .i64))), .sl (Y5.Sp.map Gs.c), .f .f32 Y5.Film, .f .f32 Y5.Bend, .sl (Y5.We.map (cF .f32)), .f .f32 Y5.Fall.X, .f .f32 Y5.Fall.Y, .f .f32 Y5.Fall.Z] :: .ptr 0 0 0 :: .nils :: .own 1 :: an 10 (.own 1 :: .ptr 0 0 2 :: .sl (Y5.Sp.map Gs.c) :: an 25 (.ptr 0 0 0 :: .ptr 0 0 1 :: .sl (Y5.Me.Tr.map (cL (cI .i64))) :: an 20 (.ptr 0 0 0 :: .agg [.sl (Y5.Me.Pq.map Gv.c), .sl (Y5.Me.Tr.map (cL (cI .i64)))] :: .own 2 :: an 22 (.ptr 0 0 0 :: .ptr 0 0 0 :: .sl (Y5.Me.Pq.map Gv.c) :: .i .i64 (Y5.Me.Pq.length:Int) :: .i .i64 (Y2 + 1) :: an 22 [])))),[.box 34 [.sl (Y5.Me.Pq.map Gv.c), .sl (Y5.Me.Tr.map (cL (cI .i64))), .sl (Y5.Sp.map Gs.c), .f .f32 Y5.Film, .f .f32 Y5.Bend, .sl (Y5.We.map (cF .f32)), .f .f32 Y5.Fall.X, .f .f32 Y5.Fall.Y, .f .f32 Y5.Fall.Z], .vec 29 1 ((Y3.map (cF .f32)).set 3 [.f .f32 (Z1I Y5 Y2 Y3)]) false, .nest 60 ((Zl Y5.Me).map fun l=>l.map (cI .i64)) false]⟩) (sB Yr<|sG Gv.c Y5.Me.Pq Y2 YU YR<|sK [14,14]<|sX (cF .f32) Y3 3 y_2 YV<|sV (cF .f32) Y3 3 y_4<|sG (cF .f32) Y5.We Y2 YU y_5<|sF (Z4P Y5.Fall (Y5.Me.Pq.getD Y2.toNat default))<|sX (cF .f32) Y3 3 y_2 YV<|sC (X3w (c:=(cF .f32)) (l:=Y3) y_4)<|sI (Y2 + 1) y_6 y_7<|sN) (by kernel_rfl) (by simp [Z5d,List.map_set,cF]) (ih (Y2 + 1) (Y3.set 3 (Z1I Y5 Y2 Y3)) (show 0≤(Y2 + 1) from (by omega)) (show (Y3.set 3 (Z1I Y5 Y2 Y3)).length=(Z19 Y5).length from (by simp_all<;>omega)) (by omega))
  | false =>
   have YM:=odf Yr
   have e:ZQ Y5 (k + 1) Y2 Y3=Y3:=by simp only [ZQ,Yr,cond_false]
   rw [e]
   exact outR (e:=(.exit 6)) E0Ok Zg [] Z6h [0,1,2] (sB Yr<|sN) (by kernel_rfl) (by intro h;cases h)
theorem Z6i (Y5:Gb):∀ (k:Nat) (Y2:Int) (Y3:(List Nat)) (hk:((Y5.Me.Pq.length:Int) - Y2).toNat < k),(ZQ Y5 k Y2 Y3).length=Y3.length:=by
  intro k
  induction k with
  | zero=>intro Y2 Y3 hk;exact absurd hk (Nat.not_lt_zero _)
  | succ k ih =>
    intro Y2 Y3 hk
    cases Yr:(decide (Y2 < (Y5.Me.Pq.length:Int))) with
    | true =>
      have e:ZQ Y5 (k + 1) Y2 Y3=(ZQ Y5 k (Y2 + 1) (Y3.set 3 (Z1I Y5 Y2 Y3))):=by simp only [ZQ,Yr,cond_true]
      rw [e,ih (Y2 + 1) (Y3.set 3 (Z1I Y5 Y2 Y3)) (by simp_all<;>omega)]<;>simp
    | false =>
      have e:ZQ Y5 (k + 1) Y2 Y3=Y3:=by simp only [ZQ,Yr,cond_false]
      first | (rw [e];done) | (rw [e];rfl)
def Z23 (Y5:Gb):(List Nat):=(ZQ Y5 (((Y5.Me.Pq.length:Int) - 0).toNat + 1) 0 (Z19 Y5))
@[simp] theorem Z5o (Y5:Gb):(Z23 Y5).length=((Z19 Y5):(List Nat)).length:=Z6i Y5 (((Y5.Me.Pq.length:Int) - 0).toNat + 1) 0 (Z19 Y5) (by exact Nat.lt_succ_self _)
def Zu (Y5:Gb):(List Nat):=(Z23 Y5)
@[simp] theorem Z8m (Y5:Gb):(Zu Y5).length=4:=by
  first | (simp [Zu];done)
theorem Z33 (b:Gb):(Zu b).length=4:=by
  unfold Zu
  rw [Z5o,Z5n,Z5m,Z5l];simp
theorem Z5L (Y5:Gb) (hp0:Y5.Me.Pq.length≤1073741824) (hp1:Y5.Me.Tr.length≤1073741824) (hp2:∀ t∈Y5.Me.Tr,t.length≤1073741824) (hp3:Y5.Sp.length≤1073741824) (hp4:Y5.We.length≤1073741824) (hp5:OkBd Y5)  : Fn prog 89 [.agg [.sl (Y5.Me.Pq.map Gv.c), .sl (Y5.Me.Tr.map (cL (cI .i64))), .sl (Y5.Sp.map Gs.c), .f .f32 Y5.Film, .f .f32 Y5.Bend, .sl (Y5.We.map (cF .f32)), .f .f32 Y5.Fall.X, .f .f32 Y5.Fall.Y, .f .f32 Y5.Fall.Z]] (.own 0) [.vec 29 1 ((Zu Y5).map (cF .f32)) false]:=by
 have y0:(0:Int)≤4:=(by omega)
 have y1:(4:Int)≤2147483648:=(by omega)
 have y2:OkE Y5.Me.Pq.length Y5.Me.Tr:=(by exact hp5.e)
 refine fnS E0Ok Zg (c:=X2 f89) [] (.own 0) [.vec 29 1 ((Z23 Y5).map (cF .f32)) false] func89 (sC (show (4:Int)=4 from rfl)<|sC y0<|sC y1<|sZ Gs.c Y5.Sp<|sL (mR false [0,4,10,5,98]) 2 (X13 (st2:=⟨.agg [.sl (Y5.Me.Pq.map Gv.c), .sl (Y5.Me.Tr.map (cL (cI .i64))), .sl (Y5.Sp.map Gs.c), .f .f32 Y5.Film, .f .f32 Y5.Bend, .sl (Y5.We.map (cF .f32)), .f .f32 Y5.Fall.X, .f .f32 Y5.Fall.Y, .f .f32 Y5.Fall.Z] :: .ptr 0 0 0 :: .nils :: .own 1 :: an 10 (.own 1 :: .ptr 0 0 2 :: .sl (Y5.Sp.map Gs.c) :: .i .i64 (Y5.Sp.length:Int) :: .i .i64 0 :: an 98 []),[.box 34 [.sl (Y5.Me.Pq.map Gv.c), .sl (Y5.Me.Tr.map (cL (cI .i64))), .sl (Y5.Sp.map Gs.c), .f .f32 Y5.Film, .f .f32 Y5.Bend, .sl (Y5.We.map (cF .f32)), .f .f32 Y5.Fall.X, .f .f32 Y5.Fall.Y, .f .f32 Y5.Fall.Z], .vec 29 1 (List.replicate (Int.toNat 4) [.f .f32 0]) false]⟩) (Xc (Z3L Y5) (x:=(Z17 Y5)) (Z6M Y5 hp0 hp1 hp2 hp3 hp4 hp5 (((Y5.Sp.length:Int) - 0).toNat + 1) 0 (List.replicate 4 0) (show 0≤0 from (by omega)) (show (List.replicate 4 0).length=4 from (by simp;done)) (Nat.lt_succ_self _)) rfl) (by simp [Z3M,cF]))<|sZ (cL (cI .i64)) Y5.Me.Tr<|sL (mR false [0,4,10,3,25,5,70]) 2 (Xc (Z3N Y5) (x:=(Z18 Y5)) (Z6N Y5 hp0 hp1 hp2 hp3 hp4 hp5 (((Y5.Me.Tr.length:Int) - 0).toNat + 1) 0 (Z17 Y5) (show 0≤0 from (by omega)) (show (Z17 Y5).length=(Z17 Y5).length from (by omega)) (Nat.lt_succ_self _)) rfl)<|sF (Z7d Y5.Me hp0 hp1 hp2 y2)<|sM (X7N (l:=(Zl Y5.Me)) (f:=fun l=>l.map (cI .i64)))<|sL Z4J 3 (Xc (Z3O Y5) (x:=(Z19 Y5)) (Z6O Y5 hp0 hp1 hp2 hp3 hp4 hp5 ((((Zl Y5.Me).length:Int) - 0).toNat + 1) 0 (Z18 Y5) (show 0≤0 from (by omega)) (show (Z18 Y5).length=(Z18 Y5).length from (by omega)) (Nat.lt_succ_self _)) rfl)<|sZ Gv.c Y5.Me.Pq<|sL Z4M 3 (Xc (Z3P Y5) (x:=(Z23 Y5)) (Z6P Y5 hp0 hp1 hp2 hp3 hp4 hp5 (((Y5.Me.Pq.length:Int) - 0).toNat + 1) 0 (Z19 Y5) (show 0≤0 from (by omega)) (show (Z19 Y5).length=(Z19 Y5).length from (by omega)) (Nat.lt_succ_self _)) rfl)<|sK [1] sN) rfl (by kernel_rfl) (by kernel_rfl) rfl ?_ ?_
 · rfl
 · simp [Zu]
def Z7 (Y5:Gb):(List Nat) × Bool:=(cond (Zm Y5)
  ((Zu Y5),true)
  (([]:List Nat),false))
theorem Z6j (Y5:Gb):(Z7 Y5).1.length≤4:=by
  cases h0:(Zm Y5) with
  | true =>
    first | (simp [Z7,h0];done)
  | false =>
    first | (simp [Z7,h0];done)
theorem Z7e (b:Gb):(Z7 b).1.length≤4:=by
  unfold Z7
  cases Zm b with
  | false=>exact Nat.zero_le _
  | true=>exact Nat.le_of_eq (Z33 b)
theorem Z7x (Y5:Gb) (hp0:Y5.Me.Pq.length≤1073741824) (hp1:Y5.Me.Tr.length≤1073741824) (hp2:∀ t∈Y5.Me.Tr,t.length≤1073741824) (hp3:Y5.Sp.length≤1073741824) (hp4:Y5.We.length≤1073741824)  : Fn prog 39 [.agg [.sl (Y5.Me.Pq.map Gv.c), .sl (Y5.Me.Tr.map (cL (cI .i64))), .sl (Y5.Sp.map Gs.c), .f .f32 Y5.Film, .f .f32 Y5.Bend, .sl (Y5.We.map (cF .f32)), .f .f32 Y5.Fall.X, .f .f32 Y5.Fall.Y, .f .f32 Y5.Fall.Z]] (.tup [.own 0, .b ((Z7 Y5).2)]) [.vec 29 1 (((Z7 Y5).1).map (cF .f32)) false]:=by
 have p {a C} (s:Scr a C):=sF (Z24 Y5 hp0 hp1 hp2 hp3 hp4)<|s
 cases h0:(Zm Y5) with
 | true =>
  have y0:OkBd Y5:=by clear p;exact (by exact Z2P _ (by assumption))
  refine fnS E0Ok Zg (c:=X2 f39) [] (.tup [.own 0, .b true]) [.vec 29 1 ((Zu Y5).map (cF .f32)) false] func39 (p (sB' h0<|sF (Z5L Y5 hp0 hp1 hp2 hp3 hp4 y0)<|sK [1] sN)) rfl (by kernel_rfl) (by kernel_rfl) rfl ?_ ?_
  · simp only [Z7,h0,cond_true]
  · simp [Z7,h0]
 | false =>
  refine fnS E0Ok Zg (c:=X2 f39) [(.tm 2, .vec 29 1 [] false)] (.tup [.own 0, .b false]) [.vec 29 1 [] false] func39 (p (sB' h0<|sK [1] sN)) rfl (by kernel_rfl) (by kernel_rfl) rfl ?_ ?_
  · simp only [Z7,h0,cond_false]
  · simp [Z7,h0,cF]
def Z51 (Y5:Gb):Nat:=(fop .add .f32 (fop .add .f32 (fop .add .f32 ((Zu Y5).getD 0 default) ((Zu Y5).getD 1 default)) ((Zu Y5).getD 2 default)) ((Zu Y5).getD 3 default))
def Z1n (Y5:Gb):Nat:=(Z51 Y5)
theorem Z7f (Y5:Gb) (hp0:Y5.Me.Pq.length≤1073741824) (hp1:Y5.Me.Tr.length≤1073741824) (hp2:∀ t∈Y5.Me.Tr,t.length≤1073741824) (hp3:Y5.Sp.length≤1073741824) (hp4:Y5.We.length≤1073741824) (hp5:OkBd Y5)  : Fn prog 90 [.agg [.sl (Y5.Me.Pq.map Gv.c), .sl (Y5.Me.Tr.map (cL (cI .i64))), .sl (Y5.Sp.map Gs.c), .f .f32 Y5.Film, .f .f32 Y5.Bend, .sl (Y5.We.map (cF .f32)), .f .f32 Y5.Fall.X, .f .f32 Y5.Fall.Y, .f .f32 Y5.Fall.Z]] (.f .f32 (Z1n Y5)) []:=by
 have y0:(0:Int)≤0:=(by omega)
 have y1:0 < ((Zu Y5).length:Int):=(by have q:=Z33 Y5;omega)
 have y2:0 < (Zu Y5).length:=(by omega)
 have y3:(0:Int)≤1:=(by omega)
 have y4:1 < ((Zu Y5).length:Int):=(by have q:=Z33 Y5;omega)
 have y5:1 < (Zu Y5).length:=(by omega)
 have y6:(0:Int)≤2:=(by omega)
 have y7:2 < ((Zu Y5).length:Int):=(by have q:=Z33 Y5;omega)
 have y8:2 < (Zu Y5).length:=(by omega)
 have y9:(0:Int)≤3:=(by omega)
 have y10:3 < ((Zu Y5).length:Int):=(by have q:=Z33 Y5;omega)
 have y11:3 < (Zu Y5).length:=(by omega)
 refine fnS E0Ok Zg (c:=X2 f90) [] (.f .f32 (Z51 Y5)) [] func90 (sF (Z5L Y5 hp0 hp1 hp2 hp3 hp4 hp5)<|sK [14,14]<|sX (cF .f32) (Zu Y5) 0 y0 y1<|sV (cF .f32) (Zu Y5) 0 y2<|sX (cF .f32) (Zu Y5) 1 y3 y4<|sV (cF .f32) (Zu Y5) 1 y5<|sX (cF .f32) (Zu Y5) 2 y6 y7<|sV (cF .f32) (Zu Y5) 2 y8<|sX (cF .f32) (Zu Y5) 3 y9 y10<|sV (cF .f32) (Zu Y5) 3 y11<|sK [] sN) rfl (by kernel_rfl) (by kernel_rfl) rfl ?_ ?_
 · rfl
 · rfl
def Z9 (Y5:Gb):Nat × Bool:=(cond (Zm Y5)
  ((Z1n Y5),true)
  (0,false))
theorem Z3a (Y5:Gb) (hp0:Y5.Me.Pq.length≤1073741824) (hp1:Y5.Me.Tr.length≤1073741824) (hp2:∀ t∈Y5.Me.Tr,t.length≤1073741824) (hp3:Y5.Sp.length≤1073741824) (hp4:Y5.We.length≤1073741824)  : Fn prog 40 [.agg [.sl (Y5.Me.Pq.map Gv.c), .sl (Y5.Me.Tr.map (cL (cI .i64))), .sl (Y5.Sp.map Gs.c), .f .f32 Y5.Film, .f .f32 Y5.Bend, .sl (Y5.We.map (cF .f32)), .f .f32 Y5.Fall.X, .f .f32 Y5.Fall.Y, .f .f32 Y5.Fall.Z]] (.tup [.f .f32 ((Z9 Y5).1), .b ((Z9 Y5).2)]) []:=by
 have p {a C} (s:Scr a C):=sF (Z24 Y5 hp0 hp1 hp2 hp3 hp4)<|s
 cases h0:(Zm Y5) with
 | true =>
  have y0:OkBd Y5:=by clear p;exact (by exact Z2P _ (by assumption))
  refine fnS E0Ok Zg (c:=X2 f40) [] (.tup [.f .f32 (Z1n Y5), .b true]) [] func40 (p (sB' h0<|sF (Z7f Y5 hp0 hp1 hp2 hp3 hp4 y0)<|sK [] sN)) rfl (by kernel_rfl) (by kernel_rfl) rfl ?_ ?_
  · simp only [Z9,h0,cond_true]
  · rfl
 | false =>
  refine fnS E0Ok Zg (c:=X2 f40) [] (.tup [.f .f32 0, .b false]) [] func40 (p (sB' h0<|sK [] sN)) rfl (by kernel_rfl) (by kernel_rfl) rfl ?_ ?_
  · simp only [Z9,h0,cond_false]
  · rfl
def Z1m (Y4:Gm):Nat→Int→(List (List Int))→(List (List Int))
  | 0,_,_=>default
  | k + 1,Y2,YC=>(cond (decide (Y2 < (Y4.Tr.length:Int)))
    (Z1m Y4 k (Y2 + 1) (YC ++ [(([]:List Int) ++ (Y4.Tr.getD Y2.toNat default))]))
    YC)
def Z3s (Y4:Gm) (r:(List (List Int))):Ex × St:=((.exit 0),⟨.agg [.sl (Y4.Pq.map Gv.c), .sl (Y4.Tr.map (cL (cI .i64)))] :: .ptr 0 0 0 :: .ptr 1 0 0 :: .ptr 2 0 0 :: .any :: .any :: .any :: .ptr 0 0 0 :: .sl (Y4.Pq.map Gv.c) :: .own 3 :: .agg [.own 3, .nils] :: .ptr 0 0 1 :: .sl (Y4.Tr.map (cL (cI .i64))) :: an 15 [],[.box 27 [.sl (Y4.Pq.map Gv.c), .sl (Y4.Tr.map (cL (cI .i64)))], .box 27 [.nils, .nils], .box 27 [.own 3, .own 4], .vec 32 3 (([]:List (List AV)) ++ (Y4.Pq.map Gv.c)) false, .nest 60 (r.map fun l=>l.map (cI .i64)) false]⟩)
def Z3t (Y4:Gm) (Y2:Int) (YC:(List (List Int))):St:=⟨.agg [.sl (Y4.Pq.map Gv.c), .sl (Y4.Tr.map (cL (cI .i64)))] :: .ptr 0 0 0 :: .ptr 1 0 0 :: .ptr 3 0 0 :: .any :: .any :: .any :: .ptr 0 0 0 :: .sl (Y4.Pq.map Gv.c) :: .own 2 :: .agg [.own 2, .nils] :: .ptr 0 0 1 :: .sl (Y4.Tr.map (cL (cI .i64))) :: .i .i64 (Y4.Tr.length:Int) :: .i .i64 Y2 :: an 13 [],[.box 27 [.sl (Y4.Pq.map Gv.c), .sl (Y4.Tr.map (cL (cI .i64)))], .box 27 [.nils, .nils], .vec 32 3 (([]:List (List AV)) ++ (Y4.Pq.map Gv.c)) false, .box 27 [.own 2, .own 4], .nest 60 (YC.map fun l=>l.map (cI .i64)) false]⟩
theorem Z6x (Y4:Gm) (hp0:Y4.Pq.length≤1073741824) (hp1:Y4.Tr.length≤1073741824) (hp2:∀ t∈Y4.Tr,t.length≤1073741824) (hp3:Xy Y4.Pq.length Y4.Tr):∀ (k:Nat) (Y2:Int) (YC:(List (List Int))) (Z2U:0≤Y2) (Z4r:(YC.length:Int)=Y2) (hk:((Y4.Tr.length:Int) - Y2).toNat < k),Lp prog 0 (sub (X2 f91) [1,1,0,1,0,0]) (Z3t Y4 Y2 YC) (Z3s Y4 (Z1m Y4 k Y2 YC)).1 (Z3s Y4 (Z1m Y4 k Y2 YC)).2:=by
 intro k
 induction k with
 | zero=>intro Y2 YC Z2U Z4r hk;exact absurd hk (Nat.not_lt_zero _)
 | succ k ih =>
  intro Y2 YC Z2U Z4r hk
  cases Yr:(decide (Y2 < (Y4.Tr.length:Int))) with
  | true =>
   have YM:=odt Yr
   have YU:(0:Int)≤Y2:=(by assumption)
   have YR:Y2 < (Y4.Tr.length:Int):=(by assumption)
   have y_2:([]:List Int).length + (Y4.Tr.getD Y2.toNat default).length≤1073741824:=(by simp_all<;>omega)
   have YV:YC.length + [(([]:List Int) ++ (Y4.Tr.getD Y2.toNat default))].length≤1073741824:=(by simp_all<;>omega)
   have y_4:(-9223372036854775808:Int)≤(Y2 + 1):=(by omega)
   have y_5:(Y2 + 1)≤(9223372036854775807:Int):=(by omega)
   have e:Z1m Y4 (k + 1) Y2 YC=(Z1m Y4 k (Y2 + 1) (YC ++ [(([]:List Int) ++ (Y4.Tr.getD Y2.toNat default))])):=by simp only [Z1m,Yr,cond_true]
   rw [e]
   exact XD E0Ok Zg [] (mR false [0,4,3,8,13]) [0,1,2,3,4] (⟨.agg [.sl (Y4.Pq.map Gv.c), .sl (Y4.Tr.map (cL (cI .i64)))] :: .ptr 0 0 0 :: .ptr 1 0 0 :: .ptr 3 0 0 :: .any :: .any :: .any :: .ptr 0 0 0 :: .sl (Y4.Pq.map Gv.c) :: .own 2 :: .agg [.own 2, .nils] :: .ptr 0 0 1 :: .sl (Y4.Tr.map (cL (cI .i64))) :: .i .i64 (Y4.Tr.length:Int) :: .i .i64 (Y2 + 1) :: an 13 [],[.box 27 [.sl (Y4.Pq.map Gv.c), .sl (Y4.Tr.map (cL (cI .i64)))], .box 27 [.nils, .nils], .vec 32 3 (([]:List (List AV)) ++ (Y4.Pq.map Gv.c)) false, .box 27 [.own 2, .own 4], .nest 60 ((YC.map fun l=>l.map (cI .i64)) ++ [(([]:List (List AV)) ++ ((Y4.Tr.getD Y2.toNat default).map (cI .i64)))]) false]⟩) (sB Yr<|sG (cL (cI .i64)) Y4.Tr Y2 YU YR<|sK [6,6]<|sC (show ((Y4.Tr.getD Y2.toNat default).map (cI .i64))≠[] from (by have q:=(Xy.at hp3 Z2U (odt (by assumption))).1;have q2:(Y4.Tr.getD Y2.toNat default)≠[]:=(by intro hq;rw [hq] at q;simp at q);simpa using q2))<|sC (show ([]:List (List AV)).length + ((Y4.Tr.getD Y2.toNat default).map (cI .i64)).length≤1073741824 from (by simpa using y_2))<|sC (show ((Y4.Tr.getD Y2.toNat default).map (cI .i64)).all (fun cs=>cs.length == 1 && cs.all isS)=true from (X3d (fun _=>rfl)))<|sC (show (YC.map fun l=>l.map (cI .i64)).length + [(([]:List (List AV)) ++ ((Y4.Tr.getD Y2.toNat default).map (cI .i64)))].length≤1073741824 from (by simpa using YV))<|sI (Y2 + 1) y_4 y_5<|sN) (by kernel_rfl) (by simp [Z3t,Gv.c,cL,cI]) (ih (Y2 + 1) (YC ++ [(([]:List Int) ++ (Y4.Tr.getD Y2.toNat default))]) (show 0≤(Y2 + 1) from (by omega)) (show ((YC ++ [(([]:List Int) ++ (Y4.Tr.getD Y2.toNat default))]).length:Int)=(Y2 + 1) from (by simp_all<;>omega)) (by omega))
  | false =>
   have YM:=odf Yr
   have e:Z1m Y4 (k + 1) Y2 YC=YC:=by simp only [Z1m,Yr,cond_false]
   rw [e]
   exact outR (e:=(.exit 0)) E0Ok Zg [] (mR false [0,4,3,6,15]) [0,1,3,2,4] (sB Yr<|sN) (by kernel_rfl) (by intro h;cases h)
end Go.Ab
