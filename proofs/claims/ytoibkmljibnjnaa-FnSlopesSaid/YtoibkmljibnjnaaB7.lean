/- The functions of this seat as plain Lean, and that the program's are these. Printed by a program of the prover's own. -/
import Derived.Test.YtoibkmljibnjnaaB6
set_option linter.unusedVariables false
set_option linter.unusedSimpArgs false
set_option maxRecDepth 100000
namespace Go.Ab
open Go.RowKit Go.Proofs.Try
end Go.Ab
namespace Go.Proofs
open Go.Shelf
def Try.laysF0n6_ren:Go.Shelf.Ren:=⟨fun | 6=>119 | 15=>131 | 14=>130 | 28=>142 | 29=>143 | 20=>134 | 21=>135 | 22=>136 | 23=>137 | 24=>138 | 25=>139 | 26=>140 | 27=>141 | 46=>145 | 47=>146 | 48=>147 | 49=>148 | 50=>149 | 57=>151 | n=>n,fun | 22=>108 | 24=>113 | 25=>148 | 3=>3 | 39=>104 | 0=>0 | 53=>165 | 55=>132 | 4=>4 | 46=>158 | 45=>157 | 50=>162 | 5=>5 | 9=>9 | 66=>168 | 70=>172 | 76=>175 | 77=>176 | n=>n,fun | n=>n⟩
theorem Try.laysF0n6:Go.Proofs.SlLaysF0.n6 Try.prog Try.laysF0n6_ren:={
  mixed:=by kernel_rfl
  f6:=⟨Try.f119.name,by decide,Try.func119.trans (congrArg some (by kernel_rfl))⟩
  f14:=⟨Try.f130.name,by decide,Try.func130.trans (congrArg some (by kernel_rfl))⟩
  f15:=Try.func131.trans (congrArg some (by kernel_rfl))
  f20:=⟨Try.f134.name,by decide,Try.func134.trans (congrArg some (by kernel_rfl))⟩
  f21:=⟨Try.f135.name,by decide,Try.func135.trans (congrArg some (by kernel_rfl))⟩
  f22:=⟨Try.f136.name,by decide,Try.func136.trans (congrArg some (by kernel_rfl))⟩
  f23:=⟨Try.f137.name,by decide,Try.func137.trans (congrArg some (by kernel_rfl))⟩
  f24:=⟨Try.f138.name,by decide,Try.func138.trans (congrArg some (by kernel_rfl))⟩
  f25:=⟨Try.f139.name,by decide,Try.func139.trans (congrArg some (by kernel_rfl))⟩
  f26:=⟨Try.f140.name,by decide,Try.func140.trans (congrArg some (by kernel_rfl))⟩
  f27:=⟨Try.f141.name,by decide,Try.func141.trans (congrArg some (by kernel_rfl))⟩
  f28:=Try.func142.trans (congrArg some (by kernel_rfl))
  f29:=Try.func143.trans (congrArg some (by kernel_rfl))
  f46:=⟨Try.f145.name,by decide,Try.func145.trans (congrArg some (by kernel_rfl))⟩
  f47:=Try.func146.trans (congrArg some (by kernel_rfl))
  f48:=Try.func147.trans (congrArg some (by kernel_rfl))
  f49:=⟨Try.f148.name,by decide,Try.func148.trans (congrArg some (by kernel_rfl))⟩
  f50:=⟨Try.f149.name,by decide,Try.func149.trans (congrArg some (by kernel_rfl))⟩
  f57:=⟨Try.f151.name,by decide,Try.func151.trans (congrArg some (by kernel_rfl))⟩
  t0:=Try.underlying0
  a0:=Try.isAgg0
  z0:=Try.sizeOf0
  v0:=Try.zeroValue0
  t3:=Try.underlying3
  a3:=Try.isAgg3
  z3:=Try.sizeOf3
  v3:=Try.zeroValue3
  t4:=Try.underlying4
  a4:=Try.isAgg4
  z4:=Try.sizeOf4
  v4:=Try.zeroValue4
  t5:=Try.underlying5
  a5:=Try.isAgg5
  z5:=Try.sizeOf5
  v5:=Try.zeroValue5
  t9:=Try.underlying9
  a9:=Try.isAgg9
  z9:=Try.sizeOf9
  v9:=Try.zeroValue9
  t22:=Try.underlying108
  a22:=Try.isAgg108
  z22:=Try.sizeOf108
  v22:=Try.zeroValue108
  t25:=Try.underlying148
  a25:=Try.isAgg148
  z25:=Try.sizeOf148
  v25:=Try.zeroValue148
  t39:=Try.underlying104
  a39:=Try.isAgg104
  z39:=Try.sizeOf104
  v39:=Try.zeroValue104
  t45:=Try.underlying157
  a45:=Try.isAgg157
  z45:=Try.sizeOf157
  v45:=Try.zeroValue157
  t46:=Try.underlying158
  a46:=Try.isAgg158
  z46:=Try.sizeOf158
  v46:=Try.zeroValue158
  t50:=Try.underlying162
  a50:=Try.isAgg162
  z50:=Try.sizeOf162
  v50:=Try.zeroValue162
  t53:=Try.underlying165
  a53:=Try.isAgg165
  z53:=Try.sizeOf165
  v53:=Try.zeroValue165
  t55:=Try.underlying132
  a55:=Try.isAgg132
  z55:=Try.sizeOf132
  v55:=Try.zeroValue132
  t66:=Try.underlying168
  a66:=Try.isAgg168
  z66:=Try.sizeOf168
  v66:=Try.zeroValue168
  t70:=Try.underlying172
  a70:=Try.isAgg172
  z70:=Try.sizeOf172
  v70:=Try.zeroValue172
  t76:=Try.underlying175
  a76:=Try.isAgg175
  z76:=Try.sizeOf175
  v76:=Try.zeroValue175
  t77:=Try.underlying176
  a77:=Try.isAgg176
  z77:=Try.sizeOf176
  v77:=Try.zeroValue176 }
end Go.Proofs
namespace Go.Ab
open Go.RowKit Go.Proofs.Try
theorem Zah (x y:Int):Z10 x y=if x < y then -1 else if x > y then 1 else 0:=by
  unfold Z10 Z1K
  simp only [bne_self_eq_false,cond_false]
  by_cases h1:x < y
  · simp [h1]
  · by_cases h2:x > y<;>simp [h1,h2]
theorem Zai (a b:Gedge):Z3d a b=cmpP a.pr b.pr:=by
  unfold Z3d Z14 Z1e cmpP Gedge.pr
  show (match Zk [a.e0,a.e1] [b.e0,b.e1] 3 0 with | .inl r1=>r1 | .inr r1=>cond (decide (((2:Nat):Int) < ((2:Nat):Int))) (-1) 0)=_
  simp only [Zk,Zah,List.length_cons,List.length_nil]
  by_cases h1:a.e0 < b.e0
  · simp [h1]
  · by_cases h2:a.e0 > b.e0
    · simp [h1,h2]
    · by_cases h3:a.e1 < b.e1
      · simp [h1,h2,h3]
      · by_cases h4:a.e1 > b.e1<;>simp [h1,h2,h3,h4]
def Z2T (l:List Gedge):List Gedge:=X2s Gedge.pr l
theorem Z5H (l:List Gedge) (h:l.length≤1073741824):X7 prog 119 [.vec 113 2 (l.map Gedge.cells) false] [.own 0, .fn 120 []] (.tup []) [.vec 113 2 ((Z2T l).map Gedge.cells) false] :=
  X9Q laysF0n6 isAgg113 sizeOf113 Gedge.pr Gedge.inj Gedge.cells (fun _=>rfl) 113 120 ⟨_,func119,rfl,by kernel_rfl⟩ (Z4Q default default).1
    (fun a b W=>((Z4Q a b).2 W #[keyV a.pr,keyV b.pr] ⟨rfl,fun j c e=>by match j,e with | 0,e=>cases e;exact Rep.agg _ _ rfl (fun i c e=>by match i,e with | 0,e=>cases e;exact .i _ _ | 1,e=>cases e;exact .i _ _) | 1,e=>cases e;exact Rep.agg _ _ rfl (fun i c e=>by match i,e with | 0,e=>cases e;exact .i _ _ | 1,e=>cases e;exact .i _ _)⟩).mono fun e w' ⟨v,μ',he,hb,_,hr⟩=>by
      cases hr;rw [Zai] at he;exact ⟨he,hb⟩) l h
def Z4 (Y4:Gm):(List (Gedge × List Int)) × (List Gedge):=((ZH Y4).1,(Z2T ((ZH Y4).2)))
theorem Z5I (m:Gm) (ok:OkE m.Pq.length m.Tr):(Z4 m).2=edgL m.Pq.length m.Tr:=(Z7I m ok).sorted ok
theorem Z8e (m:Gm) (ok:OkE m.Pq.length m.Tr) {e:Gedge} (he:e∈(Z4 m).2):mhas (Z4 m).1 e=true∧((Z4 m).1.getD (midx (Z4 m).1 e) default).2=idxP m.Tr e.e0 e.e1:=by
  rw [Z5I m ok] at he
  have h:=(Z7I m ok).at ok he
  exact ⟨h.1,h.2.trans (Xad ok (X4w.1 he).1.2.1)⟩
theorem Z8W (m:Gm) (ok:OkE m.Pq.length m.Tr):(Z4 m).2.length≤4096:=by
  rw [Z5I m ok];exact X3D ok
theorem Z6w (m:Gm) (ok:OkE m.Pq.length m.Tr) {i:Int} (h0:0≤i) (hi:i < ((Z4 m).2.length:Int)):(Z4 m).2.getD i.toNat default∈(Z4 m).2:=by
  have hn:i.toNat < (Z4 m).2.length:=by omega
  rw [List.getD_eq_getElem?_getD,List.getElem?_eq_getElem hn];exact List.getElem_mem hn
theorem Z4i (m:Gm) (ok:OkE m.Pq.length m.Tr) {i:Int} (h0:0≤i) (hi:i < ((Z4 m).2.length:Int)) :
    0≤((Z4 m).2.getD i.toNat default).e0∧((Z4 m).2.getD i.toNat default).e0 < ((Z4 m).2.getD i.toNat default).e1∧((Z4 m).2.getD i.toNat default).e1 < (m.Pq.length:Int)∧(m.Pq.length:Int)≤64∧((Z4 m).2.length:Int)≤4096:=by
  have hl:=Z8W m ok
  have h64:=ok.1
  have hm:=Z6w m ok h0 hi
  rw [Z5I m ok] at hm
  have hb:=X5r hm
  rw [← Z5I m ok] at hb
  exact ⟨hb.1,hb.2.1,hb.2.2,by omega,by omega⟩
theorem Z5L (m:Gm) (ok:OkE m.Pq.length m.Tr) {i:Int} (h0:0≤i) (hi:i < ((Z4 m).2.length:Int))
    (h2:((((Z4 m).1.getD (midx (Z4 m).1 ((Z4 m).2.getD i.toNat default)) default).2.length:Int))=2) :
    0≤((Z4 m).1.getD (midx (Z4 m).1 ((Z4 m).2.getD i.toNat default)) default).2.getD 0 default∧((Z4 m).1.getD (midx (Z4 m).1 ((Z4 m).2.getD i.toNat default)) default).2.getD 0 default < (m.Tr.length:Int) ∧
    0≤((Z4 m).1.getD (midx (Z4 m).1 ((Z4 m).2.getD i.toNat default)) default).2.getD 1 default∧((Z4 m).1.getD (midx (Z4 m).1 ((Z4 m).2.getD i.toNat default)) default).2.getD 1 default < (m.Tr.length:Int)∧(m.Tr.length:Int)≤128:=by
  obtain ⟨g1,g2⟩:=Z8e m ok (Z6w m ok h0 hi)
  rw [g2] at h2 ⊢
  have a1:=X5s (ts:=m.Tr) (a:=((Z4 m).2.getD i.toNat default).e0) (b:=((Z4 m).2.getD i.toNat default).e1) (k:=0) (by omega)
  have a2:=X5s (ts:=m.Tr) (a:=((Z4 m).2.getD i.toNat default).e0) (b:=((Z4 m).2.getD i.toNat default).e1) (k:=1) (by omega)
  have:=ok.2.1
  exact ⟨a1.1,a1.2.1,a2.1,a2.2.1,by omega⟩
theorem Z5O (Y4:Gm) (hp0:Y4.Pq.length≤1073741824) (hp1:Y4.Tr.length≤1073741824) (hp2:∀ t∈Y4.Tr,t.length≤1073741824) (hp3:OkE Y4.Pq.length Y4.Tr)  : Fn prog 82 [.agg [.sl (Y4.Pq.map Gv.c), .sl (Y4.Tr.map (cL (cI .i64)))]] (.tup [.mp 0, .own 1]) [.mapN 2 (mapC Gedge.pr (cI .i64) ((Z4 Y4).1)) none, .vec 113 2 (((Z4 Y4).2).map Gedge.cells) false]:=by
 have y0:((ZH Y4).2).length≤1073741824:=(by (have q:=Z9c Y4 hp3;omega))
 refine fnS E0Ok Ze (c:=X0 f82) [] (.tup [.mp 0, .own 1]) [.mapN 2 (mapC Gedge.pr (cI .i64) ((ZH Y4).1)) none, .vec 113 2 ((Z2T ((ZH Y4).2)).map Gedge.cells) false] func82 (sZ (cL (cI .i64)) Y4.Tr<|sL (mR false [0,2,1,3,4,1,1,4,41]) 3 (X1e (st2:=⟨.agg [.sl (Y4.Pq.map Gv.c), .sl (Y4.Tr.map (cL (cI .i64)))] :: .ptr 0 0 0 :: .any :: .nils :: .mp 1 :: .own 2 :: an 4 (.mp 1 :: .any :: .ptr 0 0 1 :: .sl (Y4.Tr.map (cL (cI .i64))) :: .i .i64 (Y4.Tr.length:Int) :: .i .i64 0 :: an 41 []),[.box 27 [.sl (Y4.Pq.map Gv.c), .sl (Y4.Tr.map (cL (cI .i64)))], .mapN 2 [] none, .vec 113 2 ([]:List (List AV)) false]⟩) (X9 (Z2B Y4) (x:=(ZH Y4)) (Z5w Y4 hp0 hp1 hp2 hp3 (((Y4.Tr.length:Int) - 0).toNat + 1) 0 ([]:(List (Gedge × List Int))) ([]:List Gedge) (show 0≤0 from (by omega)) (show (([]:List Gedge).length:Int)≤3 * 0 from (by simp;done)) (show ∀ y∈([]:(List (Gedge × List Int))),(y.2.length:Int)≤3 * 0 from (by simp;done)) (Nat.lt_succ_self _)) rfl) (by simp [Z3e,mapC,Gedge.cells]))<|sS (X7.frame (Z5H ((ZH Y4).2) y0) [2] (R:=[.box 27 [.sl (Y4.Pq.map Gv.c), .sl (Y4.Tr.map (cL (cI .i64)))], .mapN 2 (mapC Gedge.pr (cI .i64) ((ZH Y4).1)) none, .vec 113 2 (((ZH Y4).2).map Gedge.cells) false]) (args':=[.own 2, .fn 120 []]) rfl rfl rfl rfl rfl rfl)<|sK [1,2] sN) rfl (by kernel_rfl) (by kernel_rfl) rfl ?_ ?_
 · rfl
 · simp [Z4]
def Z2W (t_0:(List Int)) (e_1:Gedge):Int:=(IntKind.wrap .i64 ((IntKind.wrap .i64 ((IntKind.wrap .i64 ((IntKind.wrap .i64 ((t_0.getD 0 default) + (t_0.getD 1 default))) + (t_0.getD 2 default))) - e_1.e0)) - e_1.e1))
def Z2Y (t_0:(List Int)) (e_1:Gedge):Int:=(Z2W t_0 e_1)
theorem Z5S (t_0:(List Int)) (e_1:Gedge) (hp0:t_0.length≤1073741824) (hp1:t_0.length=3)  : Fn prog 122 [.sl (t_0.map (cI .i64)), .agg [.i .i64 e_1.e0, .i .i64 e_1.e1]] (.i .i64 (Z2Y t_0 e_1)) []:=by
 have y0:(0:Int)≤0:=(by omega)
 have y1:0 < (t_0.length:Int):=(by omega)
 have y2:(0:Int)≤1:=(by omega)
 have y3:1 < (t_0.length:Int):=(by omega)
 have y4:(0:Int)≤2:=(by omega)
 have y5:2 < (t_0.length:Int):=(by omega)
 refine fnS E0Ok Ze (c:=X0 f122) [] (.i .i64 (Z2W t_0 e_1)) [] func122 (sK [16,16]<|sG (cI .i64) t_0 0 y0 y1<|sG (cI .i64) t_0 1 y2 y3<|sW .i64 ((t_0.getD 0 default) + (t_0.getD 1 default))<|sG (cI .i64) t_0 2 y4 y5<|sW .i64 ((IntKind.wrap .i64 ((t_0.getD 0 default) + (t_0.getD 1 default))) + (t_0.getD 2 default))<|sC (show (0:Int)≤0∧0 < ((2:Nat):Int) from (by decide))<|sW .i64 ((IntKind.wrap .i64 ((IntKind.wrap .i64 ((t_0.getD 0 default) + (t_0.getD 1 default))) + (t_0.getD 2 default))) - e_1.e0)<|sC (show (0:Int)≤1∧1 < ((2:Nat):Int) from (by decide))<|sM (show IntKind.wrap .i64 ((IntKind.wrap .i64 ((IntKind.wrap .i64 ((IntKind.wrap .i64 ((t_0.getD 0 default) + (t_0.getD 1 default))) + (t_0.getD 2 default))) - e_1.e0)) - e_1.e1)=(Z2W t_0 e_1) from rfl)<|sK [] sN) rfl (by kernel_rfl) (by kernel_rfl) rfl ?_ ?_
 · rfl
 · rfl
def Z1M (Y4:Gm) (Y2:Int):Int:=(Z2Y (Y4.Tr.getD ((((Z4 Y4).1).getD (midx ((Z4 Y4).1) (((Z4 Y4).2).getD Y2.toNat default)) default).2.getD 0 default).toNat default) (((Z4 Y4).2).getD Y2.toNat default))
def Z1N (Y4:Gm) (Y2:Int):Int:=(Z2Y (Y4.Tr.getD ((((Z4 Y4).1).getD (midx ((Z4 Y4).1) (((Z4 Y4).2).getD Y2.toNat default)) default).2.getD 1 default).toNat default) (((Z4 Y4).2).getD Y2.toNat default))
def ZF (Y4:Gm):Nat→Int→(List (List Int))→(List (List Int))
  | 0,_,_=>default
  | k + 1,Y2,Y3=>(cond (decide (Y2 < (((Z4 Y4).2).length:Int)))
    (cond (mhas ((Z4 Y4).1) (((Z4 Y4).2).getD Y2.toNat default))
      (cond (((((Z4 Y4).1).getD (midx ((Z4 Y4).1) (((Z4 Y4).2).getD Y2.toNat default)) default).2.length:Int) == 2)
        (ZF Y4 k (Y2 + 1) (Y3 ++ [[(((Z4 Y4).2).getD Y2.toNat default).e0,(((Z4 Y4).2).getD Y2.toNat default).e1,(Z1M Y4 Y2),(Z1N Y4 Y2)]]))
        (ZF Y4 k (Y2 + 1) Y3))
      (ZF Y4 k (Y2 + 1) Y3))
    Y3)
def Z3u (Y4:Gm) (r:(List (List Int))):Ex × St:=((.exit 0),⟨.agg [.sl (Y4.Pq.map Gv.c), .sl (Y4.Tr.map (cL (cI .i64)))] :: .ptr 0 0 0 :: .nils :: .own 1 :: .any :: .own 2 :: an 5 (.agg [.sl (Y4.Pq.map Gv.c), .sl (Y4.Tr.map (cL (cI .i64)))] :: .any :: .mp 3 :: .own 2 :: .own 2 :: an 39 []),[.box 27 [.sl (Y4.Pq.map Gv.c), .sl (Y4.Tr.map (cL (cI .i64)))], .nest 60 (r.map fun l=>l.map (cI .i64)) false, .vec 113 2 (((Z4 Y4).2).map Gedge.cells) false, .mapN 2 (mapC Gedge.pr (cI .i64) ((Z4 Y4).1)) none]⟩)
def Z3v (Y4:Gm) (Y2:Int) (Y3:(List (List Int))):St:=⟨.agg [.sl (Y4.Pq.map Gv.c), .sl (Y4.Tr.map (cL (cI .i64)))] :: .ptr 0 0 0 :: .nils :: .own 1 :: .mp 2 :: .own 3 :: an 5 (.agg [.sl (Y4.Pq.map Gv.c), .sl (Y4.Tr.map (cL (cI .i64)))] :: .any :: .mp 2 :: .own 3 :: .own 3 :: .i .i64 (((Z4 Y4).2).length:Int) :: .i .i64 Y2 :: an 37 []),[.box 27 [.sl (Y4.Pq.map Gv.c), .sl (Y4.Tr.map (cL (cI .i64)))], .nest 60 (Y3.map fun l=>l.map (cI .i64)) false, .mapN 2 (mapC Gedge.pr (cI .i64) ((Z4 Y4).1)) none, .vec 113 2 (((Z4 Y4).2).map Gedge.cells) false]⟩
set_option maxHeartbeats 1000000 in
theorem Z6x (Y4:Gm) (hp0:Y4.Pq.length≤1073741824) (hp1:Y4.Tr.length≤1073741824) (hp2:∀ t∈Y4.Tr,t.length≤1073741824) (hp3:OkE Y4.Pq.length Y4.Tr):∀ (k:Nat) (Y2:Int) (Y3:(List (List Int))) (ZN:0≤Y2) (Z4o:(Y3.length:Int)≤Y2) (hk:((((Z4 Y4).2).length:Int) - Y2).toNat < k),Lp prog 0 (sub (X0 f103) [1,1,1,0,1,0,0]) (Z3v Y4 Y2 Y3) (Z3u Y4 (ZF Y4 k Y2 Y3)).1 (Z3u Y4 (ZF Y4 k Y2 Y3)).2:=by
 intro k
 induction k with
 | zero=>intro Y2 Y3 ZN Z4o hk;exact absurd hk (Nat.not_lt_zero _)
 | succ k ih =>
  intro Y2 Y3 ZN Z4o hk
  cases Yk:(decide (Y2 < (((Z4 Y4).2).length:Int))) with
  | true =>
   have YH:=odt Yk
   have YQ:(0:Int)≤Y2:=(by assumption)
   have YN:Y2 < (((Z4 Y4).2).length:Int):=(by assumption)
   have y_2:Y2.toNat < ((Z4 Y4).2).length:=(by omega)
   have p {a C} (s:Scr a C):=sB Yk<|sX Gedge.cells ((Z4 Y4).2) Y2 YQ YN<|sV Gedge.cells ((Z4 Y4).2) Y2.toNat y_2<|s
   cases YB:(mhas ((Z4 Y4).1) (((Z4 Y4).2).getD Y2.toNat default)) with
   | true =>
    have m_8:=X3j YB
    have q {a C} (s:Scr a C):=p (sA (.keep [midx ((Z4 Y4).1) (((Z4 Y4).2).getD Y2.toNat default)])<|sC (X4c (ck:=Gedge.pr) (cv:=(cI .i64)) YB)<|sM (X7e (ck:=Gedge.pr) (cv:=(cI .i64)) (l:=(Z4 Y4).1) (j:=(midx ((Z4 Y4).1) (((Z4 Y4).2).getD Y2.toNat default))))<|s)
    clear p
    cases YO:(((((Z4 Y4).1).getD (midx ((Z4 Y4).1) (((Z4 Y4).2).getD Y2.toNat default)) default).2.length:Int) == 2) with
    | true =>
     have Y1B:=eq_of_beq YO
     have YR:(0:Int)≤0:=by clear q;exact (by omega)
     have y_4:0 < ((((Z4 Y4).1).getD (midx ((Z4 Y4).1) (((Z4 Y4).2).getD Y2.toNat default)) default).2.length:Int):=by clear q;exact (by omega)
     have y_5:0 < (((Z4 Y4).1).getD (midx ((Z4 Y4).1) (((Z4 Y4).2).getD Y2.toNat default)) default).2.length:=by clear q;exact (by omega)
     have y_6:(0:Int)≤((((Z4 Y4).1).getD (midx ((Z4 Y4).1) (((Z4 Y4).2).getD Y2.toNat default)) default).2.getD 0 default):=by clear q;exact (by ((have q:=Z5L Y4 hp3 ZN (odt (by assumption)) (by assumption);omega)))
     have y_7:((((Z4 Y4).1).getD (midx ((Z4 Y4).1) (((Z4 Y4).2).getD Y2.toNat default)) default).2.getD 0 default) < (Y4.Tr.length:Int):=by clear q;exact (by ((have q:=Z5L Y4 hp3 ZN (odt (by assumption)) (by assumption);omega)))
     have y_8:(Y4.Tr.getD ((((Z4 Y4).1).getD (midx ((Z4 Y4).1) (((Z4 Y4).2).getD Y2.toNat default)) default).2.getD 0 default).toNat default).length≤1073741824:=by clear q;exact (by (have q:=Z5L Y4 hp3 ZN (odt (by assumption)) (by assumption);have q1:=(hp3.tris.at q.1 q.2.1).1;have q2:=(hp3.tris.at q.2.2.1 q.2.2.2.1).1;omega))
     have y_9:(Y4.Tr.getD ((((Z4 Y4).1).getD (midx ((Z4 Y4).1) (((Z4 Y4).2).getD Y2.toNat default)) default).2.getD 0 default).toNat default).length=3:=by clear q;exact (by (have q:=Z5L Y4 hp3 ZN (odt (by assumption)) (by assumption);have q1:=(hp3.tris.at q.1 q.2.1).1;have q2:=(hp3.tris.at q.2.2.1 q.2.2.2.1).1;exact q1))
     have Y1e:(0:Int)≤1:=by clear q;exact (by omega)
     have Y1j:1 < ((((Z4 Y4).1).getD (midx ((Z4 Y4).1) (((Z4 Y4).2).getD Y2.toNat default)) default).2.length:Int):=by clear q;exact (by omega)
     have Y1n:1 < (((Z4 Y4).1).getD (midx ((Z4 Y4).1) (((Z4 Y4).2).getD Y2.toNat default)) default).2.length:=by clear q;exact (by omega)
     have Y1o:(0:Int)≤((((Z4 Y4).1).getD (midx ((Z4 Y4).1) (((Z4 Y4).2).getD Y2.toNat default)) default).2.getD 1 default):=by clear q;exact (by ((have q:=Z5L Y4 hp3 ZN (odt (by assumption)) (by assumption);omega)))
     have Y1x:((((Z4 Y4).1).getD (midx ((Z4 Y4).1) (((Z4 Y4).2).getD Y2.toNat default)) default).2.getD 1 default) < (Y4.Tr.length:Int):=by clear q;exact (by ((have q:=Z5L Y4 hp3 ZN (odt (by assumption)) (by assumption);omega)))
     have Y1y:(Y4.Tr.getD ((((Z4 Y4).1).getD (midx ((Z4 Y4).1) (((Z4 Y4).2).getD Y2.toNat default)) default).2.getD 1 default).toNat default).length≤1073741824:=by clear q;exact (by (have q:=Z5L Y4 hp3 ZN (odt (by assumption)) (by assumption);have q1:=(hp3.tris.at q.1 q.2.1).1;have q2:=(hp3.tris.at q.2.2.1 q.2.2.2.1).1;omega))
     have Y1z:(Y4.Tr.getD ((((Z4 Y4).1).getD (midx ((Z4 Y4).1) (((Z4 Y4).2).getD Y2.toNat default)) default).2.getD 1 default).toNat default).length=3:=by clear q;exact (by (have q:=Z5L Y4 hp3 ZN (odt (by assumption)) (by assumption);have q1:=(hp3.tris.at q.1 q.2.1).1;have q2:=(hp3.tris.at q.2.2.1 q.2.2.2.1).1;exact q2))
     have Y1A:Y3.length + [[(((Z4 Y4).2).getD Y2.toNat default).e0,(((Z4 Y4).2).getD Y2.toNat default).e1,(Z1M Y4 Y2),(Z1N Y4 Y2)]].length≤1073741824:=by clear q;exact (by ((have q:=Z4i Y4 hp3 ZN (odt (by assumption));(simp only [List.length_append,List.length_cons,List.length_nil];omega))))
     have Y1E:(-9223372036854775808:Int)≤(Y2 + 1):=by clear q;exact (by omega)
     have Y1F:(Y2 + 1)≤(9223372036854775807:Int):=by clear q;exact (by ((have q:=Z4i Y4 hp3 ZN (odt (by assumption));omega)))
     have e:ZF Y4 (k + 1) Y2 Y3=(ZF Y4 k (Y2 + 1) (Y3 ++ [[(((Z4 Y4).2).getD Y2.toNat default).e0,(((Z4 Y4).2).getD Y2.toNat default).e1,(Z1M Y4 Y2),(Z1N Y4 Y2)]])):=by simp only [ZF,Yk,YB,YO,cond_true]
     rw [e]
     exact X14 E0Ok Ze [] (mR false [0,6,5,1,1,5,37]) [0,1,2,3] (⟨.agg [.sl (Y4.Pq.map Gv.c), .sl (Y4.Tr.map (cL (cI .i64)))] :: .ptr 0 0 0 :: .nils :: .own 1 :: .mp 2 :: .own 3 :: an 5 (.agg [.sl (Y4.Pq.map Gv.c), .sl (Y4.Tr.map (cL (cI .i64)))] :: .any :: .mp 2 :: .own 3 :: .own 3 :: .i .i64 (((Z4 Y4).2).length:Int) :: .i .i64 (Y2 + 1) :: an 37 []),[.box 27 [.sl (Y4.Pq.map Gv.c), .sl (Y4.Tr.map (cL (cI .i64)))], .nest 60 ((Y3.map fun l=>l.map (cI .i64)) ++ [([[.i .i64 ((((Z4 Y4).2).getD Y2.toNat default).e0)],[.i .i64 ((((Z4 Y4).2).getD Y2.toNat default).e1)],[.i .i64 (Z1M Y4 Y2)],[.i .i64 (Z1N Y4 Y2)]]:List (List AV))]) false, .mapN 2 (mapC Gedge.pr (cI .i64) ((Z4 Y4).1)) none, .vec 113 2 (((Z4 Y4).2).map Gedge.cells) false]⟩) (q (sB YO<|sK [25,25]<|sC (show (0:Int)≤0∧0 < ((2:Nat):Int) from (by decide))<|sC (show (0:Int)≤1∧1 < ((2:Nat):Int) from (by decide))<|sC (X81 (ck:=Gedge.pr) (cv:=(cI .i64)) (l:=(Z4 Y4).1) (j:=(midx ((Z4 Y4).1) (((Z4 Y4).2).getD Y2.toNat default))) (i:=0) YR y_4)<|sE (X80 (ck:=Gedge.pr) (cv:=(cI .i64)) (l:=(Z4 Y4).1) (j:=(midx ((Z4 Y4).1) (((Z4 Y4).2).getD Y2.toNat default))) (i:=0) y_5)<|sG (cL (cI .i64)) Y4.Tr ((((Z4 Y4).1).getD (midx ((Z4 Y4).1) (((Z4 Y4).2).getD Y2.toNat default)) default).2.getD 0 default) y_6 y_7<|sF (Z5S (Y4.Tr.getD ((((Z4 Y4).1).getD (midx ((Z4 Y4).1) (((Z4 Y4).2).getD Y2.toNat default)) default).2.getD 0 default).toNat default) (((Z4 Y4).2).getD Y2.toNat default) y_8 y_9)<|sC (X81 (ck:=Gedge.pr) (cv:=(cI .i64)) (l:=(Z4 Y4).1) (j:=(midx ((Z4 Y4).1) (((Z4 Y4).2).getD Y2.toNat default))) (i:=1) Y1e Y1j)<|sE (X80 (ck:=Gedge.pr) (cv:=(cI .i64)) (l:=(Z4 Y4).1) (j:=(midx ((Z4 Y4).1) (((Z4 Y4).2).getD Y2.toNat default))) (i:=1) Y1n)<|sG (cL (cI .i64)) Y4.Tr ((((Z4 Y4).1).getD (midx ((Z4 Y4).1) (((Z4 Y4).2).getD Y2.toNat default)) default).2.getD 1 default) Y1o Y1x<|sF (Z5S (Y4.Tr.getD ((((Z4 Y4).1).getD (midx ((Z4 Y4).1) (((Z4 Y4).2).getD Y2.toNat default)) default).2.getD 1 default).toNat default) (((Z4 Y4).2).getD Y2.toNat default) Y1y Y1z)<|sC (show (Y3.map fun l=>l.map (cI .i64)).length + [([[.i .i64 ((((Z4 Y4).2).getD Y2.toNat default).e0)],[.i .i64 ((((Z4 Y4).2).getD Y2.toNat default).e1)],[.i .i64 (Z1M Y4 Y2)],[.i .i64 (Z1N Y4 Y2)]]:List (List AV))].length≤1073741824 from (by simpa using Y1A))<|sI (Y2 + 1) Y1E Y1F<|sN)) (by kernel_rfl) (by simp [Z3v,cL,cI]) (ih (Y2 + 1) (Y3 ++ [[(((Z4 Y4).2).getD Y2.toNat default).e0,(((Z4 Y4).2).getD Y2.toNat default).e1,(Z1M Y4 Y2),(Z1N Y4 Y2)]]) (show 0≤(Y2 + 1) from (by omega)) (show ((Y3 ++ [[(((Z4 Y4).2).getD Y2.toNat default).e0,(((Z4 Y4).2).getD Y2.toNat default).e1,(Z1M Y4 Y2),(Z1N Y4 Y2)]]).length:Int)≤(Y2 + 1) from (by ((have q:=Z4i Y4 hp3 ZN (odt (by assumption));(simp only [List.length_append,List.length_cons,List.length_nil];omega))))) (by omega))
    | false =>
     have Y1B:=ne_of_beq_false YO
     have YR:(-9223372036854775808:Int)≤(Y2 + 1):=by clear q;exact (by omega)
     have y_4:(Y2 + 1)≤(9223372036854775807:Int):=by clear q;exact (by ((have q:=Z4i Y4 hp3 ZN (odt (by assumption));omega)))
     have e:ZF Y4 (k + 1) Y2 Y3=(ZF Y4 k (Y2 + 1) Y3):=by simp only [ZF,Yk,YB,YO,cond_true,cond_false]
     rw [e]
     exact XG E0Ok Ze [] (mR false [0,6,5,1,1,5,37]) [0,1,2,3] (ih (Y2 + 1) Y3 (show 0≤(Y2 + 1) from (by omega)) (show (Y3.length:Int)≤(Y2 + 1) from (by omega)) (by omega)) (q (sB YO<|sI (Y2 + 1) YR y_4<|sN)) (by kernel_rfl)
   | false =>
    have YR:(-9223372036854775808:Int)≤(Y2 + 1):=by clear p;exact (by omega)
    have y_4:(Y2 + 1)≤(9223372036854775807:Int):=by clear p;exact (by ((have q:=Z4i Y4 hp3 ZN (odt (by assumption));omega)))
    have e:ZF Y4 (k + 1) Y2 Y3=(ZF Y4 k (Y2 + 1) Y3):=by simp only [ZF,Yk,YB,cond_true,cond_false]
    rw [e]
    exact XG E0Ok Ze [] (mR false [0,6,5,1,1,5,37]) [0,1,2,3] (ih (Y2 + 1) Y3 (show 0≤(Y2 + 1) from (by omega)) (show (Y3.length:Int)≤(Y2 + 1) from (by omega)) (by omega)) (p (sA (.keep [])<|sC (X5p (ck:=Gedge.pr) (cv:=(cI .i64)) Gedge.inj YB)<|sM (show ((0:Nat):Int)=0 from rfl)<|sB (show (0 == 2)=false from rfl)<|sI (Y2 + 1) YR y_4<|sN)) (by kernel_rfl)
  | false =>
   have YH:=odf Yk
   have e:ZF Y4 (k + 1) Y2 Y3=Y3:=by simp only [ZF,Yk,cond_false]
   rw [e]
   exact outR (e:=(.exit 0)) E0Ok Ze [] (mR false [0,4,1,1,5,1,1,3,39]) [0,1,3,2] (sB Yk<|sN) (by kernel_rfl) (by intro h;cases h)
def Z2C (Y4:Gm):(List (List Int)):=(ZF Y4 (((((Z4 Y4).2).length:Int) - 0).toNat + 1) 0 ([]:List (List Int)))
def Z8 (Y4:Gm):(List (List Int)):=(Z2C Y4)
theorem Z22 (m:Gm) (ok:OkE m.Pq.length m.Tr):Z8 m=hgL m.Pq.length m.Tr:=by
  unfold Z8 Z2C
  refine (X8C (a:=(Z4 m).2) (p:=fun e=>decide ((idxP m.Tr e.e0 e.e1).length=2)) (f:=fun e => [e.e0,e.e1] ++ (idxP m.Tr e.e0 e.e1).map fun i=>thd (m.Tr.getD i.toNat default) e.e0 e.e1) (lo:=ZF m) (fun k i r h0 hi => ?_) (fun k i r hi => ?_)).trans ?_
  · have q:=Z4i m ok h0 hi
    have hm:=Z6w m ok h0 hi
    obtain ⟨g1,g2⟩:=Z8e m ok hm
    rw [ZF,decide_eq_true hi,cond_true,g1,cond_true,g2]
    unfold Z1M Z1N
    rw [g2]
    generalize (Z4 m).2.getD i.toNat default=e at *
    by_cases h2:(idxP m.Tr e.e0 e.e1).length=2
    · rw [decide_eq_true h2,show (((idxP m.Tr e.e0 e.e1).length:Int) == 2)=true from by rw [beq_iff_eq];omega,cond_true,cond_true]
      have hthd:∀ k:Nat,k < 2→Z2Y (m.Tr.getD ((idxP m.Tr e.e0 e.e1).getD k default).toNat default) e=thd (m.Tr.getD ((idxP m.Tr e.e0 e.e1).getD k default).toNat default) e.e0 e.e1:=by
        intro k hk
        obtain ⟨a1,a2,a3⟩:=X5s (ts:=m.Tr) (a:=e.e0) (b:=e.e1) (k:=k) (by omega)
        generalize (idxP m.Tr e.e0 e.e1).getD k default=i' at *
        have q2:=ok.tris.at a1 a2
        generalize m.Tr.getD i'.toNat default=t at *
        have h64:=ok.1
        unfold Z2Y Z2W thd
        rw [Xt (n:=t.getD 0 default + t.getD 1 default) (by omega) (by omega),Xt (n:=t.getD 0 default + t.getD 1 default + t.getD 2 default) (by omega) (by omega),Xt (n:=t.getD 0 default + t.getD 1 default + t.getD 2 default - e.e0) (by omega) (by omega),Xt (n:=t.getD 0 default + t.getD 1 default + t.getD 2 default - e.e0 - e.e1) (by omega) (by omega)]
      rw [hthd 0 (by omega),hthd 1 (by omega)]
      generalize idxP m.Tr e.e0 e.e1=l at *
      match l,h2 with
      | [a,b],_=>rfl
    · rw [decide_eq_false h2,show (((idxP m.Tr e.e0 e.e1).length:Int) == 2)=false from by rw [beq_eq_false_iff_ne];omega,cond_false,cond_false]
  · rw [ZF,decide_eq_false (by omega),cond_false]
  · rw [Z5I m ok];rfl
theorem Z8n (m:Gm) (ok:OkE m.Pq.length m.Tr) {i:Int} (h0:0≤i) (hi:i < ((Z8 m).length:Int)):((Z8 m).getD i.toNat default).length=4∧∀ x∈(Z8 m).getD i.toNat default,0≤x∧x < (m.Pq.length:Int):=by
  refine Xag ok ?_
  rw [← Z22 m ok,List.getD_eq_getElem?_getD,List.getElem?_eq_getElem (by omega)];exact List.getElem_mem _
theorem Z3f {m:Gm} (ok:OkE m.Pq.length m.Tr) {i:Int} (h0:0≤i) (hi:decide (i < ((Z8 m).length:Int))=true):((Z8 m).getD i.toNat default).length=4∧∀ x∈(Z8 m).getD i.toNat default,0≤x∧x < (m.Pq.length:Int):=Z8n m ok h0 (odt hi)
theorem Z8X {m:Gm} (ok:OkE m.Pq.length m.Tr) {i:Int} (h0:0≤i) (hi:decide (i < ((Z8 m).length:Int))=true):((Z8 m).getD i.toNat default).length≤1073741824:=by have:=(Z3f ok h0 hi).1;omega
theorem Z5p (m:Gm) (ok:OkE m.Pq.length m.Tr):(Z8 m).length≤4096:=by rw [Z22 m ok];exact Xaf ok
theorem Z5M (Y4:Gm) (hp0:Y4.Pq.length≤1073741824) (hp1:Y4.Tr.length≤1073741824) (hp2:∀ t∈Y4.Tr,t.length≤1073741824) (hp3:OkE Y4.Pq.length Y4.Tr)  : Fn prog 103 [.agg [.sl (Y4.Pq.map Gv.c), .sl (Y4.Tr.map (cL (cI .i64)))]] (.own 0) [.nest 60 ((Z8 Y4).map fun l=>l.map (cI .i64)) false]:=by
 refine fnS E0Ok Ze (c:=X0 f103) [] (.own 0) [.nest 60 ((Z2C Y4).map fun l=>l.map (cI .i64)) false] func103 (sF (Z5O Y4 hp0 hp1 hp2 hp3)<|sZ Gedge.cells ((Z4 Y4).2)<|sL (mR false [0,6,5,1,1,5,37]) 4 (X1e (st2:=⟨.agg [.sl (Y4.Pq.map Gv.c), .sl (Y4.Tr.map (cL (cI .i64)))] :: .ptr 0 0 0 :: .nils :: .own 1 :: .mp 2 :: .own 3 :: an 5 (.agg [.sl (Y4.Pq.map Gv.c), .sl (Y4.Tr.map (cL (cI .i64)))] :: .any :: .mp 2 :: .own 3 :: .own 3 :: .i .i64 (((Z4 Y4).2).length:Int) :: .i .i64 0 :: an 37 []),[.box 27 [.sl (Y4.Pq.map Gv.c), .sl (Y4.Tr.map (cL (cI .i64)))], .nest 60 [] false, .mapN 2 (mapC Gedge.pr (cI .i64) ((Z4 Y4).1)) none, .vec 113 2 (((Z4 Y4).2).map Gedge.cells) false]⟩) (X9 (Z3u Y4) (x:=(Z2C Y4)) (Z6x Y4 hp0 hp1 hp2 hp3 (((((Z4 Y4).2).length:Int) - 0).toNat + 1) 0 ([]:List (List Int)) (show 0≤0 from (by omega)) (show (([]:List (List Int)).length:Int)≤0 from (by simp)) (Nat.lt_succ_self _)) rfl) (by simp [Z3v,cL,cI]))<|sK [1] sN) rfl (by kernel_rfl) (by kernel_rfl) rfl ?_ ?_
 · rfl
 · simp [Z8]
def Z32 (Y4:Gm) (YB:(List Int)):Gv:=(ZW (Zj (Y4.Pq.getD (YB.getD 2 default).toNat default) (Y4.Pq.getD (YB.getD 3 default).toNat default)) (Zj (Y4.Pq.getD (YB.getD 0 default).toNat default) (Y4.Pq.getD (YB.getD 1 default).toNat default)))
def Zm (Y4:Gm) (YB:(List Int)):Gv:=(Z32 Y4 YB)
theorem Z6d (Y4:Gm) (YB:(List Int)) (hp0:Y4.Pq.length≤1073741824) (hp1:Y4.Tr.length≤1073741824) (hp2:∀ t∈Y4.Tr,t.length≤1073741824) (hp3:YB.length≤1073741824) (hp4:YB.length=4∧∀ x∈YB,0≤x∧x < (Y4.Pq.length:Int))  : Fn prog 104 [.agg [.sl (Y4.Pq.map Gv.c), .sl (Y4.Tr.map (cL (cI .i64)))], .sl (YB.map (cI .i64))] (.agg [.f .f32 ((Zm Y4 YB).X), .f .f32 ((Zm Y4 YB).Y), .f .f32 ((Zm Y4 YB).Z)]) []:=by
 have y0:(0:Int)≤2:=(by omega)
 have y1:2 < (YB.length:Int):=(by omega)
 have y2:(0:Int)≤(YB.getD 2 default):=(by have q:=Okh.at hp4;omega)
 have y3:(YB.getD 2 default) < (Y4.Pq.length:Int):=(by have q:=Okh.at hp4;omega)
 have y4:(0:Int)≤3:=(by omega)
 have y5:3 < (YB.length:Int):=(by omega)
 have y6:(0:Int)≤(YB.getD 3 default):=(by have q:=Okh.at hp4;omega)
 have y7:(YB.getD 3 default) < (Y4.Pq.length:Int):=(by have q:=Okh.at hp4;omega)
 have y8:(0:Int)≤0:=(by omega)
 have y9:0 < (YB.length:Int):=(by omega)
 have y10:(0:Int)≤(YB.getD 0 default):=(by have q:=Okh.at hp4;omega)
 have y11:(YB.getD 0 default) < (Y4.Pq.length:Int):=(by have q:=Okh.at hp4;omega)
 have y12:(0:Int)≤1:=(by omega)
 have y13:1 < (YB.length:Int):=(by omega)
 have y14:(0:Int)≤(YB.getD 1 default):=(by have q:=Okh.at hp4;omega)
 have y15:(YB.getD 1 default) < (Y4.Pq.length:Int):=(by have q:=Okh.at hp4;omega)
 refine fnS E0Ok Ze (c:=X0 f104) [] (.agg [.f .f32 ((Z32 Y4 YB).X), .f .f32 ((Z32 Y4 YB).Y), .f .f32 ((Z32 Y4 YB).Z)]) [] func104 (sK [25,25]<|sG (cI .i64) YB 2 y0 y1<|sG Gv.c Y4.Pq (YB.getD 2 default) y2 y3<|sG (cI .i64) YB 3 y4 y5<|sG Gv.c Y4.Pq (YB.getD 3 default) y6 y7<|sF (Z2V (Y4.Pq.getD (YB.getD 2 default).toNat default) (Y4.Pq.getD (YB.getD 3 default).toNat default))<|sG (cI .i64) YB 0 y8 y9<|sG Gv.c Y4.Pq (YB.getD 0 default) y10 y11<|sG (cI .i64) YB 1 y12 y13<|sG Gv.c Y4.Pq (YB.getD 1 default) y14 y15<|sF (Z2V (Y4.Pq.getD (YB.getD 0 default).toNat default) (Y4.Pq.getD (YB.getD 1 default).toNat default))<|sF (Z2i (Zj (Y4.Pq.getD (YB.getD 2 default).toNat default) (Y4.Pq.getD (YB.getD 3 default).toNat default)) (Zj (Y4.Pq.getD (YB.getD 0 default).toNat default) (Y4.Pq.getD (YB.getD 1 default).toNat default)))<|sK [] sN) rfl (by kernel_rfl) (by kernel_rfl) rfl ?_ ?_
 · rfl
 · rfl
theorem Z27 {n:Nat} {ts:List (List Int)} {i k:Int} (h:OkE n ts) (h0:0≤i) (hi:i < (ts.length:Int)) (k0:0≤k) (k3:k < 3) :
    (ts.getD i.toNat default).length=3∧0≤Int.tmod (k + 1) 3∧Int.tmod (k + 1) 3 < 3∧0≤Int.tmod (k + 2) 3∧Int.tmod (k + 2) 3 < 3 ∧
    (0≤(ts.getD i.toNat default).getD k.toNat default∧(ts.getD i.toNat default).getD k.toNat default < (n:Int)) ∧
    (0≤(ts.getD i.toNat default).getD (Int.tmod (k + 1) 3).toNat default∧(ts.getD i.toNat default).getD (Int.tmod (k + 1) 3).toNat default < (n:Int)) ∧
    (0≤(ts.getD i.toNat default).getD (Int.tmod (k + 2) 3).toNat default∧(ts.getD i.toNat default).getD (Int.tmod (k + 2) 3).toNat default < (n:Int)):=by
  have q1:=h.tris.at2 h0 hi k0 (.inl k3)
  have q2:=X8z (x:=k + 1) (by omega)
  have q3:=h.tris.at2 h0 hi q2.1 (.inl q2.2)
  have q4:=X8z (x:=k + 2) (by omega)
  have q5:=h.tris.at2 h0 hi q4.1 (.inl q4.2)
  exact ⟨q1.1,q2.1,q2.2,q4.1,q4.2,q1.2,q3.2,q5.2⟩
def Z1O (Y1:Gb) (Y2:Int) (Y3:(List Gv)):(List Gv):=(Zp ((Y1.Sp.getD Y2.toNat default).A) (Zl Y1 (Y1.Sp.getD Y2.toNat default)) (ZZ (Zl Y1 (Y1.Sp.getD Y2.toNat default)) (Y1.Sp.getD Y2.toNat default)) Y3)
@[simp] theorem Z3V (Y1:Gb) (Y2:Int) (Y3:(List Gv)):(Z1O Y1 Y2 Y3).length=Y3.length:=by unfold Z1O;simp
def Z1P (Y1:Gb) (Y2:Int) (Y3:(List Gv)):(List Gv):=(Zp ((Y1.Sp.getD Y2.toNat default).B) (Zl Y1 (Y1.Sp.getD Y2.toNat default)) (fneg .f32 (ZZ (Zl Y1 (Y1.Sp.getD Y2.toNat default)) (Y1.Sp.getD Y2.toNat default))) (Z1O Y1 Y2 Y3))
@[simp] theorem Z8o (Y1:Gb) (Y2:Int) (Y3:(List Gv)):(Z1P Y1 Y2 Y3).length=(Z1O Y1 Y2 Y3).length:=by unfold Z1P;simp
def ZQ (Y1:Gb):Nat→Int→(List Gv)→(List Gv)
  | 0,_,_=>default
  | k + 1,Y2,Y3=>(cond (decide (Y2 < (Y1.Sp.length:Int)))
    (ZQ Y1 k (Y2 + 1) (Z1P Y1 Y2 Y3))
    Y3)
def Z3w (Y1:Gb) (r:(List Gv)):Ex × St:=((.exit 0),⟨.agg [.sl (Y1.Me.Pq.map Gv.c), .sl (Y1.Me.Tr.map (cL (cI .i64))), .sl (Y1.Sp.map Gs.c), .f .f32 Y1.Film, .f .f32 Y1.Bend, .sl (Y1.We.map (cF .f32)), .f .f32 Y1.Fall.X, .f .f32 Y1.Fall.Y, .f .f32 Y1.Fall.Z] :: .ptr 0 0 0 :: .nils :: .ptr 1 0 0 :: .fn 102 [.ptr 1 0 0] :: an 18 (.ptr 0 0 0 :: .ptr 0 0 0 :: .sl (Y1.Me.Pq.map Gv.c) :: .i .i64 (Y1.Me.Pq.length:Int) :: .own 2 :: .fn 102 [.ptr 1 0 0] :: .ptr 0 0 2 :: .sl (Y1.Sp.map Gs.c) :: an 148 []),[.box 34 [.sl (Y1.Me.Pq.map Gv.c), .sl (Y1.Me.Tr.map (cL (cI .i64))), .sl (Y1.Sp.map Gs.c), .f .f32 Y1.Film, .f .f32 Y1.Bend, .sl (Y1.We.map (cF .f32)), .f .f32 Y1.Fall.X, .f .f32 Y1.Fall.Y, .f .f32 Y1.Fall.Z], .box 24 [.own 2], .vec 32 3 (r.map Gv.c) false]⟩)
def Z5g (Y1:Gb) (Y2:Int) (Y3:(List Gv)):St:=⟨.agg [.sl (Y1.Me.Pq.map Gv.c), .sl (Y1.Me.Tr.map (cL (cI .i64))), .sl (Y1.Sp.map Gs.c), .f .f32 Y1.Film, .f .f32 Y1.Bend, .sl (Y1.We.map (cF .f32)), .f .f32 Y1.Fall.X, .f .f32 Y1.Fall.Y, .f .f32 Y1.Fall.Z] :: .ptr 0 0 0 :: .nils :: .ptr 2 0 0 :: .fn 102 [.ptr 2 0 0] :: an 18 (.ptr 0 0 0 :: .ptr 0 0 0 :: .sl (Y1.Me.Pq.map Gv.c) :: .i .i64 (Y1.Me.Pq.length:Int) :: .own 1 :: .fn 102 [.ptr 2 0 0] :: .ptr 0 0 2 :: .sl (Y1.Sp.map Gs.c) :: .i .i64 (Y1.Sp.length:Int) :: .i .i64 Y2 :: an 146 []),[.box 34 [.sl (Y1.Me.Pq.map Gv.c), .sl (Y1.Me.Tr.map (cL (cI .i64))), .sl (Y1.Sp.map Gs.c), .f .f32 Y1.Film, .f .f32 Y1.Bend, .sl (Y1.We.map (cF .f32)), .f .f32 Y1.Fall.X, .f .f32 Y1.Fall.Y, .f .f32 Y1.Fall.Z], .vec 32 3 (Y3.map Gv.c) false, .box 24 [.own 1]]⟩
theorem Z6y (Y1:Gb) (hp0:Y1.Me.Pq.length≤1073741824) (hp1:Y1.Me.Tr.length≤1073741824) (hp2:∀ t∈Y1.Me.Tr,t.length≤1073741824) (hp3:Y1.Sp.length≤1073741824) (hp4:Y1.We.length≤1073741824) (hp5:OkBd Y1):∀ (k:Nat) (Y2:Int) (Y3:(List Gv)) (Z4p:0≤Y2) (Z4q:Y3.length=Y1.Me.Pq.length) (hk:((Y1.Sp.length:Int) - Y2).toNat < k),Lp prog 0 (sub (X0 f60) [1,1,1,0,1,0,0]) (Z5g Y1 Y2 Y3) (Z3w Y1 (ZQ Y1 k Y2 Y3)).1 (Z3w Y1 (ZQ Y1 k Y2 Y3)).2:=by
 intro k
 induction k with
 | zero=>intro Y2 Y3 Z4p Z4q hk;exact absurd hk (Nat.not_lt_zero _)
 | succ k ih =>
  intro Y2 Y3 Z4p Z4q hk
  cases Yk:(decide (Y2 < (Y1.Sp.length:Int))) with
  | true =>
   have YH:=odt Yk
   have YQ:(0:Int)≤Y2:=(by assumption)
   have YN:Y2 < (Y1.Sp.length:Int):=(by assumption)
   have y_2:0≤(Y1.Sp.getD Y2.toNat default).A:=(by have q:=Z2S hp5 (by assumption) Yk;omega)
   have YR:(Y1.Sp.getD Y2.toNat default).A < (Y1.Me.Pq.length:Int):=(by have q:=Z2S hp5 (by assumption) Yk;omega)
   have y_4:0≤(Y1.Sp.getD Y2.toNat default).B:=(by have q:=Z2S hp5 (by assumption) Yk;omega)
   have y_5:(Y1.Sp.getD Y2.toNat default).B < (Y1.Me.Pq.length:Int):=(by have q:=Z2S hp5 (by assumption) Yk;omega)
   have y_6:Y3.length≤1073741824:=(by omega)
   have y_7:0≤((Y1.Sp.getD Y2.toNat default).A):=(by assumption)
   have y_8:((Y1.Sp.getD Y2.toNat default).A) < (Y3.length:Int):=(by omega)
   have y_9:(Z1O Y1 Y2 Y3).length≤1073741824:=(by have q:=Z2S hp5 (by assumption) Yk;(simp only [Z3V];omega))
   have Y1e:0≤((Y1.Sp.getD Y2.toNat default).B):=(by assumption)
   have Y1j:((Y1.Sp.getD Y2.toNat default).B) < ((Z1O Y1 Y2 Y3).length:Int):=(by have q:=Z2S hp5 (by assumption) Yk;(simp only [Z3V];omega))
   have Y1n:(-9223372036854775808:Int)≤(Y2 + 1):=(by omega)
   have Y1o:(Y2 + 1)≤(9223372036854775807:Int):=(by omega)
   have e:ZQ Y1 (k + 1) Y2 Y3=(ZQ Y1 k (Y2 + 1) (Z1P Y1 Y2 Y3)):=by simp only [ZQ,Yk,cond_true]
   rw [e]
   exact XG E0Ok Ze [] (mR false [0,5,18,10,146]) [0,1,2] (ih (Y2 + 1) (Z1P Y1 Y2 Y3) (show 0≤(Y2 + 1) from (by omega)) (show (Z1P Y1 Y2 Y3).length=Y1.Me.Pq.length from (by simp_all<;>omega)) (by omega)) (sB Yk<|sG Gs.c Y1.Sp Y2 YQ YN<|sF (Z5e Y1 (Y1.Sp.getD Y2.toNat default) hp0 hp1 hp2 hp3 hp4 y_2 YR y_4 y_5)<|sF (Z81 (Zl Y1 (Y1.Sp.getD Y2.toNat default)) (Y1.Sp.getD Y2.toNat default))<|sS (X7.frame (Z13 ((Y1.Sp.getD Y2.toNat default).A) (Zl Y1 (Y1.Sp.getD Y2.toNat default)) (ZZ (Zl Y1 (Y1.Sp.getD Y2.toNat default)) (Y1.Sp.getD Y2.toNat default)) Y3 y_6 y_7 y_8) [2,1] (R:=[.box 34 [.sl (Y1.Me.Pq.map Gv.c), .sl (Y1.Me.Tr.map (cL (cI .i64))), .sl (Y1.Sp.map Gs.c), .f .f32 Y1.Film, .f .f32 Y1.Bend, .sl (Y1.We.map (cF .f32)), .f .f32 Y1.Fall.X, .f .f32 Y1.Fall.Y, .f .f32 Y1.Fall.Z], .vec 32 3 (Y3.map Gv.c) false, .box 24 [.own 1], .box 76 [.i .i64 ((Y1.Sp.getD Y2.toNat default).A), .i .i64 ((Y1.Sp.getD Y2.toNat default).B), .f .f32 ((Y1.Sp.getD Y2.toNat default).Long), .f .f32 ((Y1.Sp.getD Y2.toNat default).Stiff)], .box 32 [.f .f32 ((Zl Y1 (Y1.Sp.getD Y2.toNat default)).X), .f .f32 ((Zl Y1 (Y1.Sp.getD Y2.toNat default)).Y), .f .f32 ((Zl Y1 (Y1.Sp.getD Y2.toNat default)).Z)]]) (args':=[.i .i64 ((Y1.Sp.getD Y2.toNat default).A), .agg [.f .f32 ((Zl Y1 (Y1.Sp.getD Y2.toNat default)).X), .f .f32 ((Zl Y1 (Y1.Sp.getD Y2.toNat default)).Y), .f .f32 ((Zl Y1 (Y1.Sp.getD Y2.toNat default)).Z)], .f .f32 (ZZ (Zl Y1 (Y1.Sp.getD Y2.toNat default)) (Y1.Sp.getD Y2.toNat default)), .ptr 2 0 0]) rfl rfl rfl rfl rfl rfl)<|sS (X7.frame (Z13 ((Y1.Sp.getD Y2.toNat default).B) (Zl Y1 (Y1.Sp.getD Y2.toNat default)) (fneg .f32 (ZZ (Zl Y1 (Y1.Sp.getD Y2.toNat default)) (Y1.Sp.getD Y2.toNat default))) (Z1O Y1 Y2 Y3) y_9 Y1e Y1j) [2,1] (R:=[.box 34 [.sl (Y1.Me.Pq.map Gv.c), .sl (Y1.Me.Tr.map (cL (cI .i64))), .sl (Y1.Sp.map Gs.c), .f .f32 Y1.Film, .f .f32 Y1.Bend, .sl (Y1.We.map (cF .f32)), .f .f32 Y1.Fall.X, .f .f32 Y1.Fall.Y, .f .f32 Y1.Fall.Z], .vec 32 3 ((Z1O Y1 Y2 Y3).map Gv.c) false, .box 24 [.own 1], .box 76 [.i .i64 ((Y1.Sp.getD Y2.toNat default).A), .i .i64 ((Y1.Sp.getD Y2.toNat default).B), .f .f32 ((Y1.Sp.getD Y2.toNat default).Long), .f .f32 ((Y1.Sp.getD Y2.toNat default).Stiff)], .box 32 [.f .f32 ((Zl Y1 (Y1.Sp.getD Y2.toNat default)).X), .f .f32 ((Zl Y1 (Y1.Sp.getD Y2.toNat default)).Y), .f .f32 ((Zl Y1 (Y1.Sp.getD Y2.toNat default)).Z)]]) (args':=[.i .i64 ((Y1.Sp.getD Y2.toNat default).B), .agg [.f .f32 ((Zl Y1 (Y1.Sp.getD Y2.toNat default)).X), .f .f32 ((Zl Y1 (Y1.Sp.getD Y2.toNat default)).Y), .f .f32 ((Zl Y1 (Y1.Sp.getD Y2.toNat default)).Z)], .f .f32 (fneg .f32 (ZZ (Zl Y1 (Y1.Sp.getD Y2.toNat default)) (Y1.Sp.getD Y2.toNat default))), .ptr 2 0 0]) rfl rfl rfl rfl rfl rfl)<|sI (Y2 + 1) Y1n Y1o<|sN) (by kernel_rfl)
  | false =>
   have YH:=odf Yk
   have e:ZQ Y1 (k + 1) Y2 Y3=Y3:=by simp only [ZQ,Yk,cond_false]
   rw [e]
   exact outR (e:=(.exit 0)) E0Ok Ze [] (mR false [0,5,18,8,148]) [0,2,1] (sB Yk<|sN) (by kernel_rfl) (by intro h;cases h)
theorem Z60 (Y1:Gb):∀ (k:Nat) (Y2:Int) (Y3:(List Gv)) (hk:((Y1.Sp.length:Int) - Y2).toNat < k),(ZQ Y1 k Y2 Y3).length=Y3.length:=by
  intro k
  induction k with
  | zero=>intro Y2 Y3 hk;exact absurd hk (Nat.not_lt_zero _)
  | succ k ih =>
    intro Y2 Y3 hk
    cases Yk:(decide (Y2 < (Y1.Sp.length:Int))) with
    | true =>
      have e:ZQ Y1 (k + 1) Y2 Y3=(ZQ Y1 k (Y2 + 1) (Z1P Y1 Y2 Y3)):=by simp only [ZQ,Yk,cond_true]
      rw [e,ih (Y2 + 1) (Z1P Y1 Y2 Y3) (by simp_all<;>omega)]<;>simp
    | false =>
      have e:ZQ Y1 (k + 1) Y2 Y3=Y3:=by simp only [ZQ,Yk,cond_false]
      first | (rw [e];done) | (rw [e];rfl)
def Z1k (Y1:Gb):(List Gv):=(ZQ Y1 (((Y1.Sp.length:Int) - 0).toNat + 1) 0 (List.replicate (Y1.Me.Pq.length:Int).toNat (⟨0,0,0⟩:Gv)))
@[simp] theorem Z83 (Y1:Gb):(Z1k Y1).length=((List.replicate (Y1.Me.Pq.length:Int).toNat (⟨0,0,0⟩:Gv)):(List Gv)).length:=Z60 Y1 (((Y1.Sp.length:Int) - 0).toNat + 1) 0 (List.replicate (Y1.Me.Pq.length:Int).toNat (⟨0,0,0⟩:Gv)) (by exact Nat.lt_succ_self _)
def Z1c (Y1:Gb) (Y2:Int) (Y5:Int):Gv:=(ZW (Y1.Me.Pq.getD ((Y1.Me.Tr.getD Y2.toNat default).getD (Int.tmod (Y5 + 2) 3).toNat default).toNat default) (Y1.Me.Pq.getD ((Y1.Me.Tr.getD Y2.toNat default).getD (Int.tmod (Y5 + 1) 3).toNat default).toNat default))
def Z1Q (Y1:Gb) (Y2:Int) (Y5:Int) (Ye:(List Gv)):(List Gv):=(Zp ((Y1.Me.Tr.getD Y2.toNat default).getD Y5.toNat default) (Zw (Zd Y1.Me (Y1.Me.Tr.getD Y2.toNat default)) (Z1c Y1 Y2 Y5)) (fop .quo .f32 (fneg .f32 (fop .mul .f32 1056964608 Y1.Film)) (Zg (Zd Y1.Me (Y1.Me.Tr.getD Y2.toNat default)))) Ye)
@[simp] theorem Z8p (Y1:Gb) (Y2:Int) (Y5:Int) (Ye:(List Gv)):(Z1Q Y1 Y2 Y5 Ye).length=Ye.length:=by unfold Z1Q;simp
def ZX (Y1:Gb) (Y2:Int) (Ya:(List Gv)):Nat→Int→(List Gv)→(List Gv)
  | 0,_,_=>default
  | k + 1,Y5,Ye=>(cond (decide (Y5 < 3))
    (ZX Y1 Y2 Ya k (Y5 + 1) (Z1Q Y1 Y2 Y5 Ye))
    Ye)
def Z3x (Y1:Gb) (Y2:Int) (Ya:(List Gv)) (r:(List Gv)):Ex × St:=((.exit 4),⟨.agg [.sl (Y1.Me.Pq.map Gv.c), .sl (Y1.Me.Tr.map (cL (cI .i64))), .sl (Y1.Sp.map Gs.c), .f .f32 Y1.Film, .f .f32 Y1.Bend, .sl (Y1.We.map (cF .f32)), .f .f32 Y1.Fall.X, .f .f32 Y1.Fall.Y, .f .f32 Y1.Fall.Z] :: .ptr 0 0 0 :: .nils :: .ptr 1 0 0 :: .fn 102 [.ptr 1 0 0] :: an 4 (.sl (Y1.Me.Pq.map Gv.c) :: .any :: .sl ((Y1.Me.Tr.getD Y2.toNat default).map (cI .i64)) :: .ptr 2 0 0 :: .f .f32 (fop .quo .f32 (fneg .f32 (fop .mul .f32 1056964608 Y1.Film)) (Zg (Zd Y1.Me (Y1.Me.Tr.getD Y2.toNat default)))) :: .f .f32 (Zg (Zd Y1.Me (Y1.Me.Tr.getD Y2.toNat default))) :: an 8 (.ptr 0 0 0 :: .ptr 0 0 0 :: .sl (Y1.Me.Pq.map Gv.c) :: .i .i64 (Y1.Me.Pq.length:Int) :: .own 3 :: .fn 102 [.ptr 1 0 0] :: .ptr 0 0 2 :: .sl (Y1.Sp.map Gs.c) :: an 25 (.ptr 0 0 0 :: .ptr 0 0 0 :: .sl (Y1.Me.Pq.map Gv.c) :: .ptr 0 0 0 :: .ptr 0 0 1 :: .sl (Y1.Me.Tr.map (cL (cI .i64))) :: .i .i64 (Y1.Me.Tr.length:Int) :: .i .i64 Y2 :: .b (decide (Y2 < (Y1.Me.Tr.length:Int))) :: .ref [.sl ((Y1.Me.Tr.getD Y2.toNat default).map (cI .i64))] 0 :: .sl ((Y1.Me.Tr.getD Y2.toNat default).map (cI .i64)) :: .ptr 0 0 0 :: .agg [.sl (Y1.Me.Pq.map Gv.c), .sl (Y1.Me.Tr.map (cL (cI .i64)))] :: .sl ((Y1.Me.Tr.getD Y2.toNat default).map (cI .i64)) :: .agg [.f .f32 ((Zd Y1.Me (Y1.Me.Tr.getD Y2.toNat default)).X), .f .f32 ((Zd Y1.Me (Y1.Me.Tr.getD Y2.toNat default)).Y), .f .f32 ((Zd Y1.Me (Y1.Me.Tr.getD Y2.toNat default)).Z)] :: .agg [.f .f32 ((Zd Y1.Me (Y1.Me.Tr.getD Y2.toNat default)).X), .f .f32 ((Zd Y1.Me (Y1.Me.Tr.getD Y2.toNat default)).Y), .f .f32 ((Zd Y1.Me (Y1.Me.Tr.getD Y2.toNat default)).Z)] :: .f .f32 (Zg (Zd Y1.Me (Y1.Me.Tr.getD Y2.toNat default))) :: .f .f32 (Zg (Zd Y1.Me (Y1.Me.Tr.getD Y2.toNat default))) :: .b (fcmp .gtr .f32 (Zg (Zd Y1.Me (Y1.Me.Tr.getD Y2.toNat default))) 0) :: .ptr 0 0 3 :: .f .f32 Y1.Film :: .f .f32 (fop .mul .f32 1056964608 Y1.Film) :: .f .f32 (fneg .f32 (fop .mul .f32 1056964608 Y1.Film)) :: .f .f32 (Zg (Zd Y1.Me (Y1.Me.Tr.getD Y2.toNat default))) :: .f .f32 (fop .quo .f32 (fneg .f32 (fop .mul .f32 1056964608 Y1.Film)) (Zg (Zd Y1.Me (Y1.Me.Tr.getD Y2.toNat default)))) :: an 98 []))),[.box 34 [.sl (Y1.Me.Pq.map Gv.c), .sl (Y1.Me.Tr.map (cL (cI .i64))), .sl (Y1.Sp.map Gs.c), .f .f32 Y1.Film, .f .f32 Y1.Bend, .sl (Y1.We.map (cF .f32)), .f .f32 Y1.Fall.X, .f .f32 Y1.Fall.Y, .f .f32 Y1.Fall.Z], .box 24 [.own 3], .box 32 [.f .f32 ((Zd Y1.Me (Y1.Me.Tr.getD Y2.toNat default)).X), .f .f32 ((Zd Y1.Me (Y1.Me.Tr.getD Y2.toNat default)).Y), .f .f32 ((Zd Y1.Me (Y1.Me.Tr.getD Y2.toNat default)).Z)], .vec 32 3 (r.map Gv.c) false]⟩)
def Z6z (Y1:Gb) (Y2:Int) (Ya:(List Gv)) (Y5:Int) (Ye:(List Gv)):St:=⟨.agg [.sl (Y1.Me.Pq.map Gv.c), .sl (Y1.Me.Tr.map (cL (cI .i64))), .sl (Y1.Sp.map Gs.c), .f .f32 Y1.Film, .f .f32 Y1.Bend, .sl (Y1.We.map (cF .f32)), .f .f32 Y1.Fall.X, .f .f32 Y1.Fall.Y, .f .f32 Y1.Fall.Z] :: .ptr 0 0 0 :: .nils :: .ptr 1 0 0 :: .fn 102 [.ptr 1 0 0] :: an 4 (.sl (Y1.Me.Pq.map Gv.c) :: .any :: .sl ((Y1.Me.Tr.getD Y2.toNat default).map (cI .i64)) :: .ptr 3 0 0 :: .f .f32 (fop .quo .f32 (fneg .f32 (fop .mul .f32 1056964608 Y1.Film)) (Zg (Zd Y1.Me (Y1.Me.Tr.getD Y2.toNat default)))) :: .f .f32 (Zg (Zd Y1.Me (Y1.Me.Tr.getD Y2.toNat default))) :: an 8 (.ptr 0 0 0 :: .ptr 0 0 0 :: .sl (Y1.Me.Pq.map Gv.c) :: .i .i64 (Y1.Me.Pq.length:Int) :: .own 2 :: .fn 102 [.ptr 1 0 0] :: .ptr 0 0 2 :: .sl (Y1.Sp.map Gs.c) :: an 25 (.ptr 0 0 0 :: .ptr 0 0 0 :: .sl (Y1.Me.Pq.map Gv.c) :: .ptr 0 0 0 :: .ptr 0 0 1 :: .sl (Y1.Me.Tr.map (cL (cI .i64))) :: .i .i64 (Y1.Me.Tr.length:Int) :: .i .i64 Y2 :: .b (decide (Y2 < (Y1.Me.Tr.length:Int))) :: .ref [.sl ((Y1.Me.Tr.getD Y2.toNat default).map (cI .i64))] 0 :: .sl ((Y1.Me.Tr.getD Y2.toNat default).map (cI .i64)) :: .ptr 0 0 0 :: .agg [.sl (Y1.Me.Pq.map Gv.c), .sl (Y1.Me.Tr.map (cL (cI .i64)))] :: .sl ((Y1.Me.Tr.getD Y2.toNat default).map (cI .i64)) :: .agg [.f .f32 ((Zd Y1.Me (Y1.Me.Tr.getD Y2.toNat default)).X), .f .f32 ((Zd Y1.Me (Y1.Me.Tr.getD Y2.toNat default)).Y), .f .f32 ((Zd Y1.Me (Y1.Me.Tr.getD Y2.toNat default)).Z)] :: .agg [.f .f32 ((Zd Y1.Me (Y1.Me.Tr.getD Y2.toNat default)).X), .f .f32 ((Zd Y1.Me (Y1.Me.Tr.getD Y2.toNat default)).Y), .f .f32 ((Zd Y1.Me (Y1.Me.Tr.getD Y2.toNat default)).Z)] :: .f .f32 (Zg (Zd Y1.Me (Y1.Me.Tr.getD Y2.toNat default))) :: .f .f32 (Zg (Zd Y1.Me (Y1.Me.Tr.getD Y2.toNat default))) :: .b (fcmp .gtr .f32 (Zg (Zd Y1.Me (Y1.Me.Tr.getD Y2.toNat default))) 0) :: .ptr 0 0 3 :: .f .f32 Y1.Film :: .f .f32 (fop .mul .f32 1056964608 Y1.Film) :: .f .f32 (fneg .f32 (fop .mul .f32 1056964608 Y1.Film)) :: .f .f32 (Zg (Zd Y1.Me (Y1.Me.Tr.getD Y2.toNat default))) :: .f .f32 (fop .quo .f32 (fneg .f32 (fop .mul .f32 1056964608 Y1.Film)) (Zg (Zd Y1.Me (Y1.Me.Tr.getD Y2.toNat default)))) :: .i .i64 Y5 :: an 97 []))),[.box 34 [.sl (Y1.Me.Pq.map Gv.c), .sl (Y1.Me.Tr.map (cL (cI .i64))), .sl (Y1.Sp.map Gs.c), .f .f32 Y1.Film, .f .f32 Y1.Bend, .sl (Y1.We.map (cF .f32)), .f .f32 Y1.Fall.X, .f .f32 Y1.Fall.Y, .f .f32 Y1.Fall.Z], .box 24 [.own 2], .vec 32 3 (Ye.map Gv.c) false, .box 32 [.f .f32 ((Zd Y1.Me (Y1.Me.Tr.getD Y2.toNat default)).X), .f .f32 ((Zd Y1.Me (Y1.Me.Tr.getD Y2.toNat default)).Y), .f .f32 ((Zd Y1.Me (Y1.Me.Tr.getD Y2.toNat default)).Z)]]⟩
def Z4r:List Bool:=(mR false [0,5,4,1,1,4,8,8,25,26,97])
def Z61:List Bool:=(mR false [0,5,4,1,1,4,8,8,25,25,98])
theorem Z6A (Y1:Gb) (Y2:Int) (Ya:(List Gv)) (hp0:Y1.Me.Pq.length≤1073741824) (hp1:Y1.Me.Tr.length≤1073741824) (hp2:∀ t∈Y1.Me.Tr,t.length≤1073741824) (hp3:Y1.Sp.length≤1073741824) (hp4:Y1.We.length≤1073741824) (hp5:OkBd Y1) (Z23:0≤Y2) (Z24:Ya.length=Y1.Me.Pq.length) (Z1a:(decide (Y2 < (Y1.Me.Tr.length:Int)))=true):∀ (k:Nat) (Y5:Int) (Ye:(List Gv)) (Z4s:0≤Y5) (Z4t:Ye.length=Ya.length) (hk:((3:Int) - Y5).toNat < k),Lp prog 0 (sub (X0 f60) [1,1,1,1,1,0,1,0,0,1,1,0,0,1,1,1,1,1,0,0]) (Z6z Y1 Y2 Ya Y5 Ye) (Z3x Y1 Y2 Ya (ZX Y1 Y2 Ya k Y5 Ye)).1 (Z3x Y1 Y2 Ya (ZX Y1 Y2 Ya k Y5 Ye)).2:=by
 intro k
 induction k with
 | zero=>intro Y5 Ye Z4s Z4t hk;exact absurd hk (Nat.not_lt_zero _)
 | succ k ih =>
  intro Y5 Ye Z4s Z4t hk
  cases YA:(decide (Y5 < 3)) with
  | true =>
   have YC:=odt YA
   have Y19:(-9223372036854775808:Int)≤(Y5 + 1):=(by omega)
   have Y1a:(Y5 + 1)≤(9223372036854775807:Int):=(by omega)
   have Y16:(0:Int)≤(Int.tmod (Y5 + 1) 3):=(by have q:=Z27 hp5.e (by assumption) (odt Z1a) (by assumption) YC;omega)
   have Y17:(Int.tmod (Y5 + 1) 3) < ((Y1.Me.Tr.getD Y2.toNat default).length:Int):=(by have q:=Z27 hp5.e (by assumption) (odt Z1a) (by assumption) YC;omega)
   have Y1c:(-9223372036854775808:Int)≤(Y5 + 2):=(by omega)
   have Y1f:(Y5 + 2)≤(9223372036854775807:Int):=(by omega)
   have Y1b:(0:Int)≤(Int.tmod (Y5 + 2) 3):=(by have q:=Z27 hp5.e (by assumption) (odt Z1a) (by assumption) YC;omega)
   have Y1d:(Int.tmod (Y5 + 2) 3) < ((Y1.Me.Tr.getD Y2.toNat default).length:Int):=(by have q:=Z27 hp5.e (by assumption) (odt Z1a) (by assumption) YC;omega)
   have Y1m:(0:Int)≤Y5:=(by assumption)
   have Y1w:Y5 < ((Y1.Me.Tr.getD Y2.toNat default).length:Int):=(by have q:=Z27 hp5.e (by assumption) (odt Z1a) (by assumption) YC;omega)
   have Y1p:(0:Int)≤((Y1.Me.Tr.getD Y2.toNat default).getD (Int.tmod (Y5 + 2) 3).toNat default):=(by have q:=Z27 hp5.e (by assumption) (odt Z1a) (by assumption) YC;omega)
   have Y1q:((Y1.Me.Tr.getD Y2.toNat default).getD (Int.tmod (Y5 + 2) 3).toNat default) < (Y1.Me.Pq.length:Int):=(by have q:=Z27 hp5.e (by assumption) (odt Z1a) (by assumption) YC;omega)
   have Y1k:(0:Int)≤((Y1.Me.Tr.getD Y2.toNat default).getD (Int.tmod (Y5 + 1) 3).toNat default):=(by have q:=Z27 hp5.e (by assumption) (odt Z1a) (by assumption) YC;omega)
   have Y1l:((Y1.Me.Tr.getD Y2.toNat default).getD (Int.tmod (Y5 + 1) 3).toNat default) < (Y1.Me.Pq.length:Int):=(by have q:=Z27 hp5.e (by assumption) (odt Z1a) (by assumption) YC;omega)
   have Y1r:Ye.length≤1073741824:=(by omega)
   have Y1s:0≤((Y1.Me.Tr.getD Y2.toNat default).getD Y5.toNat default):=(by have q:=Z27 hp5.e (by assumption) (odt Z1a) (by assumption) YC;omega)
   have Y1t:((Y1.Me.Tr.getD Y2.toNat default).getD Y5.toNat default) < (Ye.length:Int):=(by have q:=Z27 hp5.e (by assumption) (odt Z1a) (by assumption) YC;omega)
   have e:ZX Y1 Y2 Ya (k + 1) Y5 Ye=(ZX Y1 Y2 Ya k (Y5 + 1) (Z1Q Y1 Y2 Y5 Ye)):=by simp only [ZX,YA,cond_true]
   rw [e]
   exact XG E0Ok Ze [] Z4r [0,1,2,3] (ih (Y5 + 1) (Z1Q Y1 Y2 Y5 Ye) (show 0≤(Y5 + 1) from (by omega)) (show (Z1Q Y1 Y2 Y5 Ye).length=Ya.length from (by simp_all<;>omega)) (by omega)) (sB YA<|sK [13,13]<|sI (Y5 + 1) Y19 Y1a<|sC (show (3:Int)≠0 from (by decide))<|sQ (Int.tmod (Y5 + 1) 3)<|sG (cI .i64) (Y1.Me.Tr.getD Y2.toNat default) (Int.tmod (Y5 + 1) 3) Y16 Y17<|sI (Y5 + 2) Y1c Y1f<|sC (show (3:Int)≠0 from (by decide))<|sQ (Int.tmod (Y5 + 2) 3)<|sG (cI .i64) (Y1.Me.Tr.getD Y2.toNat default) (Int.tmod (Y5 + 2) 3) Y1b Y1d<|sK [17,17]<|sG (cI .i64) (Y1.Me.Tr.getD Y2.toNat default) Y5 Y1m Y1w<|sG Gv.c Y1.Me.Pq ((Y1.Me.Tr.getD Y2.toNat default).getD (Int.tmod (Y5 + 2) 3).toNat default) Y1p Y1q<|sG Gv.c Y1.Me.Pq ((Y1.Me.Tr.getD Y2.toNat default).getD (Int.tmod (Y5 + 1) 3).toNat default) Y1k Y1l<|sF (Z2i (Y1.Me.Pq.getD ((Y1.Me.Tr.getD Y2.toNat default).getD (Int.tmod (Y5 + 2) 3).toNat default).toNat default) (Y1.Me.Pq.getD ((Y1.Me.Tr.getD Y2.toNat default).getD (Int.tmod (Y5 + 1) 3).toNat default).toNat default))<|sF (Z52 (Zd Y1.Me (Y1.Me.Tr.getD Y2.toNat default)) (Z1c Y1 Y2 Y5))<|sS (X7.frame (Z13 ((Y1.Me.Tr.getD Y2.toNat default).getD Y5.toNat default) (Zw (Zd Y1.Me (Y1.Me.Tr.getD Y2.toNat default)) (Z1c Y1 Y2 Y5)) (fop .quo .f32 (fneg .f32 (fop .mul .f32 1056964608 Y1.Film)) (Zg (Zd Y1.Me (Y1.Me.Tr.getD Y2.toNat default)))) Ye Y1r Y1s Y1t) [1,2] (R:=[.box 34 [.sl (Y1.Me.Pq.map Gv.c), .sl (Y1.Me.Tr.map (cL (cI .i64))), .sl (Y1.Sp.map Gs.c), .f .f32 Y1.Film, .f .f32 Y1.Bend, .sl (Y1.We.map (cF .f32)), .f .f32 Y1.Fall.X, .f .f32 Y1.Fall.Y, .f .f32 Y1.Fall.Z], .box 24 [.own 2], .vec 32 3 (Ye.map Gv.c) false, .box 32 [.f .f32 ((Zd Y1.Me (Y1.Me.Tr.getD Y2.toNat default)).X), .f .f32 ((Zd Y1.Me (Y1.Me.Tr.getD Y2.toNat default)).Y), .f .f32 ((Zd Y1.Me (Y1.Me.Tr.getD Y2.toNat default)).Z)]]) (args':=[.i .i64 ((Y1.Me.Tr.getD Y2.toNat default).getD Y5.toNat default), .agg [.f .f32 ((Zw (Zd Y1.Me (Y1.Me.Tr.getD Y2.toNat default)) (Z1c Y1 Y2 Y5)).X), .f .f32 ((Zw (Zd Y1.Me (Y1.Me.Tr.getD Y2.toNat default)) (Z1c Y1 Y2 Y5)).Y), .f .f32 ((Zw (Zd Y1.Me (Y1.Me.Tr.getD Y2.toNat default)) (Z1c Y1 Y2 Y5)).Z)], .f .f32 (fop .quo .f32 (fneg .f32 (fop .mul .f32 1056964608 Y1.Film)) (Zg (Zd Y1.Me (Y1.Me.Tr.getD Y2.toNat default)))), .ptr 1 0 0]) rfl rfl rfl rfl rfl rfl)<|sI (Y5 + 1) Y19 Y1a<|sN) (by kernel_rfl)
  | false =>
   have YC:=odf YA
   have e:ZX Y1 Y2 Ya (k + 1) Y5 Ye=Ye:=by simp only [ZX,YA,cond_false]
   rw [e]
   exact outR (e:=(.exit 4)) E0Ok Ze [] Z61 [0,1,3,2] (sB YA<|sN) (by kernel_rfl) (by intro h;cases h)
theorem Z62 (Y1:Gb) (Y2:Int) (Ya:(List Gv)):∀ (k:Nat) (Y5:Int) (Ye:(List Gv)) (hk:((3:Int) - Y5).toNat < k),(ZX Y1 Y2 Ya k Y5 Ye).length=Ye.length:=by
  intro k
  induction k with
  | zero=>intro Y5 Ye hk;exact absurd hk (Nat.not_lt_zero _)
  | succ k ih =>
    intro Y5 Ye hk
    cases YA:(decide (Y5 < 3)) with
    | true =>
      have e:ZX Y1 Y2 Ya (k + 1) Y5 Ye=(ZX Y1 Y2 Ya k (Y5 + 1) (Z1Q Y1 Y2 Y5 Ye)):=by simp only [ZX,YA,cond_true]
      rw [e,ih (Y5 + 1) (Z1Q Y1 Y2 Y5 Ye) (by simp_all<;>omega)]<;>simp
    | false =>
      have e:ZX Y1 Y2 Ya (k + 1) Y5 Ye=Ye:=by simp only [ZX,YA,cond_false]
      first | (rw [e];done) | (rw [e];rfl)
def Z1l (Y1:Gb) (Y2:Int) (Ya:(List Gv)):(List Gv):=(ZX Y1 Y2 Ya (((3:Int) - 0).toNat + 1) 0 Ya)
@[simp] theorem Z84 (Y1:Gb) (Y2:Int) (Ya:(List Gv)):(Z1l Y1 Y2 Ya).length=(Ya:(List Gv)).length:=Z62 Y1 Y2 Ya (((3:Int) - 0).toNat + 1) 0 Ya (by exact Nat.lt_succ_self _)
def Z1R (Y1:Gb) (Y2:Int) (Y5:Int) (Ye:(List Gv)):(List Gv):=(Zp ((Y1.Me.Tr.getD Y2.toNat default).getD Y5.toNat default) (Zw (Zd Y1.Me (Y1.Me.Tr.getD Y2.toNat default)) (Z1c Y1 Y2 Y5)) 0 Ye)
@[simp] theorem Z8q (Y1:Gb) (Y2:Int) (Y5:Int) (Ye:(List Gv)):(Z1R Y1 Y2 Y5 Ye).length=Ye.length:=by unfold Z1R;simp
def ZY (Y1:Gb) (Y2:Int) (Ya:(List Gv)):Nat→Int→(List Gv)→(List Gv)
  | 0,_,_=>default
  | k + 1,Y5,Ye=>(cond (decide (Y5 < 3))
    (ZY Y1 Y2 Ya k (Y5 + 1) (Z1R Y1 Y2 Y5 Ye))
    Ye)
def Z3y (Y1:Gb) (Y2:Int) (Ya:(List Gv)) (r:(List Gv)):Ex × St:=((.exit 4),⟨.agg [.sl (Y1.Me.Pq.map Gv.c), .sl (Y1.Me.Tr.map (cL (cI .i64))), .sl (Y1.Sp.map Gs.c), .f .f32 Y1.Film, .f .f32 Y1.Bend, .sl (Y1.We.map (cF .f32)), .f .f32 Y1.Fall.X, .f .f32 Y1.Fall.Y, .f .f32 Y1.Fall.Z] :: .ptr 0 0 0 :: .nils :: .ptr 1 0 0 :: .fn 102 [.ptr 1 0 0] :: an 4 (.sl (Y1.Me.Pq.map Gv.c) :: .any :: .sl ((Y1.Me.Tr.getD Y2.toNat default).map (cI .i64)) :: .ptr 2 0 0 :: .f .f32 0 :: .f .f32 (Zg (Zd Y1.Me (Y1.Me.Tr.getD Y2.toNat default))) :: an 8 (.ptr 0 0 0 :: .ptr 0 0 0 :: .sl (Y1.Me.Pq.map Gv.c) :: .i .i64 (Y1.Me.Pq.length:Int) :: .own 3 :: .fn 102 [.ptr 1 0 0] :: .ptr 0 0 2 :: .sl (Y1.Sp.map Gs.c) :: an 25 (.ptr 0 0 0 :: .ptr 0 0 0 :: .sl (Y1.Me.Pq.map Gv.c) :: .ptr 0 0 0 :: .ptr 0 0 1 :: .sl (Y1.Me.Tr.map (cL (cI .i64))) :: .i .i64 (Y1.Me.Tr.length:Int) :: .i .i64 Y2 :: .b (decide (Y2 < (Y1.Me.Tr.length:Int))) :: .ref [.sl ((Y1.Me.Tr.getD Y2.toNat default).map (cI .i64))] 0 :: .sl ((Y1.Me.Tr.getD Y2.toNat default).map (cI .i64)) :: .ptr 0 0 0 :: .agg [.sl (Y1.Me.Pq.map Gv.c), .sl (Y1.Me.Tr.map (cL (cI .i64)))] :: .sl ((Y1.Me.Tr.getD Y2.toNat default).map (cI .i64)) :: .agg [.f .f32 ((Zd Y1.Me (Y1.Me.Tr.getD Y2.toNat default)).X), .f .f32 ((Zd Y1.Me (Y1.Me.Tr.getD Y2.toNat default)).Y), .f .f32 ((Zd Y1.Me (Y1.Me.Tr.getD Y2.toNat default)).Z)] :: .agg [.f .f32 ((Zd Y1.Me (Y1.Me.Tr.getD Y2.toNat default)).X), .f .f32 ((Zd Y1.Me (Y1.Me.Tr.getD Y2.toNat default)).Y), .f .f32 ((Zd Y1.Me (Y1.Me.Tr.getD Y2.toNat default)).Z)] :: .f .f32 (Zg (Zd Y1.Me (Y1.Me.Tr.getD Y2.toNat default))) :: .f .f32 (Zg (Zd Y1.Me (Y1.Me.Tr.getD Y2.toNat default))) :: .b (fcmp .gtr .f32 (Zg (Zd Y1.Me (Y1.Me.Tr.getD Y2.toNat default))) 0) :: an 104 []))),[.box 34 [.sl (Y1.Me.Pq.map Gv.c), .sl (Y1.Me.Tr.map (cL (cI .i64))), .sl (Y1.Sp.map Gs.c), .f .f32 Y1.Film, .f .f32 Y1.Bend, .sl (Y1.We.map (cF .f32)), .f .f32 Y1.Fall.X, .f .f32 Y1.Fall.Y, .f .f32 Y1.Fall.Z], .box 24 [.own 3], .box 32 [.f .f32 ((Zd Y1.Me (Y1.Me.Tr.getD Y2.toNat default)).X), .f .f32 ((Zd Y1.Me (Y1.Me.Tr.getD Y2.toNat default)).Y), .f .f32 ((Zd Y1.Me (Y1.Me.Tr.getD Y2.toNat default)).Z)], .vec 32 3 (r.map Gv.c) false]⟩)
def Z6B (Y1:Gb) (Y2:Int) (Ya:(List Gv)) (Y5:Int) (Ye:(List Gv)):St:=⟨.agg [.sl (Y1.Me.Pq.map Gv.c), .sl (Y1.Me.Tr.map (cL (cI .i64))), .sl (Y1.Sp.map Gs.c), .f .f32 Y1.Film, .f .f32 Y1.Bend, .sl (Y1.We.map (cF .f32)), .f .f32 Y1.Fall.X, .f .f32 Y1.Fall.Y, .f .f32 Y1.Fall.Z] :: .ptr 0 0 0 :: .nils :: .ptr 1 0 0 :: .fn 102 [.ptr 1 0 0] :: an 4 (.sl (Y1.Me.Pq.map Gv.c) :: .any :: .sl ((Y1.Me.Tr.getD Y2.toNat default).map (cI .i64)) :: .ptr 3 0 0 :: .f .f32 0 :: .f .f32 (Zg (Zd Y1.Me (Y1.Me.Tr.getD Y2.toNat default))) :: an 8 (.ptr 0 0 0 :: .ptr 0 0 0 :: .sl (Y1.Me.Pq.map Gv.c) :: .i .i64 (Y1.Me.Pq.length:Int) :: .own 2 :: .fn 102 [.ptr 1 0 0] :: .ptr 0 0 2 :: .sl (Y1.Sp.map Gs.c) :: an 25 (.ptr 0 0 0 :: .ptr 0 0 0 :: .sl (Y1.Me.Pq.map Gv.c) :: .ptr 0 0 0 :: .ptr 0 0 1 :: .sl (Y1.Me.Tr.map (cL (cI .i64))) :: .i .i64 (Y1.Me.Tr.length:Int) :: .i .i64 Y2 :: .b (decide (Y2 < (Y1.Me.Tr.length:Int))) :: .ref [.sl ((Y1.Me.Tr.getD Y2.toNat default).map (cI .i64))] 0 :: .sl ((Y1.Me.Tr.getD Y2.toNat default).map (cI .i64)) :: .ptr 0 0 0 :: .agg [.sl (Y1.Me.Pq.map Gv.c), .sl (Y1.Me.Tr.map (cL (cI .i64)))] :: .sl ((Y1.Me.Tr.getD Y2.toNat default).map (cI .i64)) :: .agg [.f .f32 ((Zd Y1.Me (Y1.Me.Tr.getD Y2.toNat default)).X), .f .f32 ((Zd Y1.Me (Y1.Me.Tr.getD Y2.toNat default)).Y), .f .f32 ((Zd Y1.Me (Y1.Me.Tr.getD Y2.toNat default)).Z)] :: .agg [.f .f32 ((Zd Y1.Me (Y1.Me.Tr.getD Y2.toNat default)).X), .f .f32 ((Zd Y1.Me (Y1.Me.Tr.getD Y2.toNat default)).Y), .f .f32 ((Zd Y1.Me (Y1.Me.Tr.getD Y2.toNat default)).Z)] :: .f .f32 (Zg (Zd Y1.Me (Y1.Me.Tr.getD Y2.toNat default))) :: .f .f32 (Zg (Zd Y1.Me (Y1.Me.Tr.getD Y2.toNat default))) :: .b (fcmp .gtr .f32 (Zg (Zd Y1.Me (Y1.Me.Tr.getD Y2.toNat default))) 0) :: an 6 (.i .i64 Y5 :: an 97 [])))),[.box 34 [.sl (Y1.Me.Pq.map Gv.c), .sl (Y1.Me.Tr.map (cL (cI .i64))), .sl (Y1.Sp.map Gs.c), .f .f32 Y1.Film, .f .f32 Y1.Bend, .sl (Y1.We.map (cF .f32)), .f .f32 Y1.Fall.X, .f .f32 Y1.Fall.Y, .f .f32 Y1.Fall.Z], .box 24 [.own 2], .vec 32 3 (Ye.map Gv.c) false, .box 32 [.f .f32 ((Zd Y1.Me (Y1.Me.Tr.getD Y2.toNat default)).X), .f .f32 ((Zd Y1.Me (Y1.Me.Tr.getD Y2.toNat default)).Y), .f .f32 ((Zd Y1.Me (Y1.Me.Tr.getD Y2.toNat default)).Z)]]⟩
def Z4u:List Bool:=(mR false [0,5,4,1,1,4,8,8,25,19,6,1,97])
def Z63:List Bool:=(mR false [0,5,4,1,1,4,8,8,25,19,104])
theorem Z6C (Y1:Gb) (Y2:Int) (Ya:(List Gv)) (hp0:Y1.Me.Pq.length≤1073741824) (hp1:Y1.Me.Tr.length≤1073741824) (hp2:∀ t∈Y1.Me.Tr,t.length≤1073741824) (hp3:Y1.Sp.length≤1073741824) (hp4:Y1.We.length≤1073741824) (hp5:OkBd Y1) (Z23:0≤Y2) (Z24:Ya.length=Y1.Me.Pq.length) (Z1b:(decide (Y2 < (Y1.Me.Tr.length:Int)))=true):∀ (k:Nat) (Y5:Int) (Ye:(List Gv)) (Z4v:0≤Y5) (Z4w:Ye.length=Ya.length) (hk:((3:Int) - Y5).toNat < k),Lp prog 0 (sub (X0 f60) [1,1,1,1,1,0,1,0,0,1,1,0,0,1,1,1,1,1,0,0]) (Z6B Y1 Y2 Ya Y5 Ye) (Z3y Y1 Y2 Ya (ZY Y1 Y2 Ya k Y5 Ye)).1 (Z3y Y1 Y2 Ya (ZY Y1 Y2 Ya k Y5 Ye)).2:=by
 intro k
 induction k with
 | zero=>intro Y5 Ye Z4v Z4w hk;exact absurd hk (Nat.not_lt_zero _)
 | succ k ih =>
  intro Y5 Ye Z4v Z4w hk
  cases YA:(decide (Y5 < 3)) with
  | true =>
   have YC:=odt YA
   have Y19:(-9223372036854775808:Int)≤(Y5 + 1):=(by omega)
   have Y1a:(Y5 + 1)≤(9223372036854775807:Int):=(by omega)
   have Y16:(0:Int)≤(Int.tmod (Y5 + 1) 3):=(by have q:=Z27 hp5.e (by assumption) (odt Z1b) (by assumption) YC;omega)
   have Y17:(Int.tmod (Y5 + 1) 3) < ((Y1.Me.Tr.getD Y2.toNat default).length:Int):=(by have q:=Z27 hp5.e (by assumption) (odt Z1b) (by assumption) YC;omega)
   have Y1c:(-9223372036854775808:Int)≤(Y5 + 2):=(by omega)
   have Y1f:(Y5 + 2)≤(9223372036854775807:Int):=(by omega)
   have Y1b:(0:Int)≤(Int.tmod (Y5 + 2) 3):=(by have q:=Z27 hp5.e (by assumption) (odt Z1b) (by assumption) YC;omega)
   have Y1d:(Int.tmod (Y5 + 2) 3) < ((Y1.Me.Tr.getD Y2.toNat default).length:Int):=(by have q:=Z27 hp5.e (by assumption) (odt Z1b) (by assumption) YC;omega)
   have Y1m:(0:Int)≤Y5:=(by assumption)
   have Y1w:Y5 < ((Y1.Me.Tr.getD Y2.toNat default).length:Int):=(by have q:=Z27 hp5.e (by assumption) (odt Z1b) (by assumption) YC;omega)
   have Y1p:(0:Int)≤((Y1.Me.Tr.getD Y2.toNat default).getD (Int.tmod (Y5 + 2) 3).toNat default):=(by have q:=Z27 hp5.e (by assumption) (odt Z1b) (by assumption) YC;omega)
   have Y1q:((Y1.Me.Tr.getD Y2.toNat default).getD (Int.tmod (Y5 + 2) 3).toNat default) < (Y1.Me.Pq.length:Int):=(by have q:=Z27 hp5.e (by assumption) (odt Z1b) (by assumption) YC;omega)
   have Y1k:(0:Int)≤((Y1.Me.Tr.getD Y2.toNat default).getD (Int.tmod (Y5 + 1) 3).toNat default):=(by have q:=Z27 hp5.e (by assumption) (odt Z1b) (by assumption) YC;omega)
   have Y1l:((Y1.Me.Tr.getD Y2.toNat default).getD (Int.tmod (Y5 + 1) 3).toNat default) < (Y1.Me.Pq.length:Int):=(by have q:=Z27 hp5.e (by assumption) (odt Z1b) (by assumption) YC;omega)
   have Y1r:Ye.length≤1073741824:=(by omega)
   have Y1s:0≤((Y1.Me.Tr.getD Y2.toNat default).getD Y5.toNat default):=(by have q:=Z27 hp5.e (by assumption) (odt Z1b) (by assumption) YC;omega)
   have Y1t:((Y1.Me.Tr.getD Y2.toNat default).getD Y5.toNat default) < (Ye.length:Int):=(by have q:=Z27 hp5.e (by assumption) (odt Z1b) (by assumption) YC;omega)
   have e:ZY Y1 Y2 Ya (k + 1) Y5 Ye=(ZY Y1 Y2 Ya k (Y5 + 1) (Z1R Y1 Y2 Y5 Ye)):=by simp only [ZY,YA,cond_true]
   rw [e]
   exact XG E0Ok Ze [] Z4u [0,1,2,3] (ih (Y5 + 1) (Z1R Y1 Y2 Y5 Ye) (show 0≤(Y5 + 1) from (by omega)) (show (Z1R Y1 Y2 Y5 Ye).length=Ya.length from (by simp_all<;>omega)) (by omega)) (sB YA<|sK [13,13]<|sI (Y5 + 1) Y19 Y1a<|sC (show (3:Int)≠0 from (by decide))<|sQ (Int.tmod (Y5 + 1) 3)<|sG (cI .i64) (Y1.Me.Tr.getD Y2.toNat default) (Int.tmod (Y5 + 1) 3) Y16 Y17<|sI (Y5 + 2) Y1c Y1f<|sC (show (3:Int)≠0 from (by decide))<|sQ (Int.tmod (Y5 + 2) 3)<|sG (cI .i64) (Y1.Me.Tr.getD Y2.toNat default) (Int.tmod (Y5 + 2) 3) Y1b Y1d<|sK [17,17]<|sG (cI .i64) (Y1.Me.Tr.getD Y2.toNat default) Y5 Y1m Y1w<|sG Gv.c Y1.Me.Pq ((Y1.Me.Tr.getD Y2.toNat default).getD (Int.tmod (Y5 + 2) 3).toNat default) Y1p Y1q<|sG Gv.c Y1.Me.Pq ((Y1.Me.Tr.getD Y2.toNat default).getD (Int.tmod (Y5 + 1) 3).toNat default) Y1k Y1l<|sF (Z2i (Y1.Me.Pq.getD ((Y1.Me.Tr.getD Y2.toNat default).getD (Int.tmod (Y5 + 2) 3).toNat default).toNat default) (Y1.Me.Pq.getD ((Y1.Me.Tr.getD Y2.toNat default).getD (Int.tmod (Y5 + 1) 3).toNat default).toNat default))<|sF (Z52 (Zd Y1.Me (Y1.Me.Tr.getD Y2.toNat default)) (Z1c Y1 Y2 Y5))<|sS (X7.frame (Z13 ((Y1.Me.Tr.getD Y2.toNat default).getD Y5.toNat default) (Zw (Zd Y1.Me (Y1.Me.Tr.getD Y2.toNat default)) (Z1c Y1 Y2 Y5)) 0 Ye Y1r Y1s Y1t) [1,2] (R:=[.box 34 [.sl (Y1.Me.Pq.map Gv.c), .sl (Y1.Me.Tr.map (cL (cI .i64))), .sl (Y1.Sp.map Gs.c), .f .f32 Y1.Film, .f .f32 Y1.Bend, .sl (Y1.We.map (cF .f32)), .f .f32 Y1.Fall.X, .f .f32 Y1.Fall.Y, .f .f32 Y1.Fall.Z], .box 24 [.own 2], .vec 32 3 (Ye.map Gv.c) false, .box 32 [.f .f32 ((Zd Y1.Me (Y1.Me.Tr.getD Y2.toNat default)).X), .f .f32 ((Zd Y1.Me (Y1.Me.Tr.getD Y2.toNat default)).Y), .f .f32 ((Zd Y1.Me (Y1.Me.Tr.getD Y2.toNat default)).Z)]]) (args':=[.i .i64 ((Y1.Me.Tr.getD Y2.toNat default).getD Y5.toNat default), .agg [.f .f32 ((Zw (Zd Y1.Me (Y1.Me.Tr.getD Y2.toNat default)) (Z1c Y1 Y2 Y5)).X), .f .f32 ((Zw (Zd Y1.Me (Y1.Me.Tr.getD Y2.toNat default)) (Z1c Y1 Y2 Y5)).Y), .f .f32 ((Zw (Zd Y1.Me (Y1.Me.Tr.getD Y2.toNat default)) (Z1c Y1 Y2 Y5)).Z)], .f .f32 0, .ptr 1 0 0]) rfl rfl rfl rfl rfl rfl)<|sI (Y5 + 1) Y19 Y1a<|sN) (by kernel_rfl)
  | false =>
   have YC:=odf YA
   have e:ZY Y1 Y2 Ya (k + 1) Y5 Ye=Ye:=by simp only [ZY,YA,cond_false]
   rw [e]
   exact outR (e:=(.exit 4)) E0Ok Ze [] Z63 [0,1,3,2] (sB YA<|sN) (by kernel_rfl) (by intro h;cases h)
theorem Z64 (Y1:Gb) (Y2:Int) (Ya:(List Gv)):∀ (k:Nat) (Y5:Int) (Ye:(List Gv)) (hk:((3:Int) - Y5).toNat < k),(ZY Y1 Y2 Ya k Y5 Ye).length=Ye.length:=by
  intro k
  induction k with
  | zero=>intro Y5 Ye hk;exact absurd hk (Nat.not_lt_zero _)
  | succ k ih =>
    intro Y5 Ye hk
    cases YA:(decide (Y5 < 3)) with
    | true =>
      have e:ZY Y1 Y2 Ya (k + 1) Y5 Ye=(ZY Y1 Y2 Ya k (Y5 + 1) (Z1R Y1 Y2 Y5 Ye)):=by simp only [ZY,YA,cond_true]
      rw [e,ih (Y5 + 1) (Z1R Y1 Y2 Y5 Ye) (by simp_all<;>omega)]<;>simp
    | false =>
      have e:ZY Y1 Y2 Ya (k + 1) Y5 Ye=Ye:=by simp only [ZY,YA,cond_false]
      first | (rw [e];done) | (rw [e];rfl)
def Z1m (Y1:Gb) (Y2:Int) (Ya:(List Gv)):(List Gv):=(ZY Y1 Y2 Ya (((3:Int) - 0).toNat + 1) 0 Ya)
@[simp] theorem Z85 (Y1:Gb) (Y2:Int) (Ya:(List Gv)):(Z1m Y1 Y2 Ya).length=(Ya:(List Gv)).length:=Z64 Y1 Y2 Ya (((3:Int) - 0).toNat + 1) 0 Ya (by exact Nat.lt_succ_self _)
def Zr (Y1:Gb):Nat→Int→(List Gv)→(List Gv)
  | 0,_,_=>default
  | k + 1,Y2,Ya=>(cond (decide (Y2 < (Y1.Me.Tr.length:Int)))
    (cond (fcmp .gtr .f32 (Zg (Zd Y1.Me (Y1.Me.Tr.getD Y2.toNat default))) 0)
      (Zr Y1 k (Y2 + 1) (Z1l Y1 Y2 Ya))
      (Zr Y1 k (Y2 + 1) (Z1m Y1 Y2 Ya)))
    Ya)
def Z3z (Y1:Gb) (r:(List Gv)):Ex × St:=((.exit 2),⟨.agg [.sl (Y1.Me.Pq.map Gv.c), .sl (Y1.Me.Tr.map (cL (cI .i64))), .sl (Y1.Sp.map Gs.c), .f .f32 Y1.Film, .f .f32 Y1.Bend, .sl (Y1.We.map (cF .f32)), .f .f32 Y1.Fall.X, .f .f32 Y1.Fall.Y, .f .f32 Y1.Fall.Z] :: .ptr 0 0 0 :: .nils :: .ptr 1 0 0 :: .fn 102 [.ptr 1 0 0] :: an 18 (.ptr 0 0 0 :: .ptr 0 0 0 :: .sl (Y1.Me.Pq.map Gv.c) :: .i .i64 (Y1.Me.Pq.length:Int) :: .own 2 :: .fn 102 [.ptr 1 0 0] :: .ptr 0 0 2 :: .sl (Y1.Sp.map Gs.c) :: an 25 (.ptr 0 0 0 :: .ptr 0 0 0 :: .sl (Y1.Me.Pq.map Gv.c) :: .ptr 0 0 0 :: .ptr 0 0 1 :: .sl (Y1.Me.Tr.map (cL (cI .i64))) :: an 117 [])),[.box 34 [.sl (Y1.Me.Pq.map Gv.c), .sl (Y1.Me.Tr.map (cL (cI .i64))), .sl (Y1.Sp.map Gs.c), .f .f32 Y1.Film, .f .f32 Y1.Bend, .sl (Y1.We.map (cF .f32)), .f .f32 Y1.Fall.X, .f .f32 Y1.Fall.Y, .f .f32 Y1.Fall.Z], .box 24 [.own 2], .vec 32 3 (r.map Gv.c) false]⟩)
end Go.Ab
