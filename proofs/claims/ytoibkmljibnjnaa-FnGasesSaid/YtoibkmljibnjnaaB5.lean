/- The functions of this seat as plain Lean, and that the program's are these. Printed by a program of the prover's own. -/
import Derived.Test.YtoibkmljibnjnaaB4
set_option linter.unusedVariables false
set_option linter.unusedSimpArgs false
set_option maxRecDepth 100000
namespace Go.Ab
open Go.RowKit Go.Proofs.Try
def Zt (Y1:Gm) (Y0:Int) (Y7:(List (Gedge × List Int))) (Y9:(List Gedge)):(List (Gedge × List Int)) × (List Gedge):=(Zc Y1 Y0 Y7 Y9 (((3:Int) - 0).toNat + 1) 0 Y7 Y9)
theorem Z6x (m:Gm) (i:Int) (b0:List (Gedge × List Int)) (l0:List Gedge) (h0:0≤i):∀ (k:Nat) (x:Int) (b:List (Gedge × List Int)) (l:List Gedge),0≤x→(3 - x).toNat < k→x≤3→(l.length:Int)≤3 * i + x→(∀ y∈b,(y.2.length:Int)≤3 * i + x)→((Zc m i b0 l0 k x b l).2.length:Int)≤3 * (i + 1)∧∀ y∈(Zc m i b0 l0 k x b l).1,(y.2.length:Int)≤3 * (i + 1):=by
  intro k
  induction k with
  | zero=>intro x b l _ hk;exact absurd hk (Nat.not_lt_zero _)
  | succ k ih =>
    intro x b l hx hk h3 hl hb
    rw [Zc]
    cases hc:decide (x < 3) with
    | false=>rw [cond_false];exact ⟨by simp only;omega,fun y hy=>by have:=hb y hy;omega⟩
    | true =>
      have hc':=odt hc
      rw [cond_true]
      cases mhas b (Z2 m i x) with
      | true =>
        rw [cond_true]
        cases (((b.getD (midx b (Z2 m i x)) default).2.length:Int) == 0) with
        | true=>rw [cond_true];exact ih _ _ _ (by omega) (by omega) (by omega) (by simp only [List.length_append,List.length_cons,List.length_nil];omega) (X3j hb (by omega) (by omega))
        | false=>rw [cond_false];exact ih _ _ _ (by omega) (by omega) (by omega) (by omega) (X3j hb (by omega) (by omega))
      | false=>rw [cond_false];exact ih _ _ _ (by omega) (by omega) (by omega) (by simp only [List.length_append,List.length_cons,List.length_nil];omega) (X6F hb (by omega) (by omega))
theorem Z67 (m:Gm) (i:Int) (b:List (Gedge × List Int)) (l:List Gedge) (h0:0≤i) (hl:(l.length:Int)≤3 * i) (hb:∀ y∈b,(y.2.length:Int)≤3 * i) :
    ((Zt m i b l).2.length:Int)≤3 * (i + 1)∧∀ y∈(Zt m i b l).1,(y.2.length:Int)≤3 * (i + 1) :=
  Z6x m i b l h0 _ 0 b l (Int.le_refl 0) (by omega) (by omega) (by omega) (fun y hy=>by have:=hb y hy;omega)
def Zx (Y1:Gm):Nat→Int→(List (Gedge × List Int))→(List Gedge)→(List (Gedge × List Int)) × (List Gedge)
  | 0,_,_,_=>default
  | k + 1,Y0,Y7,Y9=>(cond (decide (Y0 < (Y1.Tr.length:Int)))
    (Zx Y1 k (Y0 + 1) ((Zt Y1 Y0 Y7 Y9).1) ((Zt Y1 Y0 Y7 Y9).2))
    (Y7,Y9))
def Z26 (Y1:Gm) (r:(List (Gedge × List Int)) × (List Gedge)):Ex × St:=((.exit 0),⟨.agg [.sl (Y1.Pq.map Gv.c), .sl (Y1.Tr.map (cL (cI .i64)))] :: .ptr 0 0 0 :: .any :: .nils :: .mp 1 :: .own 2 :: an 4 (.mp 1 :: .any :: .ptr 0 0 1 :: .sl (Y1.Tr.map (cL (cI .i64))) :: an 43 []),[.box 27 [.sl (Y1.Pq.map Gv.c), .sl (Y1.Tr.map (cL (cI .i64)))], .mapN 2 (mapC Gedge.pr (cI .i64) r.1) none, .vec 113 2 (r.2.map Gedge.cells) false]⟩)
def Z2B (Y1:Gm) (Y0:Int) (Y7:(List (Gedge × List Int))) (Y9:(List Gedge)):St:=⟨.agg [.sl (Y1.Pq.map Gv.c), .sl (Y1.Tr.map (cL (cI .i64)))] :: .ptr 0 0 0 :: .any :: .nils :: .mp 1 :: .own 2 :: an 4 (.mp 1 :: .any :: .ptr 0 0 1 :: .sl (Y1.Tr.map (cL (cI .i64))) :: .i .i64 (Y1.Tr.length:Int) :: .i .i64 Y0 :: an 41 []),[.box 27 [.sl (Y1.Pq.map Gv.c), .sl (Y1.Tr.map (cL (cI .i64)))], .mapN 2 (mapC Gedge.pr (cI .i64) Y7) none, .vec 113 2 (Y9.map Gedge.cells) false]⟩
theorem Z45 (Y1:Gm) (hp0:Y1.Pq.length≤1073741824) (hp1:Y1.Tr.length≤1073741824) (hp2:∀ t∈Y1.Tr,t.length≤1073741824) (hp3:OkE Y1.Pq.length Y1.Tr):∀ (k:Nat) (Y0:Int) (Y7:(List (Gedge × List Int))) (Y9:(List Gedge)) (Zs:0≤Y0) (Z1C:(Y9.length:Int)≤3 * Y0) (Z1p:∀ y∈Y7,(y.2.length:Int)≤3 * Y0) (hk:((Y1.Tr.length:Int) - Y0).toNat < k),Lp prog 0 (sub (X0 f82) [1,1,0,1,0,0]) (Z2B Y1 Y0 Y7 Y9) (Z26 Y1 (Zx Y1 k Y0 Y7 Y9)).1 (Z26 Y1 (Zx Y1 k Y0 Y7 Y9)).2:=by
 intro k
 induction k with
 | zero=>intro Y0 Y7 Y9 Zs Z1C Z1p hk;exact absurd hk (Nat.not_lt_zero _)
 | succ k ih =>
  intro Y0 Y7 Y9 Zs Z1C Z1p hk
  cases Ym:(decide (Y0 < (Y1.Tr.length:Int))) with
  | true =>
   have YF:=odt Ym
   have YR:(0:Int)≤Y0:=(by assumption)
   have YL:Y0 < (Y1.Tr.length:Int):=(by assumption)
   have YZ:(-9223372036854775808:Int)≤(Y0 + 1):=(by omega)
   have YU:(Y0 + 1)≤(9223372036854775807:Int):=(by omega)
   have e:Zx Y1 (k + 1) Y0 Y7 Y9=(Zx Y1 k (Y0 + 1) ((Zt Y1 Y0 Y7 Y9).1) ((Zt Y1 Y0 Y7 Y9).2)):=by simp only [Zx,Ym,cond_true]
   rw [e]
   exact Xs E0Ok Zb [] (mR false [0,2,1,3,4,1,1,4,41]) [0,1,2] (ih (Y0 + 1) ((Zt Y1 Y0 Y7 Y9).1) ((Zt Y1 Y0 Y7 Y9).2) (show 0≤(Y0 + 1) from (by omega)) (show (((Zt Y1 Y0 Y7 Y9).2).length:Int)≤3 * (Y0 + 1) from (by exact (Z67 _ _ _ _ Zs (by assumption) (by assumption)).1)) (show ∀ y∈((Zt Y1 Y0 Y7 Y9).1),(y.2.length:Int)≤3 * (Y0 + 1) from (by exact (Z67 _ _ _ _ Zs (by assumption) (by assumption)).2)) (by omega)) (sB Ym<|sG (cL (cI .i64)) Y1.Tr Y0 YR YL<|sL (mR false [0,2,1,5,2,1,1,9,36]) 3 (Xb (Z25 Y1 Y0 Y7 Y9) (x:=(Zt Y1 Y0 Y7 Y9)) (Z44 Y1 Y0 Y7 Y9 hp0 hp1 hp2 hp3 Zs Z1C Z1p Ym (((3:Int) - 0).toNat + 1) 0 Y7 Y9 (show 0≤0 from (by omega)) (show (Y9.length:Int)≤(Y9.length:Int) + 0 from (by omega)) (show ∀ y∈Y7,(y.2.length:Int)≤3 * Y0 + 0 from (by intro y hy;have q:=Z1p y hy;omega)) (Nat.lt_succ_self _)) rfl)<|sI (Y0 + 1) YZ YU<|sN) (by kernel_rfl)
  | false =>
   have YF:=odf Ym
   have e:Zx Y1 (k + 1) Y0 Y7 Y9=(Y7,Y9):=by simp only [Zx,Ym,cond_false]
   rw [e]
   exact outR (e:=(.exit 0)) E0Ok Zb [] (mR false [0,2,1,3,4,1,1,2,43]) [0,1,2] (sB Ym<|sN) (by kernel_rfl) (by intro h;cases h)
def Zk (Y1:Gm):(List (Gedge × List Int)) × (List Gedge):=(Zx Y1 (((Y1.Tr.length:Int) - 0).toNat + 1) 0 ([]:(List (Gedge × List Int))) ([]:List Gedge))
theorem Z6M (m:Gm) (k:Nat) (i:Int) (b:List (Gedge × List Int)) (l:List Gedge) (h0:0≤i):Zx m (k + 1) i b l=cond (decide (i < (m.Tr.length:Int))) (Zx m k (i + 1) (stT (b,l) (m.Tr.getD i.toNat default) i).1 (stT (b,l) (m.Tr.getD i.toNat default) i).2) (b,l):=by
  have st:∀ (x:Int) (k:Nat) (b:List (Gedge × List Int)) (l:List Gedge),x < 3→Zc m i b l (k + 1) x b l=Zc m i b l (k + 1) x b l:=fun _ _ _ _ _=>rfl
  have one:∀ (b0:List (Gedge × List Int)) (l0:List Gedge) (k:Nat) (x:Int) (s:List (Gedge × List Int) × List Gedge),x < 3→Zc m i b0 l0 (k + 1) x s.1 s.2=Zc m i b0 l0 k (x + 1) (stE s (Z2 m i x) i).1 (stE s (Z2 m i x) i).2:=by
    intro b0 l0 k x s hx
    rw [Zc,decide_eq_true hx,cond_true]
    unfold stE
    cases mhas s.1 (Z2 m i x) with
    | true =>
      rw [cond_true,cond_true]
      cases (((s.1.getD (midx s.1 (Z2 m i x)) default).2.length:Int) == 0)<;>rfl
    | false=>rfl
  have tri:Zt m i b l=stT (b,l) (m.Tr.getD i.toNat default) i:=by
    unfold Zt
    show Zc m i b l 4 0 (b,l).1 (b,l).2=_
    rw [one b l 3 0 (b,l) (by omega),one b l 2 (0 + 1) _ (by omega),one b l 1 (0 + 1 + 1) _ (by omega),Zc]
    show cond (decide ((3:Int) < 3)) _ _=_
    rw [decide_eq_false (by omega),cond_false]
    unfold Z2 stT
    simp only [Z5L]
    rfl
  rw [Zx,tri]
theorem Z5C (m:Gm) (ok:OkE m.Pq.length m.Tr):ETab m.Tr m.Tr.length (Zk m):=by
  unfold Zk
  exact ETab.loop ok (Z6M m) _ 0 ([],[]) (Nat.zero_le _) (ETab.nil _) (by omega)
theorem Z6y (m:Gm) (ok:OkE m.Pq.length m.Tr):(Zk m).2.length≤4096:=by
  have h:=congrArg List.length ((Z5C m ok).sorted ok)
  rw [X6G] at h
  rw [h];exact X6I ok
end Go.Ab
namespace Go.Proofs
open Go.Shelf
def Try.laysF0n6_ren:Go.Shelf.Ren:=⟨fun | 6=>119 | 15=>131 | 14=>130 | 28=>142 | 29=>143 | 20=>134 | 21=>135 | 22=>136 | 23=>137 | 24=>138 | 25=>139 | 26=>140 | 27=>141 | 46=>145 | 47=>146 | 48=>147 | 49=>148 | 50=>149 | 57=>151 | n=>n,fun | 22=>108 | 24=>113 | 25=>148 | 3=>3 | 39=>104 | 0=>0 | 53=>165 | 55=>132 | 4=>4 | 46=>158 | 45=>157 | 50=>162 | 5=>5 | 9=>9 | 66=>168 | 70=>172 | 76=>175 | 77=>176 | n=>n,fun | n=>n⟩
theorem Try.laysF0n6:Go.Proofs.SlLaysF0.n6 Try.prog Try.laysF0n6_ren:={
  mixed:=by kernel_rfl
  f6:=⟨Try.f119.name,by decide,Try.func119.trans (congrArg some (by kernel_rfl))⟩
  f14:=⟨Try.f130.name,by decide,Try.func130.trans (congrArg some (by kernel_rfl))⟩
  f15:=Try.func131.trans (congrArg some (by kernel_rfl))
  f20:=⟨Try.f134.name,by decide,Try.func134.trans (congrArg some (by kernel_rfl))⟩
  f21:=⟨Try.f135.name,by decide,Try.func135.trans (congrArg some (by kernel_rfl))⟩
  f22:=⟨Try.f136.name,by decide,Try.func136.trans (congrArg some (by kernel_rfl))⟩
  f23:=⟨Try.f137.name,by decide,Try.func137.trans (congrArg some (by kernel_rfl))⟩
  f24:=⟨Try.f138.name,by decide,Try.func138.trans (congrArg some (by kernel_rfl))⟩
  f25:=⟨Try.f139.name,by decide,Try.func139.trans (congrArg some (by kernel_rfl))⟩
  f26:=⟨Try.f140.name,by decide,Try.func140.trans (congrArg some (by kernel_rfl))⟩
  f27:=⟨Try.f141.name,by decide,Try.func141.trans (congrArg some (by kernel_rfl))⟩
  f28:=Try.func142.trans (congrArg some (by kernel_rfl))
  f29:=Try.func143.trans (congrArg some (by kernel_rfl))
  f46:=⟨Try.f145.name,by decide,Try.func145.trans (congrArg some (by kernel_rfl))⟩
  f47:=Try.func146.trans (congrArg some (by kernel_rfl))
  f48:=Try.func147.trans (congrArg some (by kernel_rfl))
  f49:=⟨Try.f148.name,by decide,Try.func148.trans (congrArg some (by kernel_rfl))⟩
  f50:=⟨Try.f149.name,by decide,Try.func149.trans (congrArg some (by kernel_rfl))⟩
  f57:=⟨Try.f151.name,by decide,Try.func151.trans (congrArg some (by kernel_rfl))⟩
  t0:=Try.underlying0
  a0:=Try.isAgg0
  z0:=Try.sizeOf0
  v0:=Try.zeroValue0
  t3:=Try.underlying3
  a3:=Try.isAgg3
  z3:=Try.sizeOf3
  v3:=Try.zeroValue3
  t4:=Try.underlying4
  a4:=Try.isAgg4
  z4:=Try.sizeOf4
  v4:=Try.zeroValue4
  t5:=Try.underlying5
  a5:=Try.isAgg5
  z5:=Try.sizeOf5
  v5:=Try.zeroValue5
  t9:=Try.underlying9
  a9:=Try.isAgg9
  z9:=Try.sizeOf9
  v9:=Try.zeroValue9
  t22:=Try.underlying108
  a22:=Try.isAgg108
  z22:=Try.sizeOf108
  v22:=Try.zeroValue108
  t25:=Try.underlying148
  a25:=Try.isAgg148
  z25:=Try.sizeOf148
  v25:=Try.zeroValue148
  t39:=Try.underlying104
  a39:=Try.isAgg104
  z39:=Try.sizeOf104
  v39:=Try.zeroValue104
  t45:=Try.underlying157
  a45:=Try.isAgg157
  z45:=Try.sizeOf157
  v45:=Try.zeroValue157
  t46:=Try.underlying158
  a46:=Try.isAgg158
  z46:=Try.sizeOf158
  v46:=Try.zeroValue158
  t50:=Try.underlying162
  a50:=Try.isAgg162
  z50:=Try.sizeOf162
  v50:=Try.zeroValue162
  t53:=Try.underlying165
  a53:=Try.isAgg165
  z53:=Try.sizeOf165
  v53:=Try.zeroValue165
  t55:=Try.underlying132
  a55:=Try.isAgg132
  z55:=Try.sizeOf132
  v55:=Try.zeroValue132
  t66:=Try.underlying168
  a66:=Try.isAgg168
  z66:=Try.sizeOf168
  v66:=Try.zeroValue168
  t70:=Try.underlying172
  a70:=Try.isAgg172
  z70:=Try.sizeOf172
  v70:=Try.zeroValue172
  t76:=Try.underlying175
  a76:=Try.isAgg175
  z76:=Try.sizeOf175
  v76:=Try.zeroValue175
  t77:=Try.underlying176
  a77:=Try.isAgg176
  z77:=Try.sizeOf176
  v77:=Try.zeroValue176 }
end Go.Proofs
namespace Go.Ab
open Go.RowKit Go.Proofs.Try
theorem Z6Q (x y:Int):ZH x y=if x < y then -1 else if x > y then 1 else 0:=by
  unfold ZH Z1o
  simp only [bne_self_eq_false,cond_false]
  by_cases h1:x < y
  · simp [h1]
  · by_cases h2:x > y<;>simp [h1,h2]
theorem Z6R (a b:Gedge):Z2z a b=cmpP a.pr b.pr:=by
  unfold Z2z ZL ZS cmpP Gedge.pr
  show (match Zg [a.e0,a.e1] [b.e0,b.e1] 3 0 with | .inl r1=>r1 | .inr r1=>cond (decide (((2:Nat):Int) < ((2:Nat):Int))) (-1) 0)=_
  simp only [Zg,Z6Q,List.length_cons,List.length_nil]
  by_cases h1:a.e0 < b.e0
  · simp [h1]
  · by_cases h2:a.e0 > b.e0
    · simp [h1,h2]
    · by_cases h3:a.e1 < b.e1
      · simp [h1,h2,h3]
      · by_cases h4:a.e1 > b.e1<;>simp [h1,h2,h3,h4]
def Z2h (l:List Gedge):List Gedge:=X2m Gedge.pr l
theorem Z4c (l:List Gedge) (h:l.length≤1073741824):Xk prog 119 [.vec 113 2 (l.map Gedge.cells) false] [.own 0, .fn 120 []] (.tup []) [.vec 113 2 ((Z2h l).map Gedge.cells) false] :=
  X9a laysF0n6 isAgg113 sizeOf113 Gedge.pr Gedge.inj Gedge.cells (fun _=>rfl) 113 120 ⟨_,func119,rfl,by kernel_rfl⟩ (Z3x default default).1
    (fun a b W=>((Z3x a b).2 W #[keyV a.pr,keyV b.pr] ⟨rfl,fun j c e=>by match j,e with | 0,e=>cases e;exact Rep.agg _ _ rfl (fun i c e=>by match i,e with | 0,e=>cases e;exact .i _ _ | 1,e=>cases e;exact .i _ _) | 1,e=>cases e;exact Rep.agg _ _ rfl (fun i c e=>by match i,e with | 0,e=>cases e;exact .i _ _ | 1,e=>cases e;exact .i _ _)⟩).mono fun e w' ⟨v,μ',he,hb,_,hr⟩=>by
      cases hr;rw [Z6R] at he;exact ⟨he,hb⟩) l h
def Z7 (Y1:Gm):(List (Gedge × List Int)) × (List Gedge):=((Zk Y1).1,(Z2h ((Zk Y1).2)))
theorem Z3C (m:Gm) (ok:OkE m.Pq.length m.Tr):(Z7 m).2=edgL m.Pq.length m.Tr:=(Z5C m ok).sorted ok
theorem Z5U (m:Gm) (ok:OkE m.Pq.length m.Tr) {e:Gedge} (he:e∈(Z7 m).2):mhas (Z7 m).1 e=true∧((Z7 m).1.getD (midx (Z7 m).1 e) default).2=idxP m.Tr e.e0 e.e1:=by
  rw [Z3C m ok] at he
  have h:=(Z5C m ok).at ok he
  exact ⟨h.1,h.2.trans (X9v ok (X41.1 he).1.2.1)⟩
theorem Z6l (m:Gm) (ok:OkE m.Pq.length m.Tr):(Z7 m).2.length≤4096:=by
  rw [Z3C m ok];exact X6I ok
theorem Z5M (m:Gm) (ok:OkE m.Pq.length m.Tr) {i:Int} (h0:0≤i) (hi:i < ((Z7 m).2.length:Int)):(Z7 m).2.getD i.toNat default∈(Z7 m).2:=by
  have hn:i.toNat < (Z7 m).2.length:=by omega
  rw [List.getD_eq_getElem?_getD,List.getElem?_eq_getElem hn];exact List.getElem_mem hn
theorem Z3O (m:Gm) (ok:OkE m.Pq.length m.Tr) {i:Int} (h0:0≤i) (hi:i < ((Z7 m).2.length:Int)) :
    0≤((Z7 m).2.getD i.toNat default).e0∧((Z7 m).2.getD i.toNat default).e0 < ((Z7 m).2.getD i.toNat default).e1∧((Z7 m).2.getD i.toNat default).e1 < (m.Pq.length:Int)∧(m.Pq.length:Int)≤64∧((Z7 m).2.length:Int)≤4096:=by
  have hl:=Z6l m ok
  have h64:=ok.1
  have hm:=Z5M m ok h0 hi
  rw [Z3C m ok] at hm
  have hb:=X9w hm
  rw [← Z3C m ok] at hb
  exact ⟨hb.1,hb.2.1,hb.2.2,by omega,by omega⟩
theorem Z4f (Y1:Gm) (hp0:Y1.Pq.length≤1073741824) (hp1:Y1.Tr.length≤1073741824) (hp2:∀ t∈Y1.Tr,t.length≤1073741824) (hp3:OkE Y1.Pq.length Y1.Tr)  : Fn prog 82 [.agg [.sl (Y1.Pq.map Gv.c), .sl (Y1.Tr.map (cL (cI .i64)))]] (.tup [.mp 0, .own 1]) [.mapN 2 (mapC Gedge.pr (cI .i64) ((Z7 Y1).1)) none, .vec 113 2 (((Z7 Y1).2).map Gedge.cells) false]:=by
 have y0:((Zk Y1).2).length≤1073741824:=(by (have q:=Z6y Y1 hp3;omega))
 refine fnS E0Ok Zb (c:=X0 f82) [] (.tup [.mp 0, .own 1]) [.mapN 2 (mapC Gedge.pr (cI .i64) ((Zk Y1).1)) none, .vec 113 2 ((Z2h ((Zk Y1).2)).map Gedge.cells) false] func82 (sZ (cL (cI .i64)) Y1.Tr<|sL (mR false [0,2,1,3,4,1,1,4,41]) 3 (X1H (st2:=⟨.agg [.sl (Y1.Pq.map Gv.c), .sl (Y1.Tr.map (cL (cI .i64)))] :: .ptr 0 0 0 :: .any :: .nils :: .mp 1 :: .own 2 :: an 4 (.mp 1 :: .any :: .ptr 0 0 1 :: .sl (Y1.Tr.map (cL (cI .i64))) :: .i .i64 (Y1.Tr.length:Int) :: .i .i64 0 :: an 41 []),[.box 27 [.sl (Y1.Pq.map Gv.c), .sl (Y1.Tr.map (cL (cI .i64)))], .mapN 2 [] none, .vec 113 2 ([]:List (List AV)) false]⟩) (Xb (Z26 Y1) (x:=(Zk Y1)) (Z45 Y1 hp0 hp1 hp2 hp3 (((Y1.Tr.length:Int) - 0).toNat + 1) 0 ([]:(List (Gedge × List Int))) ([]:List Gedge) (show 0≤0 from (by omega)) (show (([]:List Gedge).length:Int)≤3 * 0 from (by simp;done)) (show ∀ y∈([]:(List (Gedge × List Int))),(y.2.length:Int)≤3 * 0 from (by simp;done)) (Nat.lt_succ_self _)) rfl) (by simp [Z2B,mapC,Gedge.cells]))<|sS (Xk.frame (Z4c ((Zk Y1).2) y0) [2] (R:=[.box 27 [.sl (Y1.Pq.map Gv.c), .sl (Y1.Tr.map (cL (cI .i64)))], .mapN 2 (mapC Gedge.pr (cI .i64) ((Zk Y1).1)) none, .vec 113 2 (((Zk Y1).2).map Gedge.cells) false]) (args':=[.own 2, .fn 120 []]) rfl rfl rfl rfl rfl rfl)<|sK [1,2] sN) rfl (by kernel_rfl) (by kernel_rfl) rfl ?_ ?_
 · rfl
 · simp [Z7]
def Zu (Y1:Gm):Nat→Int→(List Gedge)→(List Gedge)
  | 0,_,_=>default
  | k + 1,Y0,Y7=>(cond (decide (Y0 < (((Z7 Y1).2).length:Int)))
    (cond (mhas ((Z7 Y1).1) (((Z7 Y1).2).getD Y0.toNat default))
      (cond (((((Z7 Y1).1).getD (midx ((Z7 Y1).1) (((Z7 Y1).2).getD Y0.toNat default)) default).2.length:Int) == 1)
        (Zu Y1 k (Y0 + 1) (Y7 ++ [(((Z7 Y1).2).getD Y0.toNat default)]))
        (Zu Y1 k (Y0 + 1) Y7))
      (Zu Y1 k (Y0 + 1) Y7))
    Y7)
def Z2L (Y1:Gm) (r:(List Gedge)):Ex × St:=((.exit 0),⟨.agg [.sl (Y1.Pq.map Gv.c), .sl (Y1.Tr.map (cL (cI .i64)))] :: .ptr 0 0 0 :: .nils :: .own 1 :: .any :: .own 2 :: an 4 (.agg [.sl (Y1.Pq.map Gv.c), .sl (Y1.Tr.map (cL (cI .i64)))] :: .any :: .mp 3 :: .own 2 :: .own 2 :: an 16 []),[.box 27 [.sl (Y1.Pq.map Gv.c), .sl (Y1.Tr.map (cL (cI .i64)))], .vec 113 2 (r.map Gedge.cells) false, .vec 113 2 (((Z7 Y1).2).map Gedge.cells) false, .mapN 2 (mapC Gedge.pr (cI .i64) ((Z7 Y1).1)) none]⟩)
def Z2M (Y1:Gm) (Y0:Int) (Y7:(List Gedge)):St:=⟨.agg [.sl (Y1.Pq.map Gv.c), .sl (Y1.Tr.map (cL (cI .i64)))] :: .ptr 0 0 0 :: .nils :: .own 1 :: .mp 2 :: .own 3 :: an 4 (.agg [.sl (Y1.Pq.map Gv.c), .sl (Y1.Tr.map (cL (cI .i64)))] :: .any :: .mp 2 :: .own 3 :: .own 3 :: .i .i64 (((Z7 Y1).2).length:Int) :: .i .i64 Y0 :: an 14 []),[.box 27 [.sl (Y1.Pq.map Gv.c), .sl (Y1.Tr.map (cL (cI .i64)))], .vec 113 2 (Y7.map Gedge.cells) false, .mapN 2 (mapC Gedge.pr (cI .i64) ((Z7 Y1).1)) none, .vec 113 2 (((Z7 Y1).2).map Gedge.cells) false]⟩
theorem Z4S (Y1:Gm) (hp0:Y1.Pq.length≤1073741824) (hp1:Y1.Tr.length≤1073741824) (hp2:∀ t∈Y1.Tr,t.length≤1073741824) (hp3:OkE Y1.Pq.length Y1.Tr):∀ (k:Nat) (Y0:Int) (Y7:(List Gedge)) (Z1s:0≤Y0) (Z3f:(Y7.length:Int)≤Y0) (hk:((((Z7 Y1).2).length:Int) - Y0).toNat < k),Lp prog 0 (sub (X0 f86) [1,1,1,0,1,0,0]) (Z2M Y1 Y0 Y7) (Z2L Y1 (Zu Y1 k Y0 Y7)).1 (Z2L Y1 (Zu Y1 k Y0 Y7)).2:=by
 intro k
 induction k with
 | zero=>intro Y0 Y7 Z1s Z3f hk;exact absurd hk (Nat.not_lt_zero _)
 | succ k ih =>
  intro Y0 Y7 Z1s Z3f hk
  cases Ym:(decide (Y0 < (((Z7 Y1).2).length:Int))) with
  | true =>
   have YF:=odt Ym
   have YR:(0:Int)≤Y0:=(by assumption)
   have YL:Y0 < (((Z7 Y1).2).length:Int):=(by assumption)
   have YZ:Y0.toNat < ((Z7 Y1).2).length:=(by omega)
   have p {a C} (s:Scr a C):=sB Ym<|sX Gedge.cells ((Z7 Y1).2) Y0 YR YL<|sV Gedge.cells ((Z7 Y1).2) Y0.toNat YZ<|s
   cases Yz:(mhas ((Z7 Y1).1) (((Z7 Y1).2).getD Y0.toNat default)) with
   | true =>
    have m_8:=X33 Yz
    have q {a C} (s:Scr a C):=p (sA (.keep [midx ((Z7 Y1).1) (((Z7 Y1).2).getD Y0.toNat default)])<|sC (X3K (ck:=Gedge.pr) (cv:=(cI .i64)) Yz)<|sM (X6C (ck:=Gedge.pr) (cv:=(cI .i64)) (l:=(Z7 Y1).1) (j:=(midx ((Z7 Y1).1) (((Z7 Y1).2).getD Y0.toNat default))))<|s)
    clear p
    cases YN:(((((Z7 Y1).1).getD (midx ((Z7 Y1).1) (((Z7 Y1).2).getD Y0.toNat default)) default).2.length:Int) == 1) with
    | true =>
     have Y1e:=eq_of_beq YN
     have YU:Y7.length + ([(((Z7 Y1).2).getD Y0.toNat default)]).length≤1073741824:=by clear q;exact (by ((have q:=Z3O Y1 hp3 Z1s (odt (by assumption));(simp only [List.length_append,List.length_cons,List.length_nil];omega))))
     have y_4:(-9223372036854775808:Int)≤(Y0 + 1):=by clear q;exact (by omega)
     have y_5:(Y0 + 1)≤(9223372036854775807:Int):=by clear q;exact (by ((have q:=Z3O Y1 hp3 Z1s (odt (by assumption));omega)))
     have e:Zu Y1 (k + 1) Y0 Y7=(Zu Y1 k (Y0 + 1) (Y7 ++ [(((Z7 Y1).2).getD Y0.toNat default)])):=by simp only [Zu,Ym,Yz,YN,cond_true]
     rw [e]
     exact X1m E0Ok Zb [] (mR false [0,6,4,1,1,5,14]) [0,1,2,3] (⟨.agg [.sl (Y1.Pq.map Gv.c), .sl (Y1.Tr.map (cL (cI .i64)))] :: .ptr 0 0 0 :: .nils :: .own 1 :: .mp 2 :: .own 3 :: an 4 (.agg [.sl (Y1.Pq.map Gv.c), .sl (Y1.Tr.map (cL (cI .i64)))] :: .any :: .mp 2 :: .own 3 :: .own 3 :: .i .i64 (((Z7 Y1).2).length:Int) :: .i .i64 (Y0 + 1) :: an 14 []),[.box 27 [.sl (Y1.Pq.map Gv.c), .sl (Y1.Tr.map (cL (cI .i64)))], .vec 113 2 ((Y7.map Gedge.cells) ++ ([[.i .i64 ((((Z7 Y1).2).getD Y0.toNat default).e0), .i .i64 ((((Z7 Y1).2).getD Y0.toNat default).e1)]]:List (List AV))) false, .mapN 2 (mapC Gedge.pr (cI .i64) ((Z7 Y1).1)) none, .vec 113 2 (((Z7 Y1).2).map Gedge.cells) false]⟩) (q (sB YN<|sC (show (Y7.map Gedge.cells).length + ([[.i .i64 ((((Z7 Y1).2).getD Y0.toNat default).e0), .i .i64 ((((Z7 Y1).2).getD Y0.toNat default).e1)]]:List (List AV)).length≤1073741824 from (by simpa using YU))<|sI (Y0 + 1) y_4 y_5<|sN)) (by kernel_rfl) (by simp [Z2M,Gedge.cells]) (ih (Y0 + 1) (Y7 ++ [(((Z7 Y1).2).getD Y0.toNat default)]) (show 0≤(Y0 + 1) from (by omega)) (show ((Y7 ++ [(((Z7 Y1).2).getD Y0.toNat default)]).length:Int)≤(Y0 + 1) from (by ((have q:=Z3O Y1 hp3 Z1s (odt (by assumption));(simp only [List.length_append,List.length_cons,List.length_nil];omega))))) (by omega))
    | false =>
     have Y1e:=ne_of_beq_false YN
     have YU:(-9223372036854775808:Int)≤(Y0 + 1):=by clear q;exact (by omega)
     have y_4:(Y0 + 1)≤(9223372036854775807:Int):=by clear q;exact (by ((have q:=Z3O Y1 hp3 Z1s (odt (by assumption));omega)))
     have e:Zu Y1 (k + 1) Y0 Y7=(Zu Y1 k (Y0 + 1) Y7):=by simp only [Zu,Ym,Yz,YN,cond_true,cond_false]
     rw [e]
     exact Xs E0Ok Zb [] (mR false [0,6,4,1,1,5,14]) [0,1,2,3] (ih (Y0 + 1) Y7 (show 0≤(Y0 + 1) from (by omega)) (show (Y7.length:Int)≤(Y0 + 1) from (by omega)) (by omega)) (q (sB YN<|sI (Y0 + 1) YU y_4<|sN)) (by kernel_rfl)
   | false =>
    have YU:(-9223372036854775808:Int)≤(Y0 + 1):=by clear p;exact (by omega)
    have y_4:(Y0 + 1)≤(9223372036854775807:Int):=by clear p;exact (by ((have q:=Z3O Y1 hp3 Z1s (odt (by assumption));omega)))
    have e:Zu Y1 (k + 1) Y0 Y7=(Zu Y1 k (Y0 + 1) Y7):=by simp only [Zu,Ym,Yz,cond_true,cond_false]
    rw [e]
    exact Xs E0Ok Zb [] (mR false [0,6,4,1,1,5,14]) [0,1,2,3] (ih (Y0 + 1) Y7 (show 0≤(Y0 + 1) from (by omega)) (show (Y7.length:Int)≤(Y0 + 1) from (by omega)) (by omega)) (p (sA (.keep [])<|sC (X4M (ck:=Gedge.pr) (cv:=(cI .i64)) Gedge.inj Yz)<|sM (show ((0:Nat):Int)=0 from rfl)<|sB (show (0 == 1)=false from rfl)<|sI (Y0 + 1) YU y_4<|sN)) (by kernel_rfl)
  | false =>
   have YF:=odf Ym
   have e:Zu Y1 (k + 1) Y0 Y7=Y7:=by simp only [Zu,Ym,cond_false]
   rw [e]
   exact outR (e:=(.exit 0)) E0Ok Zb [] (mR false [0,4,1,1,4,1,1,3,16]) [0,1,3,2] (sB Ym<|sN) (by kernel_rfl) (by intro h;cases h)
def Z27 (Y1:Gm):(List Gedge):=(Zu Y1 (((((Z7 Y1).2).length:Int) - 0).toNat + 1) 0 ([]:List Gedge))
def Z1D (Y1:Gm):(List Gedge):=(Z27 Y1)
theorem Z5Y (m:Gm) (ok:OkE m.Pq.length m.Tr):Z1D m=brL m.Pq.length m.Tr:=by
  unfold Z1D Z27
  refine (X7X (a:=(Z7 m).2) (p:=fun e=>decide ((idxP m.Tr e.e0 e.e1).length=1)) (f:=fun e=>e) (lo:=Zu m) (fun k i r h0 hi => ?_) (fun k i r hi => ?_)).trans ?_
  · obtain ⟨g1,g2⟩:=Z5U m ok (Z5M m ok h0 hi)
    rw [Zu,decide_eq_true hi,cond_true,g1,cond_true,g2]
    have hc:((((idxP m.Tr ((Z7 m).2.getD i.toNat default).e0 ((Z7 m).2.getD i.toNat default).e1).length:Nat):Int) == 1)=decide ((idxP m.Tr ((Z7 m).2.getD i.toNat default).e0 ((Z7 m).2.getD i.toNat default).e1).length=1):=by
      rw [Bool.eq_iff_iff,beq_iff_eq,decide_eq_true_iff];omega
    rw [hc]
  · rw [Zu,decide_eq_false (by omega),cond_false]
  · rw [Z3C m ok,List.map_id'];rfl
theorem Z5k (Y1:Gm) (hp0:Y1.Pq.length≤1073741824) (hp1:Y1.Tr.length≤1073741824) (hp2:∀ t∈Y1.Tr,t.length≤1073741824) (hp3:OkE Y1.Pq.length Y1.Tr)  : Fn prog 86 [.agg [.sl (Y1.Pq.map Gv.c), .sl (Y1.Tr.map (cL (cI .i64)))]] (.own 0) [.vec 113 2 ((Z1D Y1).map Gedge.cells) false]:=by
 refine fnS E0Ok Zb (c:=X0 f86) [] (.own 0) [.vec 113 2 ((Z27 Y1).map Gedge.cells) false] func86 (sF (Z4f Y1 hp0 hp1 hp2 hp3)<|sZ Gedge.cells ((Z7 Y1).2)<|sL (mR false [0,6,4,1,1,5,14]) 4 (X1H (st2:=⟨.agg [.sl (Y1.Pq.map Gv.c), .sl (Y1.Tr.map (cL (cI .i64)))] :: .ptr 0 0 0 :: .nils :: .own 1 :: .mp 2 :: .own 3 :: an 4 (.agg [.sl (Y1.Pq.map Gv.c), .sl (Y1.Tr.map (cL (cI .i64)))] :: .any :: .mp 2 :: .own 3 :: .own 3 :: .i .i64 (((Z7 Y1).2).length:Int) :: .i .i64 0 :: an 14 []),[.box 27 [.sl (Y1.Pq.map Gv.c), .sl (Y1.Tr.map (cL (cI .i64)))], .vec 113 2 ([]:List (List AV)) false, .mapN 2 (mapC Gedge.pr (cI .i64) ((Z7 Y1).1)) none, .vec 113 2 (((Z7 Y1).2).map Gedge.cells) false]⟩) (Xb (Z2L Y1) (x:=(Z27 Y1)) (Z4S Y1 hp0 hp1 hp2 hp3 (((((Z7 Y1).2).length:Int) - 0).toNat + 1) 0 ([]:List Gedge) (show 0≤0 from (by omega)) (show (([]:List Gedge).length:Int)≤0 from (by simp)) (Nat.lt_succ_self _)) rfl) (by simp [Z2M,Gedge.cells]))<|sK [1] sN) rfl (by kernel_rfl) (by kernel_rfl) rfl ?_ ?_
 · rfl
 · simp [Z1D]
def ZW (Y1:Gm):Bool:=(cond (Z1m Y1)
  (cond (decide ((Y1.Tr.length:Int) > 0))
    (((Z1D Y1).length:Int) == 0)
    false)
  false)
theorem Z5l (Y1:Gm) (hp0:Y1.Pq.length≤1073741824) (hp1:Y1.Tr.length≤1073741824) (hp2:∀ t∈Y1.Tr,t.length≤1073741824)  : Fn prog 37 [.agg [.sl (Y1.Pq.map Gv.c), .sl (Y1.Tr.map (cL (cI .i64)))]] (.b (ZW Y1)) []:=by
 have p {a C} (s:Scr a C):=sF (Z5B Y1 hp0 hp1 hp2)<|s
 cases h0:(Z1m Y1) with
 | true =>
  have q {a C} (s:Scr a C):=p (sB h0<|sB h0<|sB h0<|sZ (cL (cI .i64)) Y1.Tr<|sB h0<|sB h0<|s)
  clear p
  cases h1:(decide ((Y1.Tr.length:Int) > 0)) with
  | true =>
   have gh1:=odt h1
   have y0:OkE Y1.Pq.length Y1.Tr:=by clear q;exact (by exact Z29 Y1 (Z5X Y1 (by assumption)))
   refine fnS E0Ok Zb (c:=X0 f37) [] (.b (((Z1D Y1).length:Int) == 0)) [] func37 (q (sB h1<|sB h1<|sF (Z5k Y1 hp0 hp1 hp2 y0)<|sB h1<|sZ Gedge.cells (Z1D Y1)<|sB h1<|sB h1<|sK [] sN)) rfl (by kernel_rfl) (by kernel_rfl) rfl ?_ ?_
   · simp only [ZW,h0,h1,cond_true]
   · rfl
  | false =>
   have gh1:=odf h1
   refine fnS E0Ok Zb (c:=X0 f37) [] (.b false) [] func37 (q (sB h1<|sB h1<|sB h1<|sB h1<|sB h1<|sK [] sN)) rfl (by kernel_rfl) (by kernel_rfl) rfl ?_ ?_
   · simp only [ZW,h0,h1,cond_true,cond_false]
   · rfl
 | false =>
  refine fnS E0Ok Zb (c:=X0 f37) [] (.b false) [] func37 (p (sB h0<|sB h0<|sB h0<|sB h0<|sB h0<|sB (show false=false from rfl)<|sB (show false=false from rfl)<|sB (show false=false from rfl)<|sB (show false=false from rfl)<|sB (show false=false from rfl)<|sK [] sN)) rfl (by kernel_rfl) (by kernel_rfl) rfl ?_ ?_
  · simp only [ZW,h0,cond_false]
  · rfl
def Z1n (Yh:(List Gv)):Nat→Int→Nat→Nat→Nat→Nat × Nat × Nat
  | 0,_,_,_,_=>default
  | k + 1,Y0,Y7,YC,YD=>(cond (decide (Y0 < (Yh.length:Int)))
    (Z1n Yh k (Y0 + 1) ((Zi (⟨Y7,YC,YD⟩:Gv) (Yh.getD Y0.toNat default)).X) ((Zi (⟨Y7,YC,YD⟩:Gv) (Yh.getD Y0.toNat default)).Y) ((Zi (⟨Y7,YC,YD⟩:Gv) (Yh.getD Y0.toNat default)).Z))
    (Y7,YC,YD))
def Z3g (Yh:(List Gv)) (r:Nat × Nat × Nat):Ex × St:=((.exit 0),⟨.sl (Yh.map Gv.c) :: .any :: .ptr 0 0 0 :: .ptr 1 0 0 :: .any :: .any :: .agg [.f .f32 0, .f .f32 0, .f .f32 0] :: .sl (Yh.map Gv.c) :: an 10 [],[.box 32 [.f .f32 0, .f .f32 0, .f .f32 0], .box 32 [.f .f32 r.1, .f .f32 r.2.1, .f .f32 r.2.2]]⟩)
def Z5m (Yh:(List Gv)) (Y0:Int) (Y7:Nat) (YC:Nat) (YD:Nat):St:=⟨.sl (Yh.map Gv.c) :: .any :: .ptr 0 0 0 :: .ptr 1 0 0 :: .any :: .any :: .agg [.f .f32 0, .f .f32 0, .f .f32 0] :: .sl (Yh.map Gv.c) :: .i .i64 (Yh.length:Int) :: .i .i64 Y0 :: an 8 [],[.box 32 [.f .f32 0, .f .f32 0, .f .f32 0], .box 32 [.f .f32 Y7, .f .f32 YC, .f .f32 YD]]⟩
theorem Z5n (Yh:(List Gv)) (hp0:Yh.length≤1073741824):∀ (k:Nat) (Y0:Int) (Y7:Nat) (YC:Nat) (YD:Nat) (Z40:0≤Y0) (hk:((Yh.length:Int) - Y0).toNat < k),Lp prog 0 (sub (X0 f63) [1,1,0,1,0,0]) (Z5m Yh Y0 Y7 YC YD) (Z3g Yh (Z1n Yh k Y0 Y7 YC YD)).1 (Z3g Yh (Z1n Yh k Y0 Y7 YC YD)).2:=by
 intro k
 induction k with
 | zero=>intro Y0 Y7 YC YD Z40 hk;exact absurd hk (Nat.not_lt_zero _)
 | succ k ih =>
  intro Y0 Y7 YC YD Z40 hk
  cases Ym:(decide (Y0 < (Yh.length:Int))) with
  | true =>
   have YF:=odt Ym
   have YR:(0:Int)≤Y0:=(by assumption)
   have YL:Y0 < (Yh.length:Int):=(by assumption)
   have YZ:(-9223372036854775808:Int)≤(Y0 + 1):=(by omega)
   have YU:(Y0 + 1)≤(9223372036854775807:Int):=(by omega)
   have e:Z1n Yh (k + 1) Y0 Y7 YC YD=(Z1n Yh k (Y0 + 1) ((Zi (⟨Y7,YC,YD⟩:Gv) (Yh.getD Y0.toNat default)).X) ((Zi (⟨Y7,YC,YD⟩:Gv) (Yh.getD Y0.toNat default)).Y) ((Zi (⟨Y7,YC,YD⟩:Gv) (Yh.getD Y0.toNat default)).Z)):=by simp only [Z1n,Ym,cond_true]
   rw [e]
   exact Xs E0Ok Zb [] (mR false [0,1,1,2,2,4,8]) [0,1] (ih (Y0 + 1) ((Zi (⟨Y7,YC,YD⟩:Gv) (Yh.getD Y0.toNat default)).X) ((Zi (⟨Y7,YC,YD⟩:Gv) (Yh.getD Y0.toNat default)).Y) ((Zi (⟨Y7,YC,YD⟩:Gv) (Yh.getD Y0.toNat default)).Z) (show 0≤(Y0 + 1) from (by omega)) (by omega)) (sB Ym<|sG Gv.c Yh Y0 YR YL<|sF (Z2X (⟨Y7,YC,YD⟩:Gv) (Yh.getD Y0.toNat default))<|sI (Y0 + 1) YZ YU<|sN) (by kernel_rfl)
  | false =>
   have YF:=odf Ym
   have e:Z1n Yh (k + 1) Y0 Y7 YC YD=(Y7,YC,YD):=by simp only [Z1n,Ym,cond_false]
   rw [e]
   exact outR (e:=(.exit 0)) E0Ok Zb [] (mR false [0,1,1,2,2,2,10]) [0,1] (sB Ym<|sN) (by kernel_rfl) (by intro h;cases h)
def Z1v (Yh:(List Gv)):Nat × Nat × Nat:=(Z1n Yh (((Yh.length:Int) - 0).toNat + 1) 0 0 0 0)
def Z1b (Yh:(List Gv)):Gv:=(⟨(Z1v Yh).1,(Z1v Yh).2.1,(Z1v Yh).2.2⟩:Gv)
theorem Z4T (Yh:(List Gv)) (hp0:Yh.length≤1073741824)  : Fn prog 63 [.sl (Yh.map Gv.c)] (.agg [.f .f32 ((Z1b Yh).X), .f .f32 ((Z1b Yh).Y), .f .f32 ((Z1b Yh).Z)]) []:=by
 refine fnS E0Ok Zb (c:=X0 f63) [] (.agg [.f .f32 ((Z1v Yh).1), .f .f32 ((Z1v Yh).2.1), .f .f32 ((Z1v Yh).2.2)]) [] func63 (sZ Gv.c Yh<|sL (mR false [0,1,1,2,2,4,8]) 2 (Xb (Z3g Yh) (x:=(Z1v Yh)) (Z5n Yh hp0 (((Yh.length:Int) - 0).toNat + 1) 0 0 0 0 (show 0≤0 from (by omega)) (Nat.lt_succ_self _)) rfl)<|sK [] sN) rfl (by kernel_rfl) (by kernel_rfl) rfl ?_ ?_
 · rfl
 · rfl
def ZP (Yx:(List Gv)):Gv × Bool:=(cond (decide ((Yx.length:Int) > 64))
  ((⟨0,0,0⟩:Gv),false)
  ((Z1b Yx),true))
theorem Z5o (Yx:(List Gv)) (hp0:Yx.length≤1073741824)  : Fn prog 48 [.sl (Yx.map Gv.c)] (.tup [.agg [.f .f32 ((ZP Yx).1.X), .f .f32 ((ZP Yx).1.Y), .f .f32 ((ZP Yx).1.Z)], .b ((ZP Yx).2)]) []:=by
 have p {a C} (s:Scr a C):=sZ Gv.c Yx<|s
 cases h0:(decide ((Yx.length:Int) > 64)) with
 | true =>
  have gh0:=odt h0
  refine fnS E0Ok Zb (c:=X0 f48) [] (.tup [.agg [.f .f32 0, .f .f32 0, .f .f32 0], .b false]) [] func48 (p (sB h0<|sK [] sN)) rfl (by kernel_rfl) (by kernel_rfl) rfl ?_ ?_
  · simp only [ZP,h0,cond_true]
  · rfl
 | false =>
  have gh0:=odf h0
  refine fnS E0Ok Zb (c:=X0 f48) [] (.tup [.agg [.f .f32 ((Z1b Yx).X), .f .f32 ((Z1b Yx).Y), .f .f32 ((Z1b Yx).Z)], .b true]) [] func48 (p (sB h0<|sF (Z4T Yx hp0)<|sK [] sN)) rfl (by kernel_rfl) (by kernel_rfl) rfl ?_ ?_
  · simp only [ZP,h0,cond_false]
  · rfl
def Z13 (Y1:Gm) (Yd:(List Gv)):Nat→Int→(List Gv)→(List Gv)
  | 0,_,_=>default
  | k + 1,Y0,Yb=>(cond (decide (Y0 < (Y1.Pq.length:Int)))
    (Z13 Y1 Yd k (Y0 + 1) (Yb ++ [(ZB (Y1.Pq.getD Y0.toNat default) (Yd.getD Y0.toNat default))]))
    Yb)
def Z2N (Y1:Gm) (Yd:(List Gv)) (r:(List Gv)):Ex × St:=((.exit 0),⟨.agg [.sl (Y1.Pq.map Gv.c), .sl (Y1.Tr.map (cL (cI .i64)))] :: .sl (Yd.map Gv.c) :: .ptr 0 0 0 :: .any :: .ptr 1 0 0 :: .b false :: .own 2 :: .any :: .any :: .agg [.sl (Y1.Pq.map Gv.c), .sl (Y1.Tr.map (cL (cI .i64)))] :: .b (Za Y1) :: .b (!(Za Y1)) :: .b (!(Za Y1)) :: .sl (Yd.map Gv.c) :: .i .i64 (Yd.length:Int) :: .ptr 0 0 0 :: .sl (Y1.Pq.map Gv.c) :: .i .i64 (Y1.Pq.length:Int) :: .b ((Yd.length:Int) != (Y1.Pq.length:Int)) :: .b ((Yd.length:Int) != (Y1.Pq.length:Int)) :: .any :: .any :: .ptr 0 0 0 :: .sl (Y1.Pq.map Gv.c) :: an 18 [],[.box 27 [.sl (Y1.Pq.map Gv.c), .sl (Y1.Tr.map (cL (cI .i64)))], .box 32 [.f .f32 0, .f .f32 0, .f .f32 0], .vec 32 3 (r.map Gv.c) false]⟩)
def Z2O (Y1:Gm) (Yd:(List Gv)) (Y0:Int) (Yb:(List Gv)):St:=⟨.agg [.sl (Y1.Pq.map Gv.c), .sl (Y1.Tr.map (cL (cI .i64)))] :: .sl (Yd.map Gv.c) :: .ptr 0 0 0 :: .any :: .ptr 1 0 0 :: .b false :: .own 2 :: .any :: .any :: .agg [.sl (Y1.Pq.map Gv.c), .sl (Y1.Tr.map (cL (cI .i64)))] :: .b (Za Y1) :: .b (!(Za Y1)) :: .b (!(Za Y1)) :: .sl (Yd.map Gv.c) :: .i .i64 (Yd.length:Int) :: .ptr 0 0 0 :: .sl (Y1.Pq.map Gv.c) :: .i .i64 (Y1.Pq.length:Int) :: .b ((Yd.length:Int) != (Y1.Pq.length:Int)) :: .b ((Yd.length:Int) != (Y1.Pq.length:Int)) :: .any :: .any :: .ptr 0 0 0 :: .sl (Y1.Pq.map Gv.c) :: .i .i64 (Y1.Pq.length:Int) :: .i .i64 Y0 :: an 16 [],[.box 27 [.sl (Y1.Pq.map Gv.c), .sl (Y1.Tr.map (cL (cI .i64)))], .box 32 [.f .f32 0, .f .f32 0, .f .f32 0], .vec 32 3 (Yb.map Gv.c) false]⟩
def Z3h:List Bool:=(mR false [0,3,1,3,2,11,2,4,16])
def Z4t:List Bool:=(mR false [0,3,1,3,2,11,2,2,18])
theorem Z4U (Y1:Gm) (Yd:(List Gv)) (hp0:Y1.Pq.length≤1073741824) (hp1:Y1.Tr.length≤1073741824) (hp2:∀ t∈Y1.Tr,t.length≤1073741824) (hp3:Yd.length≤1073741824) (Z6a:((Yd.length:Int) != (Y1.Pq.length:Int))=false) (Z6b:(Za Y1)=true):∀ (k:Nat) (Y0:Int) (Yb:(List Gv)) (Z3i:0≤Y0) (Z3j:(Yb.length:Int)=Y0) (hk:((Y1.Pq.length:Int) - Y0).toNat < k),Lp prog 0 (sub (X0 f49) [1,1,1,0,1,0,0]) (Z2O Y1 Yd Y0 Yb) (Z2N Y1 Yd (Z13 Y1 Yd k Y0 Yb)).1 (Z2N Y1 Yd (Z13 Y1 Yd k Y0 Yb)).2:=by
 intro k
 induction k with
 | zero=>intro Y0 Yb Z3i Z3j hk;exact absurd hk (Nat.not_lt_zero _)
 | succ k ih =>
  intro Y0 Yb Z3i Z3j hk
  cases Ym:(decide (Y0 < (Y1.Pq.length:Int))) with
  | true =>
   have YF:=odt Ym
   have YR:(0:Int)≤Y0:=(by assumption)
   have YL:Y0 < (Y1.Pq.length:Int):=(by assumption)
   have YZ:Y0 < (Yd.length:Int):=(by simp_all<;>omega)
   have YU:Yb.length + ([(ZB (Y1.Pq.getD Y0.toNat default) (Yd.getD Y0.toNat default))]).length≤1073741824:=(by simp_all<;>omega)
   have y_4:(-9223372036854775808:Int)≤(Y0 + 1):=(by omega)
   have y_5:(Y0 + 1)≤(9223372036854775807:Int):=(by omega)
   have e:Z13 Y1 Yd (k + 1) Y0 Yb=(Z13 Y1 Yd k (Y0 + 1) (Yb ++ [(ZB (Y1.Pq.getD Y0.toNat default) (Yd.getD Y0.toNat default))])):=by simp only [Z13,Ym,cond_true]
   rw [e]
   exact X1m E0Ok Zb [] Z3h [0,1,2] (⟨.agg [.sl (Y1.Pq.map Gv.c), .sl (Y1.Tr.map (cL (cI .i64)))] :: .sl (Yd.map Gv.c) :: .ptr 0 0 0 :: .any :: .ptr 1 0 0 :: .b false :: .own 2 :: .any :: .any :: .agg [.sl (Y1.Pq.map Gv.c), .sl (Y1.Tr.map (cL (cI .i64)))] :: .b (Za Y1) :: .b (!(Za Y1)) :: .b (!(Za Y1)) :: .sl (Yd.map Gv.c) :: .i .i64 (Yd.length:Int) :: .ptr 0 0 0 :: .sl (Y1.Pq.map Gv.c) :: .i .i64 (Y1.Pq.length:Int) :: .b ((Yd.length:Int) != (Y1.Pq.length:Int)) :: .b ((Yd.length:Int) != (Y1.Pq.length:Int)) :: .any :: .any :: .ptr 0 0 0 :: .sl (Y1.Pq.map Gv.c) :: .i .i64 (Y1.Pq.length:Int) :: .i .i64 (Y0 + 1) :: an 16 [],[.box 27 [.sl (Y1.Pq.map Gv.c), .sl (Y1.Tr.map (cL (cI .i64)))], .box 32 [.f .f32 0, .f .f32 0, .f .f32 0], .vec 32 3 ((Yb.map Gv.c) ++ ([[.f .f32 ((ZB (Y1.Pq.getD Y0.toNat default) (Yd.getD Y0.toNat default)).X), .f .f32 ((ZB (Y1.Pq.getD Y0.toNat default) (Yd.getD Y0.toNat default)).Y), .f .f32 ((ZB (Y1.Pq.getD Y0.toNat default) (Yd.getD Y0.toNat default)).Z)]]:List (List AV))) false]⟩) (sB Ym<|sG Gv.c Y1.Pq Y0 YR YL<|sK [8,8]<|sG Gv.c Yd Y0 YR YZ<|sF (Z3A (Y1.Pq.getD Y0.toNat default) (Yd.getD Y0.toNat default))<|sC (show (Yb.map Gv.c).length + ([[.f .f32 ((ZB (Y1.Pq.getD Y0.toNat default) (Yd.getD Y0.toNat default)).X), .f .f32 ((ZB (Y1.Pq.getD Y0.toNat default) (Yd.getD Y0.toNat default)).Y), .f .f32 ((ZB (Y1.Pq.getD Y0.toNat default) (Yd.getD Y0.toNat default)).Z)]]:List (List AV)).length≤1073741824 from (by simpa using YU))<|sI (Y0 + 1) y_4 y_5<|sN) (by kernel_rfl) (by simp [Z2O,Gv.c]) (ih (Y0 + 1) (Yb ++ [(ZB (Y1.Pq.getD Y0.toNat default) (Yd.getD Y0.toNat default))]) (show 0≤(Y0 + 1) from (by omega)) (show ((Yb ++ [(ZB (Y1.Pq.getD Y0.toNat default) (Yd.getD Y0.toNat default))]).length:Int)=(Y0 + 1) from (by simp_all<;>omega)) (by omega))
  | false =>
   have YF:=odf Ym
   have e:Z13 Y1 Yd (k + 1) Y0 Yb=Yb:=by simp only [Z13,Ym,cond_false]
   rw [e]
   exact outR (e:=(.exit 0)) E0Ok Zb [] Z4t [0,1,2] (sB Ym<|sN) (by kernel_rfl) (by intro h;cases h)
def ZQ (Y1:Gm) (Yd:(List Gv)):(List Gv):=(Z13 Y1 Yd (((Y1.Pq.length:Int) - 0).toNat + 1) 0 ([]:List Gv))
def Z16 (Y1:Gm) (Yd:(List Gv)):Gv × Bool:=(cond (Za Y1)
  (cond ((Yd.length:Int) != (Y1.Pq.length:Int))
    ((⟨0,0,0⟩:Gv),false)
    ((Z1b (ZQ Y1 Yd)),true))
  ((⟨0,0,0⟩:Gv),false))
theorem Z4V (m:Gm) (f:List Gv):ZQ m f=(List.range m.Pq.length).map fun (j:Nat)=>ZB (m.Pq.getD j default) (f.getD j default):=by
  unfold ZQ
  rw [X6v (f:=fun i=>ZB (m.Pq.getD i.toNat default) (f.getD i.toNat default)) (n:=(m.Pq.length:Int)) (lo:=Z13 m f) (fun k i r=>rfl) _ _ _ (Nat.lt_succ_self _)]
  simp
@[simp] theorem Z6S (m:Gm) (f:List Gv):(ZQ m f).length=m.Pq.length:=by
  simp [Z4V]
theorem Z5p (Y1:Gm) (Yd:(List Gv)) (hp0:Y1.Pq.length≤1073741824) (hp1:Y1.Tr.length≤1073741824) (hp2:∀ t∈Y1.Tr,t.length≤1073741824) (hp3:Yd.length≤1073741824)  : Fn prog 49 [.agg [.sl (Y1.Pq.map Gv.c), .sl (Y1.Tr.map (cL (cI .i64)))], .sl (Yd.map Gv.c)] (.tup [.agg [.f .f32 ((Z16 Y1 Yd).1.X), .f .f32 ((Z16 Y1 Yd).1.Y), .f .f32 ((Z16 Y1 Yd).1.Z)], .b ((Z16 Y1 Yd).2)]) []:=by
 have p {a C} (s:Scr a C):=sF (Z2r Y1 hp0 hp1 hp2)<|s
 cases h0:(Za Y1) with
 | true =>
  have q {a C} (s:Scr a C):=p (sB' h0<|sB' h0<|sZ Gv.c Yd<|sB' h0<|sB' h0<|sB' h0<|sZ Gv.c Y1.Pq<|sB' h0<|sB' h0<|s)
  clear p
  cases h1:((Yd.length:Int) != (Y1.Pq.length:Int)) with
  | true =>
   have gh1:=bne_iff_ne.1 h1
   refine fnS E0Ok Zb (c:=X0 f49) [] (.tup [.agg [.f .f32 0, .f .f32 0, .f .f32 0], .b false]) [] func49 (q (sB h1<|sK [] sN)) rfl (by kernel_rfl) (by kernel_rfl) rfl ?_ ?_
   · simp only [Z16,h0,h1,cond_true]
   · rfl
  | false =>
   have gh1:=bne_eq_false_iff_eq.1 h1
   have y0:(ZQ Y1 Yd).length≤1073741824:=by clear q;exact (by simp_all<;>omega)
   refine fnS E0Ok Zb (c:=X0 f49) [] (.tup [.agg [.f .f32 ((Z1b (ZQ Y1 Yd)).X), .f .f32 ((Z1b (ZQ Y1 Yd)).Y), .f .f32 ((Z1b (ZQ Y1 Yd)).Z)], .b true]) [] func49 (q (sB h1<|sZ Gv.c Y1.Pq<|sL Z3h 3 (X1H (st2:=⟨.agg [.sl (Y1.Pq.map Gv.c), .sl (Y1.Tr.map (cL (cI .i64)))] :: .sl (Yd.map Gv.c) :: .ptr 0 0 0 :: .any :: .ptr 1 0 0 :: .b false :: .own 2 :: .any :: .any :: .agg [.sl (Y1.Pq.map Gv.c), .sl (Y1.Tr.map (cL (cI .i64)))] :: .b (Za Y1) :: .b (!(Za Y1)) :: .b (!(Za Y1)) :: .sl (Yd.map Gv.c) :: .i .i64 (Yd.length:Int) :: .ptr 0 0 0 :: .sl (Y1.Pq.map Gv.c) :: .i .i64 (Y1.Pq.length:Int) :: .b ((Yd.length:Int) != (Y1.Pq.length:Int)) :: .b ((Yd.length:Int) != (Y1.Pq.length:Int)) :: .any :: .any :: .ptr 0 0 0 :: .sl (Y1.Pq.map Gv.c) :: .i .i64 (Y1.Pq.length:Int) :: .i .i64 0 :: an 16 [],[.box 27 [.sl (Y1.Pq.map Gv.c), .sl (Y1.Tr.map (cL (cI .i64)))], .box 32 [.f .f32 0, .f .f32 0, .f .f32 0], .vec 32 3 ([]:List (List AV)) false]⟩) (Xb (Z2N Y1 Yd) (x:=(ZQ Y1 Yd)) (Z4U Y1 Yd hp0 hp1 hp2 hp3 h1 h0 (((Y1.Pq.length:Int) - 0).toNat + 1) 0 ([]:List Gv) (show 0≤0 from (by simp)) (show (([]:List Gv).length:Int)=0 from (by simp)) (Nat.lt_succ_self _)) rfl) (by simp [Z2O,Gv.c]))<|sF (Z4T (ZQ Y1 Yd) y0)<|sK [] sN)) rfl (by kernel_rfl) (by kernel_rfl) rfl ?_ ?_
   · simp only [Z16,h0,h1,cond_true,cond_false]
   · rfl
 | false =>
  refine fnS E0Ok Zb (c:=X0 f49) [] (.tup [.agg [.f .f32 0, .f .f32 0, .f .f32 0], .b false]) [] func49 (p (sB' h0<|sB' h0<|sB' h0<|sB' h0<|sB' h0<|sB' h0<|sB' h0<|sB (show true=true from rfl)<|sK [] sN)) rfl (by kernel_rfl) (by kernel_rfl) rfl ?_ ?_
  · simp only [Z16,h0,cond_false]
  · rfl
def Z1q (Y2:(List Int)) (Yl:Int) (Yg:Int):Nat:=(fop .quo .f32 (X7 .f32 (IntKind.wrap .i64 ((Int.tmod (IntKind.wrap .i64 (Y2.getD (IntKind.wrap .i64 (Yl + Yg)).toNat default)) 17) - 8))) 1082130432)
def Zm (Y2:(List Int)) (Yl:Int):Nat→Int→(List Nat)→(List Nat)
  | 0,_,_=>default
  | k + 1,Yg,Y7=>(cond (decide (Yg < 3))
    (cond (decide ((IntKind.wrap .i64 (Yl + Yg)) < (Y2.length:Int)))
      (Zm Y2 Yl k (Yg + 1) (Y7.set Yg.toNat (Z1q Y2 Yl Yg)))
      (Zm Y2 Yl k (Yg + 1) Y7))
    Y7)
def Z2P (Y2:(List Int)) (Yl:Int) (r:(List Nat)):Ex × St:=((.exit 0),⟨an 4 (.ptr 0 0 0 :: .own 1 :: .any :: .any :: .own 1 :: an 39 []),[.box 32 [.f .f32 0, .f .f32 0, .f .f32 0], .vec 29 1 (r.map (cF .f32)) false]⟩)
def Z2Q (Y2:(List Int)) (Yl:Int) (Yg:Int) (Y7:(List Nat)):St:=⟨.sl (Y2.map (cI .u8)) :: .i .i64 Yl :: .any :: .any :: .ptr 0 0 0 :: .own 1 :: .i .i64 Yg :: .any :: .own 1 :: an 39 [],[.box 32 [.f .f32 0, .f .f32 0, .f .f32 0], .vec 29 1 (Y7.map (cF .f32)) false]⟩
theorem Z4W (Y2:(List Int)) (Yl:Int) (hp0:Y2.length≤1073741824) (hp1:(0:Int)≤Yl) (hp2:Yl≤(1000:Int)):∀ (k:Nat) (Yg:Int) (Y7:(List Nat)) (Z3k:0≤Yg) (Z3l:Y7.length=([1065353216,1056964608,3196059648]).length) (hk:((3:Int) - Yg).toNat < k),Lp prog 0 (sub (X0 f50) [1,1,0,1,0,0]) (Z2Q Y2 Yl Yg Y7) (Z2P Y2 Yl (Zm Y2 Yl k Yg Y7)).1 (Z2P Y2 Yl (Zm Y2 Yl k Yg Y7)).2:=by
 intro k
 induction k with
 | zero=>intro Yg Y7 Z3k Z3l hk;exact absurd hk (Nat.not_lt_zero _)
 | succ k ih =>
  intro Yg Y7 Z3k Z3l hk
  cases Ym:(decide (Yg < 3)) with
  | true =>
   have YF:=odt Ym
   have p {a C} (s:Scr a C):=sB Ym<|sW .i64 (Yl + Yg)<|sZ (cI .u8) Y2<|s
   cases Yz:(decide ((IntKind.wrap .i64 (Yl + Yg)) < (Y2.length:Int))) with
   | true =>
    have Y1d:=odt Yz
    have YR:(0:Int)≤(IntKind.wrap .i64 (Yl + Yg)):=by clear p;exact (by ((rw [XB (by omega) (by omega)];omega)))
    have YL:(IntKind.wrap .i64 (Yl + Yg)) < (Y2.length:Int):=by clear p;exact (by assumption)
    have YZ:(0:Int)≤Yg:=by clear p;exact (by assumption)
    have YU:Yg < (Y7.length:Int):=by clear p;exact (by simp_all<;>omega)
    have y_4:Yg.toNat < Y7.length:=by clear p;exact (by omega)
    have y_5:(-9223372036854775808:Int)≤(Yg + 1):=by clear p;exact (by omega)
    have y_6:(Yg + 1)≤(9223372036854775807:Int):=by clear p;exact (by omega)
    have e:Zm Y2 Yl (k + 1) Yg Y7=(Zm Y2 Yl k (Yg + 1) (Y7.set Yg.toNat (Z1q Y2 Yl Yg))):=by simp only [Zm,Ym,Yz,cond_true]
    rw [e]
    exact X1m E0Ok Zb [] (mR false [0,2,2,3,1,1,39]) [0,1] (⟨.sl (Y2.map (cI .u8)) :: .i .i64 Yl :: .any :: .any :: .ptr 0 0 0 :: .own 1 :: .i .i64 (Yg + 1) :: .any :: .own 1 :: an 39 [],[.box 32 [.f .f32 0, .f .f32 0, .f .f32 0], .vec 29 1 ((Y7.map (cF .f32)).set Yg.toNat [.f .f32 (Z1q Y2 Yl Yg)]) false]⟩) (p (sB Yz<|sW .i64 (Yl + Yg)<|sG (cI .u8) Y2 (IntKind.wrap .i64 (Yl + Yg)) YR YL<|sW .i64 (Y2.getD (IntKind.wrap .i64 (Yl + Yg)).toNat default)<|sC (show (17:Int)≠0 from (by decide))<|sQ (Int.tmod (IntKind.wrap .i64 (Y2.getD (IntKind.wrap .i64 (Yl + Yg)).toNat default)) 17)<|sW .i64 ((Int.tmod (IntKind.wrap .i64 (Y2.getD (IntKind.wrap .i64 (Yl + Yg)).toNat default)) 17) - 8)<|sX (cF .f32) Y7 Yg YZ YU<|sC (X5w (c:=(cF .f32)) (l:=Y7) y_4)<|sI (Yg + 1) y_5 y_6<|sN)) (by kernel_rfl) (by simp [Z2Q,List.map_set,cF]) (ih (Yg + 1) (Y7.set Yg.toNat (Z1q Y2 Yl Yg)) (show 0≤(Yg + 1) from (by omega)) (show (Y7.set Yg.toNat (Z1q Y2 Yl Yg)).length=([1065353216,1056964608,3196059648]).length from (by simp_all<;>omega)) (by omega))
   | false =>
    have Y1d:=odf Yz
    have YR:(-9223372036854775808:Int)≤(Yg + 1):=by clear p;exact (by omega)
    have YL:(Yg + 1)≤(9223372036854775807:Int):=by clear p;exact (by omega)
    have e:Zm Y2 Yl (k + 1) Yg Y7=(Zm Y2 Yl k (Yg + 1) Y7):=by simp only [Zm,Ym,Yz,cond_true,cond_false]
    rw [e]
    exact Xs E0Ok Zb [] (mR false [0,2,2,3,1,1,39]) [0,1] (ih (Yg + 1) Y7 (show 0≤(Yg + 1) from (by omega)) (show Y7.length=([1065353216,1056964608,3196059648]).length from (by assumption)) (by omega)) (p (sB Yz<|sI (Yg + 1) YR YL<|sN)) (by kernel_rfl)
  | false =>
   have YF:=odf Ym
   have e:Zm Y2 Yl (k + 1) Yg Y7=Y7:=by simp only [Zm,Ym,cond_false]
   rw [e]
   exact outR (e:=(.exit 0)) E0Ok Zb [] (mR false [4,2,2,1,39]) [0,1] (sB Ym<|sN) (by kernel_rfl) (by intro h;cases h)
theorem Z4u (Y2:(List Int)) (Yl:Int):∀ (k:Nat) (Yg:Int) (Y7:(List Nat)) (hk:((3:Int) - Yg).toNat < k),(Zm Y2 Yl k Yg Y7).length=Y7.length:=by
  intro k
  induction k with
  | zero=>intro Yg Y7 hk;exact absurd hk (Nat.not_lt_zero _)
  | succ k ih =>
    intro Yg Y7 hk
    cases Ym:(decide (Yg < 3)) with
    | true =>
      cases Yz:(decide ((IntKind.wrap .i64 (Yl + Yg)) < (Y2.length:Int))) with
      | true =>
        have e:Zm Y2 Yl (k + 1) Yg Y7=(Zm Y2 Yl k (Yg + 1) (Y7.set Yg.toNat (Z1q Y2 Yl Yg))):=by simp only [Zm,Ym,Yz,cond_true]
        rw [e,ih (Yg + 1) (Y7.set Yg.toNat (Z1q Y2 Yl Yg)) (by simp_all<;>omega)]<;>simp
      | false =>
        have e:Zm Y2 Yl (k + 1) Yg Y7=(Zm Y2 Yl k (Yg + 1) Y7):=by simp only [Zm,Ym,Yz,cond_true,cond_false]
        rw [e,ih (Yg + 1) Y7 (by simp_all<;>omega)]<;>simp
    | false =>
      have e:Zm Y2 Yl (k + 1) Yg Y7=Y7:=by simp only [Zm,Ym,cond_false]
      first | (rw [e];done) | (rw [e];rfl)
def Ze (Y2:(List Int)) (Yl:Int):(List Nat):=(Zm Y2 Yl (((3:Int) - 0).toNat + 1) 0 ([1065353216,1056964608,3196059648]))
@[simp] theorem Z3R (Y2:(List Int)) (Yl:Int):(Ze Y2 Yl).length=(([1065353216,1056964608,3196059648]):(List Nat)).length:=Z4u Y2 Yl (((3:Int) - 0).toNat + 1) 0 ([1065353216,1056964608,3196059648]) (by exact Nat.lt_succ_self _)
theorem Z6N:VecT prog 32:=X9j (by kernel_rfl)
def Z2R (Y2:(List Int)) (Yl:Int):Bool:=(fcmp .eql .f32 ((Ze Y2 Yl).getD 0 default) 0 && fcmp .eql .f32 ((Ze Y2 Yl).getD 1 default) 0 && fcmp .eql .f32 ((Ze Y2 Yl).getD 2 default) 0)
def ZR (Y2:(List Int)) (Yl:Int):Gv:=(cond (Z2R Y2 Yl)
  (⟨((Ze Y2 Yl).getD 0 default),((Ze Y2 Yl).getD 1 default),1065353216⟩:Gv)
  (⟨((Ze Y2 Yl).getD 0 default),((Ze Y2 Yl).getD 1 default),((Ze Y2 Yl).getD 2 default)⟩:Gv))
theorem Z5q (Y2:(List Int)) (Yl:Int) (hp0:Y2.length≤1073741824) (hp1:(0:Int)≤Yl) (hp2:Yl≤(1000:Int))  : Fn prog 50 [.sl (Y2.map (cI .u8)), .i .i64 Yl] (.agg [.f .f32 ((ZR Y2 Yl).X), .f .f32 ((ZR Y2 Yl).Y), .f .f32 ((ZR Y2 Yl).Z)]) []:=by
 have y0:(0:Int)≤0:=(by omega)
 have y1:0 < ((Ze Y2 Yl).length:Int):=(by simp_all<;>omega)
 have y2:0 < (Ze Y2 Yl).length:=(by omega)
 have y3:(0:Int)≤1:=(by omega)
 have y4:1 < ((Ze Y2 Yl).length:Int):=(by simp_all<;>omega)
 have y5:1 < (Ze Y2 Yl).length:=(by omega)
 have y6:(0:Int)≤2:=(by omega)
 have y7:2 < ((Ze Y2 Yl).length:Int):=(by simp_all<;>omega)
 have y8:2 < (Ze Y2 Yl).length:=(by omega)
 have p {a C} (s:Scr a C):=sL (mR false [0,2,2,3,1,1,39]) 2 (X1H (st2:=⟨.sl (Y2.map (cI .u8)) :: .i .i64 Yl :: .any :: .any :: .ptr 0 0 0 :: .own 1 :: .i .i64 0 :: .any :: .own 1 :: an 39 [],[.box 32 [.f .f32 0, .f .f32 0, .f .f32 0], .vec 29 1 ([[.f .f32 1065353216],[.f .f32 1056964608],[.f .f32 3196059648]]:List (List AV)) false]⟩) (Xb (Z2P Y2 Yl) (x:=(Ze Y2 Yl)) (Z4W Y2 Yl hp0 hp1 hp2 (((3:Int) - 0).toNat + 1) 0 ([1065353216,1056964608,3196059648]) (show 0≤0 from (by assumption)) (show ([1065353216,1056964608,3196059648]).length=([1065353216,1056964608,3196059648]).length from (by simp)) (Nat.lt_succ_self _)) rfl) (by simp [Z2Q,cF]))<|sK [11,11]<|sX (cF .f32) (Ze Y2 Yl) 0 y0 y1<|sV (cF .f32) (Ze Y2 Yl) 0 y2<|sX (cF .f32) (Ze Y2 Yl) 1 y3 y4<|sV (cF .f32) (Ze Y2 Yl) 1 y5<|sX (cF .f32) (Ze Y2 Yl) 2 y6 y7<|sV (cF .f32) (Ze Y2 Yl) 2 y8<|sC Z6N<|s
 cases h0:(Z2R Y2 Yl) with
 | true =>
  refine fnS E0Ok Zb (c:=X0 f50) [] (.agg [.f .f32 ((Ze Y2 Yl).getD 0 default), .f .f32 ((Ze Y2 Yl).getD 1 default), .f .f32 1065353216]) [] func50 (p (sB h0<|sK [] sN)) rfl (by kernel_rfl) (by kernel_rfl) rfl ?_ ?_
  · simp only [ZR,h0,cond_true]
  · rfl
 | false =>
  refine fnS E0Ok Zb (c:=X0 f50) [] (.agg [.f .f32 ((Ze Y2 Yl).getD 0 default), .f .f32 ((Ze Y2 Yl).getD 1 default), .f .f32 ((Ze Y2 Yl).getD 2 default)]) [] func50 (p (sB h0<|sK [] sN)) rfl (by kernel_rfl) (by kernel_rfl) rfl ?_ ?_
  · simp only [ZR,h0,cond_false]
  · rfl
def Z2Z (YE:Nat):Nat:=(fcv .f64 .f32 (Z28 (fcv .f32 .f64 YE)))
theorem Z58 (YE:Nat)   : Fn prog 98 [.f .f32 YE] (.f .f32 (Z2Z YE)) []:=by
 have y0:X1K .f64 .f32 (Z28 (fcv .f32 .f64 YE))=true:=(X3U _)
 refine fnS E0Ok Zb (c:=X0 f98) [] (.f .f32 (fcv .f64 .f32 (Z28 (fcv .f32 .f64 YE)))) [] func98 (sC (X20 YE)<|sF (Z5b (fcv .f32 .f64 YE))<|sC y0<|sK [] sN) rfl (by kernel_rfl) (by kernel_rfl) rfl ?_ ?_
 · rfl
 · rfl
def Z1j (YK:Gv):Nat:=(Z2Z (Z1u YK YK))
theorem Z4A (YK:Gv)   : Fn prog 52 [.agg [.f .f32 YK.X, .f .f32 YK.Y, .f .f32 YK.Z]] (.f .f32 (Z1j YK)) []:=by
 refine fnS E0Ok Zb (c:=X0 f52) [] (.f .f32 (Z2Z (Z1u YK YK))) [] func52 (sF (Z3B YK YK)<|sF (Z58 (Z1u YK YK))<|sK [] sN) rfl (by kernel_rfl) (by kernel_rfl) rfl ?_ ?_
 · rfl
 · rfl
def Z2S (Yp:Nat) (Yq:Nat):Nat:=(fmax .f64 (fop .sub .f64 Yp Yq) (fop .sub .f64 Yq Yp))
theorem Z5V (Yp:Nat) (Yq:Nat)   : Fn prog 24 [.f .f64 Yp, .f .f64 Yq] (.f .f64 (Z2S Yp Yq)) []:=by
 refine fnS E0Ok Zb (c:=X0 f24) [] (.f .f64 (fmax .f64 (fop .sub .f64 Yp Yq) (fop .sub .f64 Yq Yp))) [] func24 (sK [] sN) rfl (by kernel_rfl) (by kernel_rfl) rfl ?_ ?_
 · rfl
 · rfl
def gmB:Gm:=⟨[⟨0,0,0⟩,⟨1073741824,0,0⟩,⟨0,1073741824,0⟩,⟨1073741824,1073741824,0⟩,⟨0,0,1073741824⟩,⟨1073741824,0,1073741824⟩,⟨0,1073741824,1073741824⟩,⟨1073741824,1073741824,1073741824⟩],[[0,2,3],[0,3,1],[4,5,7],[4,7,6],[0,1,5],[0,5,4],[2,6,7],[2,7,3],[0,4,6],[0,6,2],[1,3,7],[1,7,5]]⟩
def gm0:Gm:=⟨[⟨1073741824,0,0⟩,⟨3221225472,0,0⟩,⟨0,1073741824,0⟩,⟨0,3221225472,0⟩,⟨0,0,1073741824⟩,⟨0,0,3221225472⟩],[[0,2,4],[2,1,4],[1,3,4],[3,0,4],[2,0,5],[1,2,5],[3,1,5],[0,3,5]]⟩
def gm1:Gm:=⟨[⟨1073741824,0,0⟩,⟨3221225472,0,0⟩,⟨0,1073741824,0⟩,⟨0,3221225472,0⟩,⟨0,0,1073741824⟩,⟨0,0,3221225472⟩,⟨1068827891,1068827891,0⟩,⟨1068827891,3216311539,0⟩,⟨1068827891,0,1068827891⟩,⟨1068827891,0,3216311539⟩,⟨3216311539,1068827891,0⟩,⟨3216311539,3216311539,0⟩,⟨3216311539,0,1068827891⟩,⟨3216311539,0,3216311539⟩,⟨0,1068827891,1068827891⟩,⟨0,1068827891,3216311539⟩,⟨0,3216311539,1068827891⟩,⟨0,3216311539,3216311539⟩],[[0,6,8],[6,2,14],[8,14,4],[6,14,8],[2,10,14],[10,1,12],[14,12,4],[10,12,14],[1,11,12],[11,3,16],[12,16,4],[11,16,12],[3,7,16],[7,0,8],[16,8,4],[7,8,16],[2,6,15],[6,0,9],[15,9,5],[6,9,15],[1,10,13],[10,2,15],[13,15,5],[10,15,13],[3,11,17],[11,1,13],[17,13,5],[11,13,17],[0,7,9],[7,3,17],[9,17,5],[7,17,9]]⟩
theorem Z6T:Z5 2=gmB:=by kernel_rfl
theorem Z6U:Z5 3=gm0:=by kernel_rfl
theorem Z6V:Z5 4=gm1:=by kernel_rfl
theorem Z5T {c:List Int} (hc:OkB c):2≤IntKind.wrap .i64 (2 + Z4 c 0 3)∧IntKind.wrap .i64 (2 + Z4 c 0 3)≤4:=by
  have q:=Z5Z (k:=0) (n:=3) hc (by omega) (by omega)
  rw [XB (by omega) (by omega)];omega
theorem Z5r {k:Int} (h2:2≤k) (h4:k≤4):Z5 k=gmB∨Z5 k=gm0∨Z5 k=gm1:=by
  have:k=2∨k=3∨k=4:=by omega
  rcases this with rfl | rfl | rfl
  · exact .inl Z6T
  · exact .inr (.inl Z6U)
  · exact .inr (.inr Z6V)
theorem r8F {k:Int} (h2:2≤k) (h4:k≤4):6≤(Z5 k).Pq.length∧(Z5 k).Pq.length≤18∧(Z5 k).Tr.length≤32∧∀ t∈(Z5 k).Tr,t.length≤1073741824:=by
  rcases Z5r h2 h4 with e | e | e<;>rw [e]<;>decide +kernel
theorem Z4X (c:List Int) (m:Gm):(Z6 c m).Pq.length=m.Pq.length:=Z42 c m
theorem Z6m (c:List Int) (m:Gm):(Z6 c m).Tr=m.Tr:=rfl
theorem gasK (a:List Int) {c:List Int} (hc:OkB c):6≤(Z6 a (Z5 (IntKind.wrap .i64 (2 + Z4 c 0 3)))).Pq.length∧(Z6 a (Z5 (IntKind.wrap .i64 (2 + Z4 c 0 3)))).Pq.length≤18∧(Z6 a (Z5 (IntKind.wrap .i64 (2 + Z4 c 0 3)))).Tr.length≤32∧(∀ t∈(Z6 a (Z5 (IntKind.wrap .i64 (2 + Z4 c 0 3)))).Tr,t.length≤1073741824)
    ∧ 6≤(Z5 (IntKind.wrap .i64 (2 + Z4 c 0 3))).Pq.length∧(Z5 (IntKind.wrap .i64 (2 + Z4 c 0 3))).Pq.length≤18∧(Z5 (IntKind.wrap .i64 (2 + Z4 c 0 3))).Tr.length≤32∧∀ t∈(Z5 (IntKind.wrap .i64 (2 + Z4 c 0 3))).Tr,t.length≤1073741824:=by
  have q:=Z5T hc
  have f:=r8F q.1 q.2
  rw [Z4X,Z6m]
  exact ⟨f.1,f.2.1,f.2.2.1,f.2.2.2,f⟩
theorem gasP (a:List Int) {c:List Int} (hc:OkB c):0≤Z4 c 1 ((Z6 a (Z5 (IntKind.wrap .i64 (2 + Z4 c 0 3)))).Pq.length:Int)∧Z4 c 1 ((Z6 a (Z5 (IntKind.wrap .i64 (2 + Z4 c 0 3)))).Pq.length:Int) < ((Z6 a (Z5 (IntKind.wrap .i64 (2 + Z4 c 0 3)))).Pq.length:Int):=by
  have f:=gasK a hc
  exact Z5Z hc (by omega) (by omega)
theorem Z7c (a:List Int) {c:List Int} (hc:OkB c):(Z6 a (Z5 (IntKind.wrap .i64 (2 + Z4 c 0 3)))).Pq≠[]:=by
  have f:=gasK a hc
  intro h
  rw [h] at f
  simp at f
def Z1L (Ya:(List Int)) (Y6:(List Int)):Gv × Bool:=(Z16 (Z6 Ya (Z5 (IntKind.wrap .i64 (2 + (Z4 Y6 0 3))))) ((Zd (Z6 Ya (Z5 (IntKind.wrap .i64 (2 + (Z4 Y6 0 3))))) 1065353216).1))
def Z1w (Ya:(List Int)) (Y6:(List Int)):Gv:=(Zi ((([]:List Gv) ++ (Z6 Ya (Z5 (IntKind.wrap .i64 (2 + (Z4 Y6 0 3))))).Pq).getD ((Z4 Y6 1 (((Z6 Ya (Z5 (IntKind.wrap .i64 (2 + (Z4 Y6 0 3))))).Pq).length:Int)).toNat) default) (ZR Y6 2))
def Z2k (Ya:(List Int)) (Y6:(List Int)):Nat × Bool:=(ZI (⟨((([]:List Gv) ++ (Z6 Ya (Z5 (IntKind.wrap .i64 (2 + (Z4 Y6 0 3))))).Pq).set ((Z4 Y6 1 (((Z6 Ya (Z5 (IntKind.wrap .i64 (2 + (Z4 Y6 0 3))))).Pq).length:Int)).toNat) (Z1w Ya Y6)),(Z6 Ya (Z5 (IntKind.wrap .i64 (2 + (Z4 Y6 0 3))))).Tr⟩:Gm))
def Z41 (Ya:(List Int)) (Y6:(List Int)):Nat:=(fcv .f32 .f64 (Z1j ((ZP ((Zd (Z6 Ya (Z5 (IntKind.wrap .i64 (2 + (Z4 Y6 0 3))))) 1065353216).1)).1)))
def Z30 (Ya:(List Int)) (Y6:(List Int)):Nat:=(fop .sub .f64 (fcv .f32 .f64 ((Z2k Ya Y6).1)) (fcv .f32 .f64 ((ZI (Z6 Ya (Z5 (IntKind.wrap .i64 (2 + (Z4 Y6 0 3)))))).1)))
def Z2l (Ya:(List Int)) (Y6:(List Int)):Nat:=(Z1u (((Zd (Z6 Ya (Z5 (IntKind.wrap .i64 (2 + (Z4 Y6 0 3))))) 1065353216).1).getD ((Z4 Y6 1 (((Z6 Ya (Z5 (IntKind.wrap .i64 (2 + (Z4 Y6 0 3))))).Pq).length:Int)).toNat) default) (ZR Y6 2))
def ZX (Ya:(List Int)) (Y6:(List Int)):Bool:=(cond (Z1E Ya Y6)
  true
  (cond (Zd (Z6 Ya (Z5 (IntKind.wrap .i64 (2 + (Z4 Y6 0 3))))) 1065353216).2
    (cond (ZI (Z6 Ya (Z5 (IntKind.wrap .i64 (2 + (Z4 Y6 0 3)))))).2
      (cond (ZW (Z6 Ya (Z5 (IntKind.wrap .i64 (2 + (Z4 Y6 0 3))))))
        (cond ((((Zd (Z6 Ya (Z5 (IntKind.wrap .i64 (2 + (Z4 Y6 0 3))))) 1065353216).1).length:Int) != (((Z6 Ya (Z5 (IntKind.wrap .i64 (2 + (Z4 Y6 0 3))))).Pq).length:Int))
          false
          (cond (ZP ((Zd (Z6 Ya (Z5 (IntKind.wrap .i64 (2 + (Z4 Y6 0 3))))) 1065353216).1)).2
            (cond (Z1L Ya Y6).2
              (cond (Z2k Ya Y6).2
                (cond (fcmp .lss .f64 (Z41 Ya Y6) 4562254508917369340)
                  (cond (fcmp .lss .f64 (fcv .f32 .f64 (Z1j ((Z1L Ya Y6).1))) 4562254508917369340)
                    (fcmp .lss .f64 (Z2S (Z30 Ya Y6) (fcv .f32 .f64 (Z2l Ya Y6))) 4566758108544739836)
                    false)
                  false)
                false)
              false)
            false))
        false)
      false)
    false))
set_option maxHeartbeats 1000000 in
theorem Z5D (Ya:(List Int)) (Y6:(List Int)) (hp0:Ya.length≤9223372036854775807) (hp1:Y6.length≤9223372036854775807) (hp2:OkB Ya) (hp3:OkB Y6)  : Fn prog 7 [.sl (Ya.map (cI .u8)), .sl (Y6.map (cI .u8))] (.b (ZX Ya Y6)) []:=by
 have p {a C} (s:Scr a C):=sF (Z5N Ya Y6 hp0 hp1)<|s
 cases h0:(Z1E Ya Y6) with
 | true =>
  refine fnS E0Ok Zb (c:=X0 f7) [] (.b true) [] func7 (p (sB h0<|sK [] sN)) rfl (by kernel_rfl) (by kernel_rfl) rfl ?_ ?_
  · simp only [ZX,h0,cond_true]
  · rfl
 | false =>
  have y0:Y6.length≤1073741824:=by clear p;exact (by have q:=Z5I h0;omega)
  have y1:(0:Int)≤0:=by clear p;exact (by omega)
  have y2:(2:Int)≤(IntKind.wrap .i64 (2 + (Z4 Y6 0 3))):=by clear p;exact (by exact (Z5T hp3).1)
  have y3:(IntKind.wrap .i64 (2 + (Z4 Y6 0 3)))≤4:=by clear p;exact (by exact (Z5T hp3).2)
  have y4:Ya.length≤1073741824:=by clear p;exact (by have q:=Z5I h0;omega)
  have y5:(Z5 (IntKind.wrap .i64 (2 + (Z4 Y6 0 3)))).Pq.length≤1073741824:=by clear p;exact (by obtain ⟨q1,q2,q3,_,q5,q6,q7,_⟩:=gasK Ya hp3;omega)
  have y6:(Z5 (IntKind.wrap .i64 (2 + (Z4 Y6 0 3)))).Tr.length≤1073741824:=by clear p;exact (by obtain ⟨q1,q2,q3,_,q5,q6,q7,_⟩:=gasK Ya hp3;omega)
  have y7:∀ t∈(Z5 (IntKind.wrap .i64 (2 + (Z4 Y6 0 3)))).Tr,t.length≤1073741824:=by clear p;exact (by obtain ⟨q1,q2,q3,_,q5,q6,q7,_⟩:=gasK Ya hp3;omega)
  have y8:(Z6 Ya (Z5 (IntKind.wrap .i64 (2 + (Z4 Y6 0 3))))).Pq.length≤1073741824:=by clear p;exact (by obtain ⟨q1,q2,q3,_,q5,q6,q7,_⟩:=gasK Ya hp3;omega)
  have y9:(Z6 Ya (Z5 (IntKind.wrap .i64 (2 + (Z4 Y6 0 3))))).Tr.length≤1073741824:=by clear p;exact (by assumption)
  have y10:∀ t∈(Z6 Ya (Z5 (IntKind.wrap .i64 (2 + (Z4 Y6 0 3))))).Tr,t.length≤1073741824:=by clear p;exact (by assumption)
  have l1:=(Z4l (Z6 Ya (Z5 (IntKind.wrap .i64 (2 + (Z4 Y6 0 3))))) 1065353216)
  have q {a C} (s:Scr a C):=p (sB h0<|sF (Z5a Y6 0 3 y0 y1)<|sW .i64 (2 + (Z4 Y6 0 3))<|sF (Z5R (IntKind.wrap .i64 (2 + (Z4 Y6 0 3))) y2 y3)<|sF (Fn.castA (args':=[.sl (Ya.map (cI .u8)), .agg [.sl (((Z5 (IntKind.wrap .i64 (2 + (Z4 Y6 0 3)))).Pq).map Gv.c), .sl ((((Z5 (IntKind.wrap .i64 (2 + (Z4 Y6 0 3)))).Tr).map fun l=>l.map (cI .i64)).map fun l => [.sl l])]]) (Z5A Ya (Z5 (IntKind.wrap .i64 (2 + (Z4 Y6 0 3)))) y4 y5 y6 y7) (by simp [cL,Function.comp_def];done))<|sF (Fn.castA (args':=[.agg [.sl (((Z6 Ya (Z5 (IntKind.wrap .i64 (2 + (Z4 Y6 0 3))))).Pq).map Gv.c), .sl ((((Z6 Ya (Z5 (IntKind.wrap .i64 (2 + (Z4 Y6 0 3))))).Tr).map fun l=>l.map (cI .i64)).map fun l => [.sl l])], .f .f32 1065353216]) (Z5f (Z6 Ya (Z5 (IntKind.wrap .i64 (2 + (Z4 Y6 0 3))))) 1065353216 y8 y9 y10) (by simp [cL,Function.comp_def];done))<|sF (Fn.castA (args':=[.agg [.sl (((Z6 Ya (Z5 (IntKind.wrap .i64 (2 + (Z4 Y6 0 3))))).Pq).map Gv.c), .sl ((((Z6 Ya (Z5 (IntKind.wrap .i64 (2 + (Z4 Y6 0 3))))).Tr).map fun l=>l.map (cI .i64)).map fun l => [.sl l])]]) (Z4e (Z6 Ya (Z5 (IntKind.wrap .i64 (2 + (Z4 Y6 0 3))))) y8 y9 y10) (by simp [cL,Function.comp_def];done))<|s)
  clear p
  cases h1:(Zd (Z6 Ya (Z5 (IntKind.wrap .i64 (2 + (Z4 Y6 0 3))))) 1065353216).2 with
  | true =>
   have p {a C} (s:Scr a C):=q (sB' h1<|sB' h1<|sB' h1<|s)
   clear q
   cases h2:(ZI (Z6 Ya (Z5 (IntKind.wrap .i64 (2 + (Z4 Y6 0 3)))))).2 with
   | true =>
    have q {a C} (s:Scr a C):=p (sB' h2<|sB' h2<|sF (Fn.castA (args':=[.agg [.sl (((Z6 Ya (Z5 (IntKind.wrap .i64 (2 + (Z4 Y6 0 3))))).Pq).map Gv.c), .sl ((((Z6 Ya (Z5 (IntKind.wrap .i64 (2 + (Z4 Y6 0 3))))).Tr).map fun l=>l.map (cI .i64)).map fun l => [.sl l])]]) (Z5l (Z6 Ya (Z5 (IntKind.wrap .i64 (2 + (Z4 Y6 0 3))))) y8 y9 y10) (by simp [cL,Function.comp_def];done))<|sB' h2<|sB' h2<|s)
    clear p
    cases h3:(ZW (Z6 Ya (Z5 (IntKind.wrap .i64 (2 + (Z4 Y6 0 3)))))) with
    | true =>
     have p {a C} (s:Scr a C):=q (sB' h3<|sB' h3<|sZ Gv.c ((Zd (Z6 Ya (Z5 (IntKind.wrap .i64 (2 + (Z4 Y6 0 3))))) 1065353216).1)<|sB' h3<|sB' h3<|sB' h3<|sZ Gv.c ((Z6 Ya (Z5 (IntKind.wrap .i64 (2 + (Z4 Y6 0 3))))).Pq)<|sB' h3<|sB' h3<|s)
     clear q
     cases h4:((((Zd (Z6 Ya (Z5 (IntKind.wrap .i64 (2 + (Z4 Y6 0 3))))) 1065353216).1).length:Int) != (((Z6 Ya (Z5 (IntKind.wrap .i64 (2 + (Z4 Y6 0 3))))).Pq).length:Int)) with
     | true =>
      have gh4:=bne_iff_ne.1 h4
      refine fnS E0Ok Zb (c:=X0 f7) [] (.b false) [] func7 (p (sB h4<|sK [] sN)) rfl (by kernel_rfl) (by kernel_rfl) rfl ?_ ?_
      · simp only [ZX,h0,h1,h2,h3,h4,cond_true,cond_false]
      · rfl
     | false =>
      have gh4:=bne_eq_false_iff_eq.1 h4
      have y11:((Zd (Z6 Ya (Z5 (IntKind.wrap .i64 (2 + (Z4 Y6 0 3))))) 1065353216).1).length≤1073741824:=by clear p;exact (by omega)
      have y12:(0:Int)≤1:=by clear p;exact (by omega)
      have y13:(0:Int)≤2:=by clear p;exact (by omega)
      have y14:2≤(1000:Int):=by clear p;exact (by omega)
      have y15:([]:List Gv).length + ((Z6 Ya (Z5 (IntKind.wrap .i64 (2 + (Z4 Y6 0 3))))).Pq).length≤1073741824:=by clear p;exact (by simp_all<;>omega)
      have y16:(0:Int)≤(Z4 Y6 1 (((Z6 Ya (Z5 (IntKind.wrap .i64 (2 + (Z4 Y6 0 3))))).Pq).length:Int)):=by clear p;exact (by (obtain ⟨q1,q2,q3,_,q5,q6,q7,_⟩:=gasK Ya hp3;have q8:=gasP Ya hp3;omega))
      have y17:(Z4 Y6 1 (((Z6 Ya (Z5 (IntKind.wrap .i64 (2 + (Z4 Y6 0 3))))).Pq).length:Int)) < ((([]:List Gv) ++ (Z6 Ya (Z5 (IntKind.wrap .i64 (2 + (Z4 Y6 0 3))))).Pq).length:Int):=by clear p;exact (by ((obtain ⟨q1,q2,q3,_,q5,q6,q7,_⟩:=gasK Ya hp3;have q8:=gasP Ya hp3;(simp only [List.nil_append,List.length_set];omega))))
      have y18:(Z4 Y6 1 (((Z6 Ya (Z5 (IntKind.wrap .i64 (2 + (Z4 Y6 0 3))))).Pq).length:Int)).toNat < (([]:List Gv) ++ (Z6 Ya (Z5 (IntKind.wrap .i64 (2 + (Z4 Y6 0 3))))).Pq).length:=by clear p;exact (by omega)
      have y19:(⟨((([]:List Gv) ++ (Z6 Ya (Z5 (IntKind.wrap .i64 (2 + (Z4 Y6 0 3))))).Pq).set ((Z4 Y6 1 (((Z6 Ya (Z5 (IntKind.wrap .i64 (2 + (Z4 Y6 0 3))))).Pq).length:Int)).toNat) (Z1w Ya Y6)),(Z6 Ya (Z5 (IntKind.wrap .i64 (2 + (Z4 Y6 0 3))))).Tr⟩:Gm).Pq.length≤1073741824:=by clear p;exact (by obtain ⟨q1,q2,q3,_,q5,q6,q7,_⟩:=gasK Ya hp3;have q8:=gasP Ya hp3;(simp only [List.nil_append,List.length_set];omega))
      have y20:(⟨((([]:List Gv) ++ (Z6 Ya (Z5 (IntKind.wrap .i64 (2 + (Z4 Y6 0 3))))).Pq).set ((Z4 Y6 1 (((Z6 Ya (Z5 (IntKind.wrap .i64 (2 + (Z4 Y6 0 3))))).Pq).length:Int)).toNat) (Z1w Ya Y6)),(Z6 Ya (Z5 (IntKind.wrap .i64 (2 + (Z4 Y6 0 3))))).Tr⟩:Gm).Tr.length≤1073741824:=by clear p;exact (by assumption)
      have y21:∀ t∈(⟨((([]:List Gv) ++ (Z6 Ya (Z5 (IntKind.wrap .i64 (2 + (Z4 Y6 0 3))))).Pq).set ((Z4 Y6 1 (((Z6 Ya (Z5 (IntKind.wrap .i64 (2 + (Z4 Y6 0 3))))).Pq).length:Int)).toNat) (Z1w Ya Y6)),(Z6 Ya (Z5 (IntKind.wrap .i64 (2 + (Z4 Y6 0 3))))).Tr⟩:Gm).Tr,t.length≤1073741824:=by clear p;exact (by assumption)
      have q {a C} (s:Scr a C):=p (sB h4<|sF (Z5o ((Zd (Z6 Ya (Z5 (IntKind.wrap .i64 (2 + (Z4 Y6 0 3))))) 1065353216).1) y11)<|sF (Fn.castA (args':=[.agg [.sl (((Z6 Ya (Z5 (IntKind.wrap .i64 (2 + (Z4 Y6 0 3))))).Pq).map Gv.c), .sl ((((Z6 Ya (Z5 (IntKind.wrap .i64 (2 + (Z4 Y6 0 3))))).Tr).map fun l=>l.map (cI .i64)).map fun l => [.sl l])], .sl (((Zd (Z6 Ya (Z5 (IntKind.wrap .i64 (2 + (Z4 Y6 0 3))))) 1065353216).1).map Gv.c)]) (Z5p (Z6 Ya (Z5 (IntKind.wrap .i64 (2 + (Z4 Y6 0 3))))) ((Zd (Z6 Ya (Z5 (IntKind.wrap .i64 (2 + (Z4 Y6 0 3))))) 1065353216).1) y8 y9 y10 y11) (by simp [cL,Function.comp_def];done))<|sZ Gv.c ((Z6 Ya (Z5 (IntKind.wrap .i64 (2 + (Z4 Y6 0 3))))).Pq)<|sF (Z5a Y6 1 (((Z6 Ya (Z5 (IntKind.wrap .i64 (2 + (Z4 Y6 0 3))))).Pq).length:Int) y0 y12)<|sF (Z5q Y6 2 y0 y13 y14)<|sK [8,8]<|sC (show (((Z6 Ya (Z5 (IntKind.wrap .i64 (2 + (Z4 Y6 0 3))))).Pq).map Gv.c)≠[] from (by have q:((Z6 Ya (Z5 (IntKind.wrap .i64 (2 + (Z4 Y6 0 3))))).Pq)≠[]:=(by exact Z7c Ya hp3);(simpa using q;done)))<|sC (show ([]:List (List AV)).length + (((Z6 Ya (Z5 (IntKind.wrap .i64 (2 + (Z4 Y6 0 3))))).Pq).map Gv.c).length≤1073741824 from (by simpa using y15))<|sK [10,10]<|sC (show 0≤(Z4 Y6 1 (((Z6 Ya (Z5 (IntKind.wrap .i64 (2 + (Z4 Y6 0 3))))).Pq).length:Int))∧Int.toNat (Z4 Y6 1 (((Z6 Ya (Z5 (IntKind.wrap .i64 (2 + (Z4 Y6 0 3))))).Pq).length:Int)) < (([]:List (List AV)) ++ (((Z6 Ya (Z5 (IntKind.wrap .i64 (2 + (Z4 Y6 0 3))))).Pq).map Gv.c)).length from (by simpa using X30 (c:=Gv.c) (l:=(([]:List Gv) ++ (Z6 Ya (Z5 (IntKind.wrap .i64 (2 + (Z4 Y6 0 3))))).Pq)) (i:=(Z4 Y6 1 (((Z6 Ya (Z5 (IntKind.wrap .i64 (2 + (Z4 Y6 0 3))))).Pq).length:Int))) y16 y17))<|sE (show (([]:List (List AV)) ++ (((Z6 Ya (Z5 (IntKind.wrap .i64 (2 + (Z4 Y6 0 3))))).Pq).map Gv.c))[(Z4 Y6 1 (((Z6 Ya (Z5 (IntKind.wrap .i64 (2 + (Z4 Y6 0 3))))).Pq).length:Int)).toNat]? = some [.f .f32 (((([]:List Gv) ++ (Z6 Ya (Z5 (IntKind.wrap .i64 (2 + (Z4 Y6 0 3))))).Pq).getD ((Z4 Y6 1 (((Z6 Ya (Z5 (IntKind.wrap .i64 (2 + (Z4 Y6 0 3))))).Pq).length:Int)).toNat) default).X), .f .f32 (((([]:List Gv) ++ (Z6 Ya (Z5 (IntKind.wrap .i64 (2 + (Z4 Y6 0 3))))).Pq).getD ((Z4 Y6 1 (((Z6 Ya (Z5 (IntKind.wrap .i64 (2 + (Z4 Y6 0 3))))).Pq).length:Int)).toNat) default).Y), .f .f32 (((([]:List Gv) ++ (Z6 Ya (Z5 (IntKind.wrap .i64 (2 + (Z4 Y6 0 3))))).Pq).getD ((Z4 Y6 1 (((Z6 Ya (Z5 (IntKind.wrap .i64 (2 + (Z4 Y6 0 3))))).Pq).length:Int)).toNat) default).Z)] from (by have q:=X2s (c:=Gv.c) (l:=(([]:List Gv) ++ (Z6 Ya (Z5 (IntKind.wrap .i64 (2 + (Z4 Y6 0 3))))).Pq)) (k:=(Z4 Y6 1 (((Z6 Ya (Z5 (IntKind.wrap .i64 (2 + (Z4 Y6 0 3))))).Pq).length:Int)).toNat) y18;(simp only [List.map_set,List.map_append,List.map_cons,List.map_nil,List.map_replicate] at q;exact q)))<|sF (Z2X ((([]:List Gv) ++ (Z6 Ya (Z5 (IntKind.wrap .i64 (2 + (Z4 Y6 0 3))))).Pq).getD ((Z4 Y6 1 (((Z6 Ya (Z5 (IntKind.wrap .i64 (2 + (Z4 Y6 0 3))))).Pq).length:Int)).toNat) default) (ZR Y6 2))<|sC (show 0≤(Z4 Y6 1 (((Z6 Ya (Z5 (IntKind.wrap .i64 (2 + (Z4 Y6 0 3))))).Pq).length:Int))∧Int.toNat (Z4 Y6 1 (((Z6 Ya (Z5 (IntKind.wrap .i64 (2 + (Z4 Y6 0 3))))).Pq).length:Int)) < (([]:List (List AV)) ++ (((Z6 Ya (Z5 (IntKind.wrap .i64 (2 + (Z4 Y6 0 3))))).Pq).map Gv.c)).length from (by simpa using X30 (c:=Gv.c) (l:=(([]:List Gv) ++ (Z6 Ya (Z5 (IntKind.wrap .i64 (2 + (Z4 Y6 0 3))))).Pq)) (i:=(Z4 Y6 1 (((Z6 Ya (Z5 (IntKind.wrap .i64 (2 + (Z4 Y6 0 3))))).Pq).length:Int))) y16 y17))<|sC (show (Z4 Y6 1 (((Z6 Ya (Z5 (IntKind.wrap .i64 (2 + (Z4 Y6 0 3))))).Pq).length:Int)).toNat < (([]:List (List AV)) ++ (((Z6 Ya (Z5 (IntKind.wrap .i64 (2 + (Z4 Y6 0 3))))).Pq).map Gv.c)).length from (by simpa using y18))<|sF (Fn.castA (args':=[.agg [.sl ((([]:List (List AV)) ++ (((Z6 Ya (Z5 (IntKind.wrap .i64 (2 + (Z4 Y6 0 3))))).Pq).map Gv.c)).set ((Z4 Y6 1 (((Z6 Ya (Z5 (IntKind.wrap .i64 (2 + (Z4 Y6 0 3))))).Pq).length:Int)).toNat) [.f .f32 ((Z1w Ya Y6).X), .f .f32 ((Z1w Ya Y6).Y), .f .f32 ((Z1w Ya Y6).Z)]), .sl ((((Z6 Ya (Z5 (IntKind.wrap .i64 (2 + (Z4 Y6 0 3))))).Tr).map fun l=>l.map (cI .i64)).map fun l => [.sl l])]]) (Z4e (⟨((([]:List Gv) ++ (Z6 Ya (Z5 (IntKind.wrap .i64 (2 + (Z4 Y6 0 3))))).Pq).set ((Z4 Y6 1 (((Z6 Ya (Z5 (IntKind.wrap .i64 (2 + (Z4 Y6 0 3))))).Pq).length:Int)).toNat) (Z1w Ya Y6)),(Z6 Ya (Z5 (IntKind.wrap .i64 (2 + (Z4 Y6 0 3))))).Tr⟩:Gm) y19 y20 y21) (by simp [Gv.c,cL,Function.comp_def];done))<|sK [32,32]<|s)
      clear p
      cases h5:(ZP ((Zd (Z6 Ya (Z5 (IntKind.wrap .i64 (2 + (Z4 Y6 0 3))))) 1065353216).1)).2 with
      | true =>
       have p {a C} (s:Scr a C):=q (sB h5<|sB h5<|s)
       clear q
       cases h6:(Z1L Ya Y6).2 with
       | true =>
        have q {a C} (s:Scr a C):=p (sB h6<|sB h6<|s)
        clear p
        cases h7:(Z2k Ya Y6).2 with
        | true =>
         have p {a C} (s:Scr a C):=q (sB h7<|sB h7<|sF (Z4A ((ZP ((Zd (Z6 Ya (Z5 (IntKind.wrap .i64 (2 + (Z4 Y6 0 3))))) 1065353216).1)).1))<|sB h7<|sC (X20 (Z1j ((ZP ((Zd (Z6 Ya (Z5 (IntKind.wrap .i64 (2 + (Z4 Y6 0 3))))) 1065353216).1)).1)))<|sB h7<|sB h7<|s)
         clear q
         cases h8:(fcmp .lss .f64 (Z41 Ya Y6) 4562254508917369340) with
         | true =>
          have q {a C} (s:Scr a C):=p (sB h8<|sB h8<|sF (Z4A ((Z1L Ya Y6).1))<|sB h8<|sC (X20 (Z1j ((Z1L Ya Y6).1)))<|sB h8<|sB h8<|s)
          clear p
          cases h9:(fcmp .lss .f64 (fcv .f32 .f64 (Z1j ((Z1L Ya Y6).1))) 4562254508917369340) with
          | true =>
           have y22:(Z4 Y6 1 (((Z6 Ya (Z5 (IntKind.wrap .i64 (2 + (Z4 Y6 0 3))))).Pq).length:Int)) < (((Zd (Z6 Ya (Z5 (IntKind.wrap .i64 (2 + (Z4 Y6 0 3))))) 1065353216).1).length:Int):=by clear q;exact (by (obtain ⟨q1,q2,q3,_,q5,q6,q7,_⟩:=gasK Ya hp3;have q8:=gasP Ya hp3;omega))
           have y23:(Z4 Y6 1 (((Z6 Ya (Z5 (IntKind.wrap .i64 (2 + (Z4 Y6 0 3))))).Pq).length:Int)).toNat < ((Zd (Z6 Ya (Z5 (IntKind.wrap .i64 (2 + (Z4 Y6 0 3))))) 1065353216).1).length:=by clear q;exact (by omega)
           refine fnS E0Ok Zb (c:=X0 f7) [] (.b (fcmp .lss .f64 (Z2S (Z30 Ya Y6) (fcv .f32 .f64 (Z2l Ya Y6))) 4566758108544739836)) [] func7 (q (sB h9<|sB h9<|sC (X20 ((Z2k Ya Y6).1))<|sB h9<|sB h9<|sC (X20 ((ZI (Z6 Ya (Z5 (IntKind.wrap .i64 (2 + (Z4 Y6 0 3)))))).1))<|sB h9<|sB h9<|sB h9<|sB h9<|sX Gv.c ((Zd (Z6 Ya (Z5 (IntKind.wrap .i64 (2 + (Z4 Y6 0 3))))) 1065353216).1) (Z4 Y6 1 (((Z6 Ya (Z5 (IntKind.wrap .i64 (2 + (Z4 Y6 0 3))))).Pq).length:Int)) y16 y22<|sB h9<|sV Gv.c ((Zd (Z6 Ya (Z5 (IntKind.wrap .i64 (2 + (Z4 Y6 0 3))))) 1065353216).1) ((Z4 Y6 1 (((Z6 Ya (Z5 (IntKind.wrap .i64 (2 + (Z4 Y6 0 3))))).Pq).length:Int)).toNat) y23<|sB h9<|sB h9<|sF (Z3B (((Zd (Z6 Ya (Z5 (IntKind.wrap .i64 (2 + (Z4 Y6 0 3))))) 1065353216).1).getD ((Z4 Y6 1 (((Z6 Ya (Z5 (IntKind.wrap .i64 (2 + (Z4 Y6 0 3))))).Pq).length:Int)).toNat) default) (ZR Y6 2))<|sB h9<|sC (X20 (Z2l Ya Y6))<|sB h9<|sF (Z5V (Z30 Ya Y6) (fcv .f32 .f64 (Z2l Ya Y6)))<|sB h9<|sB h9<|sK [] sN)) rfl (by kernel_rfl) (by kernel_rfl) rfl ?_ ?_
           · simp only [ZX,h0,h1,h2,h3,h4,h5,h6,h7,h8,h9,cond_true,cond_false]
           · rfl
          | false =>
           refine fnS E0Ok Zb (c:=X0 f7) [] (.b false) [] func7 (q (sB h9<|sB h9<|sB h9<|sB h9<|sB h9<|sB h9<|sB h9<|sB h9<|sB h9<|sB h9<|sB h9<|sB h9<|sB h9<|sB h9<|sB h9<|sK [] sN)) rfl (by kernel_rfl) (by kernel_rfl) rfl ?_ ?_
           · simp only [ZX,h0,h1,h2,h3,h4,h5,h6,h7,h8,h9,cond_true,cond_false]
           · rfl
         | false =>
          refine fnS E0Ok Zb (c:=X0 f7) [] (.b false) [] func7 (p (sB h8<|sB h8<|sB h8<|sB h8<|sB h8<|sB (show false=false from rfl)<|sB (show false=false from rfl)<|sB (show false=false from rfl)<|sB (show false=false from rfl)<|sB (show false=false from rfl)<|sB (show false=false from rfl)<|sB (show false=false from rfl)<|sB (show false=false from rfl)<|sB (show false=false from rfl)<|sB (show false=false from rfl)<|sB (show false=false from rfl)<|sB (show false=false from rfl)<|sB (show false=false from rfl)<|sB (show false=false from rfl)<|sB (show false=false from rfl)<|sK [] sN)) rfl (by kernel_rfl) (by kernel_rfl) rfl ?_ ?_
          · simp only [ZX,h0,h1,h2,h3,h4,h5,h6,h7,h8,cond_true,cond_false]
          · rfl
        | false =>
         refine fnS E0Ok Zb (c:=X0 f7) [] (.b false) [] func7 (q (sB h7<|sB h7<|sB h7<|sB h7<|sB h7<|sB (show false=false from rfl)<|sB (show false=false from rfl)<|sB (show false=false from rfl)<|sB (show false=false from rfl)<|sB (show false=false from rfl)<|sB (show false=false from rfl)<|sB (show false=false from rfl)<|sB (show false=false from rfl)<|sB (show false=false from rfl)<|sB (show false=false from rfl)<|sB (show false=false from rfl)<|sB (show false=false from rfl)<|sB (show false=false from rfl)<|sB (show false=false from rfl)<|sB (show false=false from rfl)<|sB (show false=false from rfl)<|sB (show false=false from rfl)<|sB (show false=false from rfl)<|sB (show false=false from rfl)<|sB (show false=false from rfl)<|sK [] sN)) rfl (by kernel_rfl) (by kernel_rfl) rfl ?_ ?_
         · simp only [ZX,h0,h1,h2,h3,h4,h5,h6,h7,cond_true,cond_false]
         · rfl
       | false =>
        refine fnS E0Ok Zb (c:=X0 f7) [] (.b false) [] func7 (p (sB h6<|sB h6<|sB (show false=false from rfl)<|sB (show false=false from rfl)<|sB (show false=false from rfl)<|sB (show false=false from rfl)<|sB (show false=false from rfl)<|sB (show false=false from rfl)<|sB (show false=false from rfl)<|sB (show false=false from rfl)<|sB (show false=false from rfl)<|sB (show false=false from rfl)<|sB (show false=false from rfl)<|sB (show false=false from rfl)<|sB (show false=false from rfl)<|sB (show false=false from rfl)<|sB (show false=false from rfl)<|sB (show false=false from rfl)<|sB (show false=false from rfl)<|sB (show false=false from rfl)<|sB (show false=false from rfl)<|sB (show false=false from rfl)<|sB (show false=false from rfl)<|sB (show false=false from rfl)<|sB (show false=false from rfl)<|sB (show false=false from rfl)<|sB (show false=false from rfl)<|sK [] sN)) rfl (by kernel_rfl) (by kernel_rfl) rfl ?_ ?_
        · simp only [ZX,h0,h1,h2,h3,h4,h5,h6,cond_true,cond_false]
        · rfl
      | false =>
       refine fnS E0Ok Zb (c:=X0 f7) [] (.b false) [] func7 (q (sB h5<|sB h5<|sB (show false=false from rfl)<|sB (show false=false from rfl)<|sB (show false=false from rfl)<|sB (show false=false from rfl)<|sB (show false=false from rfl)<|sB (show false=false from rfl)<|sB (show false=false from rfl)<|sB (show false=false from rfl)<|sB (show false=false from rfl)<|sB (show false=false from rfl)<|sB (show false=false from rfl)<|sB (show false=false from rfl)<|sB (show false=false from rfl)<|sB (show false=false from rfl)<|sB (show false=false from rfl)<|sB (show false=false from rfl)<|sB (show false=false from rfl)<|sB (show false=false from rfl)<|sB (show false=false from rfl)<|sB (show false=false from rfl)<|sB (show false=false from rfl)<|sB (show false=false from rfl)<|sB (show false=false from rfl)<|sB (show false=false from rfl)<|sB (show false=false from rfl)<|sB (show false=false from rfl)<|sB (show false=false from rfl)<|sK [] sN)) rfl (by kernel_rfl) (by kernel_rfl) rfl ?_ ?_
       · simp only [ZX,h0,h1,h2,h3,h4,h5,cond_true,cond_false]
       · rfl
    | false =>
     refine fnS E0Ok Zb (c:=X0 f7) [] (.b false) [] func7 (q (sB' h3<|sB' h3<|sB' h3<|sB' h3<|sB' h3<|sB' h3<|sB' h3<|sB (show true=true from rfl)<|sK [] sN)) rfl (by kernel_rfl) (by kernel_rfl) rfl ?_ ?_
     · simp only [ZX,h0,h1,h2,h3,cond_true,cond_false]
     · rfl
   | false =>
    refine fnS E0Ok Zb (c:=X0 f7) [] (.b false) [] func7 (p (sB' h2<|sB' h2<|sB' h2<|sB' h2<|sB (show true=true from rfl)<|sB (show true=true from rfl)<|sB (show true=true from rfl)<|sB (show true=true from rfl)<|sB (show true=true from rfl)<|sB (show true=true from rfl)<|sB (show true=true from rfl)<|sB (show true=true from rfl)<|sK [] sN)) rfl (by kernel_rfl) (by kernel_rfl) rfl ?_ ?_
    · simp only [ZX,h0,h1,h2,cond_true,cond_false]
    · rfl
  | false =>
   refine fnS E0Ok Zb (c:=X0 f7) [] (.b false) [] func7 (q (sB' h1<|sB' h1<|sB' h1<|sB (show true=true from rfl)<|sB (show true=true from rfl)<|sB (show true=true from rfl)<|sB (show true=true from rfl)<|sB (show true=true from rfl)<|sB (show true=true from rfl)<|sB (show true=true from rfl)<|sB (show true=true from rfl)<|sB (show true=true from rfl)<|sB (show true=true from rfl)<|sB (show true=true from rfl)<|sB (show true=true from rfl)<|sK [] sN)) rfl (by kernel_rfl) (by kernel_rfl) rfl ?_ ?_
   · simp only [ZX,h0,h1,cond_false]
   · rfl
end Go.Ab
