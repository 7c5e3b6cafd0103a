/- The functions of this seat as plain Lean, and that the program's are these. Printed by a program of the prover's own. -/
import Derived.Test.YtiddhiepmakopaaB2
set_option linter.unusedVariables false
set_option linter.unusedSimpArgs false
set_option maxRecDepth 100000
namespace Go.Ab
open Go.RowKit Go.Proofs.Try
def Zj (Y0:Gm) (Y1:Int) (Ya:(List (Gedge × List Int))) (Yd:(List Gedge)):(List (Gedge × List Int)) × (List Gedge):=(Z4 Y0 Y1 Ya Yd (((3:Int) - 0).toNat + 1) 0 Ya Yd)
theorem Z5U (m:Gm) (i:Int) (b0:List (Gedge × List Int)) (l0:List Gedge) (h0:0≤i):∀ (k:Nat) (x:Int) (b:List (Gedge × List Int)) (l:List Gedge),0≤x→(3 - x).toNat < k→x≤3→(l.length:Int)≤3 * i + x→(∀ y∈b,(y.2.length:Int)≤3 * i + x)→((Z4 m i b0 l0 k x b l).2.length:Int)≤3 * (i + 1)∧∀ y∈(Z4 m i b0 l0 k x b l).1,(y.2.length:Int)≤3 * (i + 1):=by
  intro k
  induction k with
  | zero=>intro x b l _ hk;exact absurd hk (Nat.not_lt_zero _)
  | succ k ih =>
    intro x b l hx hk h3 hl hb
    rw [Z4]
    cases hc:decide (x < 3) with
    | false=>rw [cond_false];exact ⟨by simp only;omega,fun y hy=>by have:=hb y hy;omega⟩
    | true =>
      have hc':=odt hc
      rw [cond_true]
      cases mhas b (Z0 m i x) with
      | true =>
        rw [cond_true]
        cases (((b.getD (midx b (Z0 m i x)) default).2.length:Int) == 0) with
        | true=>rw [cond_true];exact ih _ _ _ (by omega) (by omega) (by omega) (by simp only [List.length_append,List.length_cons,List.length_nil];omega) (X2Q hb (by omega) (by omega))
        | false=>rw [cond_false];exact ih _ _ _ (by omega) (by omega) (by omega) (by omega) (X2Q hb (by omega) (by omega))
      | false=>rw [cond_false];exact ih _ _ _ (by omega) (by omega) (by omega) (by simp only [List.length_append,List.length_cons,List.length_nil];omega) (X5P hb (by omega) (by omega))
theorem Z5E (m:Gm) (i:Int) (b:List (Gedge × List Int)) (l:List Gedge) (h0:0≤i) (hl:(l.length:Int)≤3 * i) (hb:∀ y∈b,(y.2.length:Int)≤3 * i) :
    ((Zj m i b l).2.length:Int)≤3 * (i + 1)∧∀ y∈(Zj m i b l).1,(y.2.length:Int)≤3 * (i + 1) :=
  Z5U m i b l h0 _ 0 b l (Int.le_refl 0) (by omega) (by omega) (by omega) (fun y hy=>by have:=hb y hy;omega)
def Zn (Y0:Gm):Nat→Int→(List (Gedge × List Int))→(List Gedge)→(List (Gedge × List Int)) × (List Gedge)
  | 0,_,_,_=>default
  | k + 1,Y1,Ya,Yd=>(cond (decide (Y1 < (Y0.Tr.length:Int)))
    (Zn Y0 k (Y1 + 1) ((Zj Y0 Y1 Ya Yd).1) ((Zj Y0 Y1 Ya Yd).2))
    (Ya,Yd))
def Z1L (Y0:Gm) (r:(List (Gedge × List Int)) × (List Gedge)):Ex × St:=((.exit 0),⟨.agg [.sl (Y0.Pq.map Gv.c), .sl (Y0.Tr.map (cL (cI .i64)))] :: .ptr 0 0 0 :: .any :: .nils :: .mp 1 :: .own 2 :: an 4 (.mp 1 :: .any :: .ptr 0 0 1 :: .sl (Y0.Tr.map (cL (cI .i64))) :: an 43 []),[.box 35 [.sl (Y0.Pq.map Gv.c), .sl (Y0.Tr.map (cL (cI .i64)))], .mapN 2 (mapC Gedge.pr (cI .i64) r.1) none, .vec 92 2 (r.2.map Gedge.cells) false]⟩)
def Z2s (Y0:Gm) (Y1:Int) (Ya:(List (Gedge × List Int))) (Yd:(List Gedge)):St:=⟨.agg [.sl (Y0.Pq.map Gv.c), .sl (Y0.Tr.map (cL (cI .i64)))] :: .ptr 0 0 0 :: .any :: .nils :: .mp 1 :: .own 2 :: an 4 (.mp 1 :: .any :: .ptr 0 0 1 :: .sl (Y0.Tr.map (cL (cI .i64))) :: .i .i64 (Y0.Tr.length:Int) :: .i .i64 Y1 :: an 41 []),[.box 35 [.sl (Y0.Pq.map Gv.c), .sl (Y0.Tr.map (cL (cI .i64)))], .mapN 2 (mapC Gedge.pr (cI .i64) Ya) none, .vec 92 2 (Yd.map Gedge.cells) false]⟩
theorem Z3F (Y0:Gm) (hp0:Y0.Pq.length≤1073741824) (hp1:Y0.Tr.length≤1073741824) (hp2:∀ t∈Y0.Tr,t.length≤1073741824) (hp3:OkE Y0.Pq.length Y0.Tr):∀ (k:Nat) (Y1:Int) (Ya:(List (Gedge × List Int))) (Yd:(List Gedge)) (Zi:0≤Y1) (Z1l:(Yd.length:Int)≤3 * Y1) (Z1a:∀ y∈Ya,(y.2.length:Int)≤3 * Y1) (hk:((Y0.Tr.length:Int) - Y1).toNat < k),Lp prog 0 (sub (X0 f77) [1,1,0,1,0,0]) (Z2s Y0 Y1 Ya Yd) (Z1L Y0 (Zn Y0 k Y1 Ya Yd)).1 (Z1L Y0 (Zn Y0 k Y1 Ya Yd)).2:=by
 intro k
 induction k with
 | zero=>intro Y1 Ya Yd Zi Z1l Z1a hk;exact absurd hk (Nat.not_lt_zero _)
 | succ k ih =>
  intro Y1 Ya Yd Zi Z1l Z1a hk
  cases Yh:(decide (Y1 < (Y0.Tr.length:Int))) with
  | true =>
   have Yq:=odt Yh
   have Yu:(0:Int)≤Y1:=(by assumption)
   have Ys:Y1 < (Y0.Tr.length:Int):=(by assumption)
   have Yw:(-9223372036854775808:Int)≤(Y1 + 1):=(by omega)
   have Yv:(Y1 + 1)≤(9223372036854775807:Int):=(by omega)
   have e:Zn Y0 (k + 1) Y1 Ya Yd=(Zn Y0 k (Y1 + 1) ((Zj Y0 Y1 Ya Yd).1) ((Zj Y0 Y1 Ya Yd).2)):=by simp only [Zn,Yh,cond_true]
   rw [e]
   exact Xw E0Ok Z2 [] (mR false [0,2,1,3,4,1,1,4,41]) [0,1,2] (ih (Y1 + 1) ((Zj Y0 Y1 Ya Yd).1) ((Zj Y0 Y1 Ya Yd).2) (show 0≤(Y1 + 1) from (by omega)) (show (((Zj Y0 Y1 Ya Yd).2).length:Int)≤3 * (Y1 + 1) from (by exact (Z5E _ _ _ _ Zi (by assumption) (by assumption)).1)) (show ∀ y∈((Zj Y0 Y1 Ya Yd).1),(y.2.length:Int)≤3 * (Y1 + 1) from (by exact (Z5E _ _ _ _ Zi (by assumption) (by assumption)).2)) (by omega)) (sB Yh<|sG (cL (cI .i64)) Y0.Tr Y1 Yu Ys<|sL (mR false [0,2,1,5,2,1,1,9,36]) 3 (X6 (Z1K Y0 Y1 Ya Yd) (x:=(Zj Y0 Y1 Ya Yd)) (Z3E Y0 Y1 Ya Yd hp0 hp1 hp2 hp3 Zi Z1l Z1a Yh (((3:Int) - 0).toNat + 1) 0 Ya Yd (show 0≤0 from (by omega)) (show (Yd.length:Int)≤(Yd.length:Int) + 0 from (by omega)) (show ∀ y∈Ya,(y.2.length:Int)≤3 * Y1 + 0 from (by intro y hy;have q:=Z1a y hy;omega)) (Nat.lt_succ_self _)) rfl)<|sI (Y1 + 1) Yw Yv<|sN) (by kernel_rfl)
  | false =>
   have Yq:=odf Yh
   have e:Zn Y0 (k + 1) Y1 Ya Yd=(Ya,Yd):=by simp only [Zn,Yh,cond_false]
   rw [e]
   exact outR (e:=(.exit 0)) E0Ok Z2 [] (mR false [0,2,1,3,4,1,1,2,43]) [0,1,2] (sB Yh<|sN) (by kernel_rfl) (by intro h;cases h)
def Zm (Y0:Gm):(List (Gedge × List Int)) × (List Gedge):=(Zn Y0 (((Y0.Tr.length:Int) - 0).toNat + 1) 0 ([]:(List (Gedge × List Int))) ([]:List Gedge))
theorem Z5Z (m:Gm) (k:Nat) (i:Int) (b:List (Gedge × List Int)) (l:List Gedge) (h0:0≤i):Zn m (k + 1) i b l=cond (decide (i < (m.Tr.length:Int))) (Zn m k (i + 1) (stT (b,l) (m.Tr.getD i.toNat default) i).1 (stT (b,l) (m.Tr.getD i.toNat default) i).2) (b,l):=by
  have st:∀ (x:Int) (k:Nat) (b:List (Gedge × List Int)) (l:List Gedge),x < 3→Z4 m i b l (k + 1) x b l=Z4 m i b l (k + 1) x b l:=fun _ _ _ _ _=>rfl
  have one:∀ (b0:List (Gedge × List Int)) (l0:List Gedge) (k:Nat) (x:Int) (s:List (Gedge × List Int) × List Gedge),x < 3→Z4 m i b0 l0 (k + 1) x s.1 s.2=Z4 m i b0 l0 k (x + 1) (stE s (Z0 m i x) i).1 (stE s (Z0 m i x) i).2:=by
    intro b0 l0 k x s hx
    rw [Z4,decide_eq_true hx,cond_true]
    unfold stE
    cases mhas s.1 (Z0 m i x) with
    | true =>
      rw [cond_true,cond_true]
      cases (((s.1.getD (midx s.1 (Z0 m i x)) default).2.length:Int) == 0)<;>rfl
    | false=>rfl
  have tri:Zj m i b l=stT (b,l) (m.Tr.getD i.toNat default) i:=by
    unfold Zj
    show Z4 m i b l 4 0 (b,l).1 (b,l).2=_
    rw [one b l 3 0 (b,l) (by omega),one b l 2 (0 + 1) _ (by omega),one b l 1 (0 + 1 + 1) _ (by omega),Z4]
    show cond (decide ((3:Int) < 3)) _ _=_
    rw [decide_eq_false (by omega),cond_false]
    unfold Z0 stT
    simp only [Z5M]
    rfl
  rw [Zn,tri]
theorem Z5c (m:Gm) (ok:OkE m.Pq.length m.Tr):ETab m.Tr m.Tr.length (Zm m):=by
  unfold Zm
  exact ETab.loop ok (Z5Z m) _ 0 ([],[]) (Nat.zero_le _) (ETab.nil _) (by omega)
theorem Z5V (m:Gm) (ok:OkE m.Pq.length m.Tr):(Zm m).2.length≤4096:=by
  have h:=congrArg List.length ((Z5c m ok).sorted ok)
  rw [X5Q] at h
  rw [h];exact X2R ok
end Go.Ab
namespace Go.Proofs
open Go.Shelf
def Try.laysF0n6_ren:Go.Shelf.Ren:=⟨fun | 6=>111 | 15=>122 | 14=>121 | 28=>135 | 29=>136 | 20=>127 | 21=>128 | 22=>129 | 23=>130 | 24=>131 | 25=>132 | 26=>133 | 27=>134 | 46=>140 | 47=>141 | 48=>142 | 49=>143 | 50=>144 | 57=>146 | n=>n,fun | 22=>76 | 24=>92 | 25=>121 | 3=>3 | 39=>130 | 0=>0 | 53=>141 | 55=>125 | 4=>4 | 46=>134 | 45=>133 | 50=>138 | 5=>5 | 9=>9 | 66=>145 | 70=>149 | 76=>152 | 77=>153 | n=>n,fun | n=>n⟩
theorem Try.laysF0n6:Go.Proofs.SlLaysF0.n6 Try.prog Try.laysF0n6_ren:={
  mixed:=by kernel_rfl
  f6:=⟨Try.f111.name,by decide,Try.func111.trans (congrArg some (by kernel_rfl))⟩
  f14:=⟨Try.f121.name,by decide,Try.func121.trans (congrArg some (by kernel_rfl))⟩
  f15:=Try.func122.trans (congrArg some (by kernel_rfl))
  f20:=⟨Try.f127.name,by decide,Try.func127.trans (congrArg some (by kernel_rfl))⟩
  f21:=⟨Try.f128.name,by decide,Try.func128.trans (congrArg some (by kernel_rfl))⟩
  f22:=⟨Try.f129.name,by decide,Try.func129.trans (congrArg some (by kernel_rfl))⟩
  f23:=⟨Try.f130.name,by decide,Try.func130.trans (congrArg some (by kernel_rfl))⟩
  f24:=⟨Try.f131.name,by decide,Try.func131.trans (congrArg some (by kernel_rfl))⟩
  f25:=⟨Try.f132.name,by decide,Try.func132.trans (congrArg some (by kernel_rfl))⟩
  f26:=⟨Try.f133.name,by decide,Try.func133.trans (congrArg some (by kernel_rfl))⟩
  f27:=⟨Try.f134.name,by decide,Try.func134.trans (congrArg some (by kernel_rfl))⟩
  f28:=Try.func135.trans (congrArg some (by kernel_rfl))
  f29:=Try.func136.trans (congrArg some (by kernel_rfl))
  f46:=⟨Try.f140.name,by decide,Try.func140.trans (congrArg some (by kernel_rfl))⟩
  f47:=Try.func141.trans (congrArg some (by kernel_rfl))
  f48:=Try.func142.trans (congrArg some (by kernel_rfl))
  f49:=⟨Try.f143.name,by decide,Try.func143.trans (congrArg some (by kernel_rfl))⟩
  f50:=⟨Try.f144.name,by decide,Try.func144.trans (congrArg some (by kernel_rfl))⟩
  f57:=⟨Try.f146.name,by decide,Try.func146.trans (congrArg some (by kernel_rfl))⟩
  t0:=Try.underlying0
  a0:=Try.isAgg0
  z0:=Try.sizeOf0
  v0:=Try.zeroValue0
  t3:=Try.underlying3
  a3:=Try.isAgg3
  z3:=Try.sizeOf3
  v3:=Try.zeroValue3
  t4:=Try.underlying4
  a4:=Try.isAgg4
  z4:=Try.sizeOf4
  v4:=Try.zeroValue4
  t5:=Try.underlying5
  a5:=Try.isAgg5
  z5:=Try.sizeOf5
  v5:=Try.zeroValue5
  t9:=Try.underlying9
  a9:=Try.isAgg9
  z9:=Try.sizeOf9
  v9:=Try.zeroValue9
  t22:=Try.underlying76
  a22:=Try.isAgg76
  z22:=Try.sizeOf76
  v22:=Try.zeroValue76
  t25:=Try.underlying121
  a25:=Try.isAgg121
  z25:=Try.sizeOf121
  v25:=Try.zeroValue121
  t39:=Try.underlying130
  a39:=Try.isAgg130
  z39:=Try.sizeOf130
  v39:=Try.zeroValue130
  t45:=Try.underlying133
  a45:=Try.isAgg133
  z45:=Try.sizeOf133
  v45:=Try.zeroValue133
  t46:=Try.underlying134
  a46:=Try.isAgg134
  z46:=Try.sizeOf134
  v46:=Try.zeroValue134
  t50:=Try.underlying138
  a50:=Try.isAgg138
  z50:=Try.sizeOf138
  v50:=Try.zeroValue138
  t53:=Try.underlying141
  a53:=Try.isAgg141
  z53:=Try.sizeOf141
  v53:=Try.zeroValue141
  t55:=Try.underlying125
  a55:=Try.isAgg125
  z55:=Try.sizeOf125
  v55:=Try.zeroValue125
  t66:=Try.underlying145
  a66:=Try.isAgg145
  z66:=Try.sizeOf145
  v66:=Try.zeroValue145
  t70:=Try.underlying149
  a70:=Try.isAgg149
  z70:=Try.sizeOf149
  v70:=Try.zeroValue149
  t76:=Try.underlying152
  a76:=Try.isAgg152
  z76:=Try.sizeOf152
  v76:=Try.zeroValue152
  t77:=Try.underlying153
  a77:=Try.isAgg153
  z77:=Try.sizeOf153
  v77:=Try.zeroValue153 }
end Go.Proofs
namespace Go.Ab
open Go.RowKit Go.Proofs.Try
theorem Z61 (x y:Int):Zx x y=if x < y then -1 else if x > y then 1 else 0:=by
  unfold Zx Z19
  simp only [bne_self_eq_false,cond_false]
  by_cases h1:x < y
  · simp [h1]
  · by_cases h2:x > y<;>simp [h1,h2]
theorem Z62 (a b:Gedge):Z2o a b=cmpP a.pr b.pr:=by
  unfold Z2o ZE ZN cmpP Gedge.pr
  show (match Z8 [a.e0,a.e1] [b.e0,b.e1] 3 0 with | .inl r1=>r1 | .inr r1=>cond (decide (((2:Nat):Int) < ((2:Nat):Int))) (-1) 0)=_
  simp only [Z8,Z61,List.length_cons,List.length_nil]
  by_cases h1:a.e0 < b.e0
  · simp [h1]
  · by_cases h2:a.e0 > b.e0
    · simp [h1,h2]
    · by_cases h3:a.e1 < b.e1
      · simp [h1,h2,h3]
      · by_cases h4:a.e1 > b.e1<;>simp [h1,h2,h3,h4]
def Z21 (l:List Gedge):List Gedge:=X1X Gedge.pr l
theorem Z3P (l:List Gedge) (h:l.length≤1073741824):Xa prog 111 [.vec 92 2 (l.map Gedge.cells) false] [.own 0, .fn 112 []] (.tup []) [.vec 92 2 ((Z21 l).map Gedge.cells) false] :=
  X7C laysF0n6 isAgg92 sizeOf92 Gedge.pr Gedge.inj Gedge.cells (fun _=>rfl) 92 112 ⟨_,func111,rfl,by kernel_rfl⟩ (Z3g default default).1
    (fun a b W=>((Z3g a b).2 W #[keyV a.pr,keyV b.pr] ⟨rfl,fun j c e=>by match j,e with | 0,e=>cases e;exact Rep.agg _ _ rfl (fun i c e=>by match i,e with | 0,e=>cases e;exact .i _ _ | 1,e=>cases e;exact .i _ _) | 1,e=>cases e;exact Rep.agg _ _ rfl (fun i c e=>by match i,e with | 0,e=>cases e;exact .i _ _ | 1,e=>cases e;exact .i _ _)⟩).mono fun e w' ⟨v,μ',he,hb,_,hr⟩=>by
      cases hr;rw [Z62] at he;exact ⟨he,hb⟩) l h
def Z1 (Y0:Gm):(List (Gedge × List Int)) × (List Gedge):=((Zm Y0).1,(Z21 ((Zm Y0).2)))
theorem Z3Q (m:Gm) (ok:OkE m.Pq.length m.Tr):(Z1 m).2=edgL m.Pq.length m.Tr:=(Z5c m ok).sorted ok
theorem Z5W (m:Gm) (ok:OkE m.Pq.length m.Tr) {e:Gedge} (he:e∈(Z1 m).2):mhas (Z1 m).1 e=true∧((Z1 m).1.getD (midx (Z1 m).1 e) default).2=idxP m.Tr e.e0 e.e1:=by
  rw [Z3Q m ok] at he
  have h:=(Z5c m ok).at ok he
  exact ⟨h.1,h.2.trans (X7T ok (X3y.1 he).1.2.1)⟩
theorem Z5N (m:Gm) (ok:OkE m.Pq.length m.Tr):(Z1 m).2.length≤4096:=by
  rw [Z3Q m ok];exact X2R ok
theorem Z5h (m:Gm) (ok:OkE m.Pq.length m.Tr) {i:Int} (h0:0≤i) (hi:i < ((Z1 m).2.length:Int)):(Z1 m).2.getD i.toNat default∈(Z1 m).2:=by
  have hn:i.toNat < (Z1 m).2.length:=by omega
  rw [List.getD_eq_getElem?_getD,List.getElem?_eq_getElem hn];exact List.getElem_mem hn
theorem Z3s (m:Gm) (ok:OkE m.Pq.length m.Tr) {i:Int} (h0:0≤i) (hi:i < ((Z1 m).2.length:Int)) :
    0≤((Z1 m).2.getD i.toNat default).e0∧((Z1 m).2.getD i.toNat default).e0 < ((Z1 m).2.getD i.toNat default).e1∧((Z1 m).2.getD i.toNat default).e1 < (m.Pq.length:Int)∧(m.Pq.length:Int)≤64∧((Z1 m).2.length:Int)≤4096:=by
  have hl:=Z5N m ok
  have h64:=ok.1
  have hm:=Z5h m ok h0 hi
  rw [Z3Q m ok] at hm
  have hb:=X6l hm
  rw [← Z3Q m ok] at hb
  exact ⟨hb.1,hb.2.1,hb.2.2,by omega,by omega⟩
theorem Z3Z (Y0:Gm) (hp0:Y0.Pq.length≤1073741824) (hp1:Y0.Tr.length≤1073741824) (hp2:∀ t∈Y0.Tr,t.length≤1073741824) (hp3:OkE Y0.Pq.length Y0.Tr)  : Fn prog 77 [.agg [.sl (Y0.Pq.map Gv.c), .sl (Y0.Tr.map (cL (cI .i64)))]] (.tup [.mp 0, .own 1]) [.mapN 2 (mapC Gedge.pr (cI .i64) ((Z1 Y0).1)) none, .vec 92 2 (((Z1 Y0).2).map Gedge.cells) false]:=by
 have y0:((Zm Y0).2).length≤1073741824:=(by (have q:=Z5V Y0 hp3;omega))
 refine fnS E0Ok Z2 (c:=X0 f77) [] (.tup [.mp 0, .own 1]) [.mapN 2 (mapC Gedge.pr (cI .i64) ((Zm Y0).1)) none, .vec 92 2 ((Z21 ((Zm Y0).2)).map Gedge.cells) false] func77 (sZ (cL (cI .i64)) Y0.Tr<|sL (mR false [0,2,1,3,4,1,1,4,41]) 3 (XU (st2:=⟨.agg [.sl (Y0.Pq.map Gv.c), .sl (Y0.Tr.map (cL (cI .i64)))] :: .ptr 0 0 0 :: .any :: .nils :: .mp 1 :: .own 2 :: an 4 (.mp 1 :: .any :: .ptr 0 0 1 :: .sl (Y0.Tr.map (cL (cI .i64))) :: .i .i64 (Y0.Tr.length:Int) :: .i .i64 0 :: an 41 []),[.box 35 [.sl (Y0.Pq.map Gv.c), .sl (Y0.Tr.map (cL (cI .i64)))], .mapN 2 [] none, .vec 92 2 ([]:List (List AV)) false]⟩) (X6 (Z1L Y0) (x:=(Zm Y0)) (Z3F Y0 hp0 hp1 hp2 hp3 (((Y0.Tr.length:Int) - 0).toNat + 1) 0 ([]:(List (Gedge × List Int))) ([]:List Gedge) (show 0≤0 from (by omega)) (show (([]:List Gedge).length:Int)≤3 * 0 from (by simp;done)) (show ∀ y∈([]:(List (Gedge × List Int))),(y.2.length:Int)≤3 * 0 from (by simp;done)) (Nat.lt_succ_self _)) rfl) (by simp [Z2s,mapC,Gedge.cells]))<|sS (Xa.frame (Z3P ((Zm Y0).2) y0) [2] (R:=[.box 35 [.sl (Y0.Pq.map Gv.c), .sl (Y0.Tr.map (cL (cI .i64)))], .mapN 2 (mapC Gedge.pr (cI .i64) ((Zm Y0).1)) none, .vec 92 2 (((Zm Y0).2).map Gedge.cells) false]) (args':=[.own 2, .fn 112 []]) rfl rfl rfl rfl rfl rfl)<|sK [1,2] sN) rfl (by kernel_rfl) (by kernel_rfl) rfl ?_ ?_
 · rfl
 · simp [Z1]
def Zk (Y0:Gm):Nat→Int→(List Gedge)→(List Gedge)
  | 0,_,_=>default
  | k + 1,Y1,Ya=>(cond (decide (Y1 < (((Z1 Y0).2).length:Int)))
    (cond (mhas ((Z1 Y0).1) (((Z1 Y0).2).getD Y1.toNat default))
      (cond (((((Z1 Y0).1).getD (midx ((Z1 Y0).1) (((Z1 Y0).2).getD Y1.toNat default)) default).2.length:Int) == 1)
        (Zk Y0 k (Y1 + 1) (Ya ++ [(((Z1 Y0).2).getD Y1.toNat default)]))
        (Zk Y0 k (Y1 + 1) Ya))
      (Zk Y0 k (Y1 + 1) Ya))
    Ya)
def Z2C (Y0:Gm) (r:(List Gedge)):Ex × St:=((.exit 0),⟨.agg [.sl (Y0.Pq.map Gv.c), .sl (Y0.Tr.map (cL (cI .i64)))] :: .ptr 0 0 0 :: .nils :: .own 1 :: .any :: .own 2 :: an 4 (.agg [.sl (Y0.Pq.map Gv.c), .sl (Y0.Tr.map (cL (cI .i64)))] :: .any :: .mp 3 :: .own 2 :: .own 2 :: an 16 []),[.box 35 [.sl (Y0.Pq.map Gv.c), .sl (Y0.Tr.map (cL (cI .i64)))], .vec 92 2 (r.map Gedge.cells) false, .vec 92 2 (((Z1 Y0).2).map Gedge.cells) false, .mapN 2 (mapC Gedge.pr (cI .i64) ((Z1 Y0).1)) none]⟩)
def Z2D (Y0:Gm) (Y1:Int) (Ya:(List Gedge)):St:=⟨.agg [.sl (Y0.Pq.map Gv.c), .sl (Y0.Tr.map (cL (cI .i64)))] :: .ptr 0 0 0 :: .nils :: .own 1 :: .mp 2 :: .own 3 :: an 4 (.agg [.sl (Y0.Pq.map Gv.c), .sl (Y0.Tr.map (cL (cI .i64)))] :: .any :: .mp 2 :: .own 3 :: .own 3 :: .i .i64 (((Z1 Y0).2).length:Int) :: .i .i64 Y1 :: an 14 []),[.box 35 [.sl (Y0.Pq.map Gv.c), .sl (Y0.Tr.map (cL (cI .i64)))], .vec 92 2 (Ya.map Gedge.cells) false, .mapN 2 (mapC Gedge.pr (cI .i64) ((Z1 Y0).1)) none, .vec 92 2 (((Z1 Y0).2).map Gedge.cells) false]⟩
theorem Z4x (Y0:Gm) (hp0:Y0.Pq.length≤1073741824) (hp1:Y0.Tr.length≤1073741824) (hp2:∀ t∈Y0.Tr,t.length≤1073741824) (hp3:OkE Y0.Pq.length Y0.Tr):∀ (k:Nat) (Y1:Int) (Ya:(List Gedge)) (Z1e:0≤Y1) (Z3a:(Ya.length:Int)≤Y1) (hk:((((Z1 Y0).2).length:Int) - Y1).toNat < k),Lp prog 0 (sub (X0 f65) [1,1,1,0,1,0,0]) (Z2D Y0 Y1 Ya) (Z2C Y0 (Zk Y0 k Y1 Ya)).1 (Z2C Y0 (Zk Y0 k Y1 Ya)).2:=by
 intro k
 induction k with
 | zero=>intro Y1 Ya Z1e Z3a hk;exact absurd hk (Nat.not_lt_zero _)
 | succ k ih =>
  intro Y1 Ya Z1e Z3a hk
  cases Yh:(decide (Y1 < (((Z1 Y0).2).length:Int))) with
  | true =>
   have Yq:=odt Yh
   have Yu:(0:Int)≤Y1:=(by assumption)
   have Ys:Y1 < (((Z1 Y0).2).length:Int):=(by assumption)
   have Yw:Y1.toNat < ((Z1 Y0).2).length:=(by omega)
   have p {a C} (s:Scr a C):=sB Yh<|sX Gedge.cells ((Z1 Y0).2) Y1 Yu Ys<|sV Gedge.cells ((Z1 Y0).2) Y1.toNat Yw<|s
   cases Yl:(mhas ((Z1 Y0).1) (((Z1 Y0).2).getD Y1.toNat default)) with
   | true =>
    have m_8:=X2A Yl
    have q {a C} (s:Scr a C):=p (sA (.keep [midx ((Z1 Y0).1) (((Z1 Y0).2).getD Y1.toNat default)])<|sC (X3k (ck:=Gedge.pr) (cv:=(cI .i64)) Yl)<|sM (X5M (ck:=Gedge.pr) (cv:=(cI .i64)) (l:=(Z1 Y0).1) (j:=(midx ((Z1 Y0).1) (((Z1 Y0).2).getD Y1.toNat default))))<|s)
    clear p
    cases YB:(((((Z1 Y0).1).getD (midx ((Z1 Y0).1) (((Z1 Y0).2).getD Y1.toNat default)) default).2.length:Int) == 1) with
    | true =>
     have YX:=eq_of_beq YB
     have Yv:Ya.length + ([(((Z1 Y0).2).getD Y1.toNat default)]).length≤1073741824:=by clear q;exact (by ((have q:=Z3s Y0 hp3 Z1e (odt (by assumption));(simp only [List.length_append,List.length_cons,List.length_nil];omega))))
     have Yz:(-9223372036854775808:Int)≤(Y1 + 1):=by clear q;exact (by omega)
     have YI:(Y1 + 1)≤(9223372036854775807:Int):=by clear q;exact (by ((have q:=Z3s Y0 hp3 Z1e (odt (by assumption));omega)))
     have e:Zk Y0 (k + 1) Y1 Ya=(Zk Y0 k (Y1 + 1) (Ya ++ [(((Z1 Y0).2).getD Y1.toNat default)])):=by simp only [Zk,Yh,Yl,YB,cond_true]
     rw [e]
     exact XP E0Ok Z2 [] (mR false [0,6,4,1,1,5,14]) [0,1,2,3] (⟨.agg [.sl (Y0.Pq.map Gv.c), .sl (Y0.Tr.map (cL (cI .i64)))] :: .ptr 0 0 0 :: .nils :: .own 1 :: .mp 2 :: .own 3 :: an 4 (.agg [.sl (Y0.Pq.map Gv.c), .sl (Y0.Tr.map (cL (cI .i64)))] :: .any :: .mp 2 :: .own 3 :: .own 3 :: .i .i64 (((Z1 Y0).2).length:Int) :: .i .i64 (Y1 + 1) :: an 14 []),[.box 35 [.sl (Y0.Pq.map Gv.c), .sl (Y0.Tr.map (cL (cI .i64)))], .vec 92 2 ((Ya.map Gedge.cells) ++ ([[.i .i64 ((((Z1 Y0).2).getD Y1.toNat default).e0), .i .i64 ((((Z1 Y0).2).getD Y1.toNat default).e1)]]:List (List AV))) false, .mapN 2 (mapC Gedge.pr (cI .i64) ((Z1 Y0).1)) none, .vec 92 2 (((Z1 Y0).2).map Gedge.cells) false]⟩) (q (sB YB<|sC (show (Ya.map Gedge.cells).length + ([[.i .i64 ((((Z1 Y0).2).getD Y1.toNat default).e0), .i .i64 ((((Z1 Y0).2).getD Y1.toNat default).e1)]]:List (List AV)).length≤1073741824 from (by simpa using Yv))<|sI (Y1 + 1) Yz YI<|sN)) (by kernel_rfl) (by simp [Z2D,Gedge.cells]) (ih (Y1 + 1) (Ya ++ [(((Z1 Y0).2).getD Y1.toNat default)]) (show 0≤(Y1 + 1) from (by omega)) (show ((Ya ++ [(((Z1 Y0).2).getD Y1.toNat default)]).length:Int)≤(Y1 + 1) from (by ((have q:=Z3s Y0 hp3 Z1e (odt (by assumption));(simp only [List.length_append,List.length_cons,List.length_nil];omega))))) (by omega))
    | false =>
     have YX:=ne_of_beq_false YB
     have Yv:(-9223372036854775808:Int)≤(Y1 + 1):=by clear q;exact (by omega)
     have Yz:(Y1 + 1)≤(9223372036854775807:Int):=by clear q;exact (by ((have q:=Z3s Y0 hp3 Z1e (odt (by assumption));omega)))
     have e:Zk Y0 (k + 1) Y1 Ya=(Zk Y0 k (Y1 + 1) Ya):=by simp only [Zk,Yh,Yl,YB,cond_true,cond_false]
     rw [e]
     exact Xw E0Ok Z2 [] (mR false [0,6,4,1,1,5,14]) [0,1,2,3] (ih (Y1 + 1) Ya (show 0≤(Y1 + 1) from (by omega)) (show (Ya.length:Int)≤(Y1 + 1) from (by omega)) (by omega)) (q (sB YB<|sI (Y1 + 1) Yv Yz<|sN)) (by kernel_rfl)
   | false =>
    have Yv:(-9223372036854775808:Int)≤(Y1 + 1):=by clear p;exact (by omega)
    have Yz:(Y1 + 1)≤(9223372036854775807:Int):=by clear p;exact (by ((have q:=Z3s Y0 hp3 Z1e (odt (by assumption));omega)))
    have e:Zk Y0 (k + 1) Y1 Ya=(Zk Y0 k (Y1 + 1) Ya):=by simp only [Zk,Yh,Yl,cond_true,cond_false]
    rw [e]
    exact Xw E0Ok Z2 [] (mR false [0,6,4,1,1,5,14]) [0,1,2,3] (ih (Y1 + 1) Ya (show 0≤(Y1 + 1) from (by omega)) (show (Ya.length:Int)≤(Y1 + 1) from (by omega)) (by omega)) (p (sA (.keep [])<|sC (X4g (ck:=Gedge.pr) (cv:=(cI .i64)) Gedge.inj Yl)<|sM (show ((0:Nat):Int)=0 from rfl)<|sB (show (0 == 1)=false from rfl)<|sI (Y1 + 1) Yv Yz<|sN)) (by kernel_rfl)
  | false =>
   have Yq:=odf Yh
   have e:Zk Y0 (k + 1) Y1 Ya=Ya:=by simp only [Zk,Yh,cond_false]
   rw [e]
   exact outR (e:=(.exit 0)) E0Ok Z2 [] (mR false [0,4,1,1,4,1,1,3,16]) [0,1,3,2] (sB Yh<|sN) (by kernel_rfl) (by intro h;cases h)
def Z1M (Y0:Gm):(List Gedge):=(Zk Y0 (((((Z1 Y0).2).length:Int) - 0).toNat + 1) 0 ([]:List Gedge))
def Z1f (Y0:Gm):(List Gedge):=(Z1M Y0)
theorem Z4H (m:Gm) (ok:OkE m.Pq.length m.Tr):Z1f m=brL m.Pq.length m.Tr:=by
  unfold Z1f Z1M
  refine (X3Z (a:=(Z1 m).2) (p:=fun e=>decide ((idxP m.Tr e.e0 e.e1).length=1)) (f:=fun e=>e) (lo:=Zk m) (fun k i r h0 hi => ?_) (fun k i r hi => ?_)).trans ?_
  · obtain ⟨g1,g2⟩:=Z5W m ok (Z5h m ok h0 hi)
    rw [Zk,decide_eq_true hi,cond_true,g1,cond_true,g2]
    have hc:((((idxP m.Tr ((Z1 m).2.getD i.toNat default).e0 ((Z1 m).2.getD i.toNat default).e1).length:Nat):Int) == 1)=decide ((idxP m.Tr ((Z1 m).2.getD i.toNat default).e0 ((Z1 m).2.getD i.toNat default).e1).length=1):=by
      rw [Bool.eq_iff_iff,beq_iff_eq,decide_eq_true_iff];omega
    rw [hc]
  · rw [Zk,decide_eq_false (by omega),cond_false]
  · rw [Z3Q m ok,List.map_id'];rfl
theorem Z5w (m:Gm) (ok:OkE m.Pq.length m.Tr):(Z1f m).length≤4096:=by rw [Z4H m ok];exact X6m ok
theorem Z57 (Y0:Gm) (hp0:Y0.Pq.length≤1073741824) (hp1:Y0.Tr.length≤1073741824) (hp2:∀ t∈Y0.Tr,t.length≤1073741824) (hp3:OkE Y0.Pq.length Y0.Tr)  : Fn prog 65 [.agg [.sl (Y0.Pq.map Gv.c), .sl (Y0.Tr.map (cL (cI .i64)))]] (.own 0) [.vec 92 2 ((Z1f Y0).map Gedge.cells) false]:=by
 refine fnS E0Ok Z2 (c:=X0 f65) [] (.own 0) [.vec 92 2 ((Z1M Y0).map Gedge.cells) false] func65 (sF (Z3Z Y0 hp0 hp1 hp2 hp3)<|sZ Gedge.cells ((Z1 Y0).2)<|sL (mR false [0,6,4,1,1,5,14]) 4 (XU (st2:=⟨.agg [.sl (Y0.Pq.map Gv.c), .sl (Y0.Tr.map (cL (cI .i64)))] :: .ptr 0 0 0 :: .nils :: .own 1 :: .mp 2 :: .own 3 :: an 4 (.agg [.sl (Y0.Pq.map Gv.c), .sl (Y0.Tr.map (cL (cI .i64)))] :: .any :: .mp 2 :: .own 3 :: .own 3 :: .i .i64 (((Z1 Y0).2).length:Int) :: .i .i64 0 :: an 14 []),[.box 35 [.sl (Y0.Pq.map Gv.c), .sl (Y0.Tr.map (cL (cI .i64)))], .vec 92 2 ([]:List (List AV)) false, .mapN 2 (mapC Gedge.pr (cI .i64) ((Z1 Y0).1)) none, .vec 92 2 (((Z1 Y0).2).map Gedge.cells) false]⟩) (X6 (Z2C Y0) (x:=(Z1M Y0)) (Z4x Y0 hp0 hp1 hp2 hp3 (((((Z1 Y0).2).length:Int) - 0).toNat + 1) 0 ([]:List Gedge) (show 0≤0 from (by omega)) (show (([]:List Gedge).length:Int)≤0 from (by simp)) (Nat.lt_succ_self _)) rfl) (by simp [Z2D,Gedge.cells]))<|sK [1] sN) rfl (by kernel_rfl) (by kernel_rfl) rfl ?_ ?_
 · rfl
 · simp [Z1f]
def ZZ (Ye:(List Gedge)):Nat→Int→(List (List Int))→(List (List Int))
  | 0,_,_=>default
  | k + 1,Y1,Y7=>(cond (decide (Y1 < (Ye.length:Int)))
    (ZZ Ye k (Y1 + 1) (Y7 ++ [[(Ye.getD Y1.toNat default).e0,(Ye.getD Y1.toNat default).e1]]))
    Y7)
def Z2J (Ye:(List Gedge)) (r:(List (List Int))):Ex × St:=((.exit 0),⟨.sl (Ye.map Gedge.cells) :: .any :: .nils :: .own 0 :: .any :: .any :: .any :: .sl (Ye.map Gedge.cells) :: an 15 [],[.nest 79 (r.map fun l=>l.map (cI .i64)) false]⟩)
def Z2K (Ye:(List Gedge)) (Y1:Int) (Y7:(List (List Int))):St:=⟨.sl (Ye.map Gedge.cells) :: .any :: .nils :: .own 0 :: .any :: .any :: .any :: .sl (Ye.map Gedge.cells) :: .i .i64 (Ye.length:Int) :: .i .i64 Y1 :: an 13 [],[.nest 79 (Y7.map fun l=>l.map (cI .i64)) false]⟩
theorem Z4E (Ye:(List Gedge)) (hp0:Ye.length≤1073741824):∀ (k:Nat) (Y1:Int) (Y7:(List (List Int))) (Z3h:0≤Y1) (Z3i:(Y7.length:Int)=Y1) (hk:((Ye.length:Int) - Y1).toNat < k),Lp prog 0 (sub (X0 f69) [1,1,0,1,0,0]) (Z2K Ye Y1 Y7) (Z2J Ye (ZZ Ye k Y1 Y7)).1 (Z2J Ye (ZZ Ye k Y1 Y7)).2:=by
 intro k
 induction k with
 | zero=>intro Y1 Y7 Z3h Z3i hk;exact absurd hk (Nat.not_lt_zero _)
 | succ k ih =>
  intro Y1 Y7 Z3h Z3i hk
  cases Yh:(decide (Y1 < (Ye.length:Int))) with
  | true =>
   have Yq:=odt Yh
   have Yu:(0:Int)≤Y1:=(by assumption)
   have Ys:Y1 < (Ye.length:Int):=(by assumption)
   have Yw:Y7.length + [[(Ye.getD Y1.toNat default).e0,(Ye.getD Y1.toNat default).e1]].length≤1073741824:=(by simp_all<;>omega)
   have Yv:(-9223372036854775808:Int)≤(Y1 + 1):=(by omega)
   have Yz:(Y1 + 1)≤(9223372036854775807:Int):=(by omega)
   have e:ZZ Ye (k + 1) Y1 Y7=(ZZ Ye k (Y1 + 1) (Y7 ++ [[(Ye.getD Y1.toNat default).e0,(Ye.getD Y1.toNat default).e1]])):=by simp only [ZZ,Yh,cond_true]
   rw [e]
   exact XP E0Ok Z2 [] (mR false [0,1,1,2,3,3,13]) [0] (⟨.sl (Ye.map Gedge.cells) :: .any :: .nils :: .own 0 :: .any :: .any :: .any :: .sl (Ye.map Gedge.cells) :: .i .i64 (Ye.length:Int) :: .i .i64 (Y1 + 1) :: an 13 [],[.nest 79 ((Y7.map fun l=>l.map (cI .i64)) ++ [([[.i .i64 ((Ye.getD Y1.toNat default).e0)],[.i .i64 ((Ye.getD Y1.toNat default).e1)]]:List (List AV))]) false]⟩) (sB Yh<|sG Gedge.cells Ye Y1 Yu Ys<|sC (show (0:Int)≤0∧0 < ((2:Nat):Int) from (by decide))<|sC (show (0:Int)≤1∧1 < ((2:Nat):Int) from (by decide))<|sC (show (Y7.map fun l=>l.map (cI .i64)).length + [([[.i .i64 ((Ye.getD Y1.toNat default).e0)],[.i .i64 ((Ye.getD Y1.toNat default).e1)]]:List (List AV))].length≤1073741824 from (by simpa using Yw))<|sI (Y1 + 1) Yv Yz<|sN) (by kernel_rfl) (by simp [Z2K,cL,cI]) (ih (Y1 + 1) (Y7 ++ [[(Ye.getD Y1.toNat default).e0,(Ye.getD Y1.toNat default).e1]]) (show 0≤(Y1 + 1) from (by omega)) (show ((Y7 ++ [[(Ye.getD Y1.toNat default).e0,(Ye.getD Y1.toNat default).e1]]).length:Int)=(Y1 + 1) from (by simp_all<;>omega)) (by omega))
  | false =>
   have Yq:=odf Yh
   have e:ZZ Ye (k + 1) Y1 Y7=Y7:=by simp only [ZZ,Yh,cond_false]
   rw [e]
   exact outR (e:=(.exit 0)) E0Ok Z2 [] (mR false [0,1,1,2,3,1,15]) [0] (sB Yh<|sN) (by kernel_rfl) (by intro h;cases h)
def Z1X (Ye:(List Gedge)):(List (List Int)):=(ZZ Ye (((Ye.length:Int) - 0).toNat + 1) 0 ([]:List (List Int)))
def Z1Q (Ye:(List Gedge)):(List (List Int)):=(Z1X Ye)
theorem Z5I (l:List Gedge):Z1Q l=l.map e2:=by
  unfold Z1Q Z1X
  rw [X7u (f:=fun i=>e2 (l.getD i.toNat default)) (n:=(l.length:Int)) (lo:=ZZ l) (fun k i r=>rfl) _ _ _ (Nat.lt_succ_self _),List.nil_append]
  apply List.ext_getElem (by simp)
  intro i h1 h2
  simp only [List.length_map,List.length_range] at h1
  rw [List.getElem_map,List.getElem_map,List.getElem_range,show ((0:Int) + (i:Int)).toNat=i from by omega,List.getD_eq_getElem?_getD,List.getElem?_eq_getElem (by omega)]
  rfl
theorem Z5d (Ye:(List Gedge)) (hp0:Ye.length≤1073741824)  : Fn prog 69 [.sl (Ye.map Gedge.cells)] (.own 0) [.nest 79 ((Z1Q Ye).map fun l=>l.map (cI .i64)) false]:=by
 refine fnS E0Ok Z2 (c:=X0 f69) [] (.own 0) [.nest 79 ((Z1X Ye).map fun l=>l.map (cI .i64)) false] func69 (sZ Gedge.cells Ye<|sL (mR false [0,1,1,2,3,3,13]) 1 (XU (st2:=⟨.sl (Ye.map Gedge.cells) :: .any :: .nils :: .own 0 :: .any :: .any :: .any :: .sl (Ye.map Gedge.cells) :: .i .i64 (Ye.length:Int) :: .i .i64 0 :: an 13 [],[.nest 79 [] false]⟩) (X6 (Z2J Ye) (x:=(Z1X Ye)) (Z4E Ye hp0 (((Ye.length:Int) - 0).toNat + 1) 0 ([]:List (List Int)) (show 0≤0 from (by omega)) (show (([]:List (List Int)).length:Int)=0 from (by simp)) (Nat.lt_succ_self _)) rfl) (by simp [Z2K,cL,cI]))<|sK [0] sN) rfl (by kernel_rfl) (by kernel_rfl) rfl ?_ ?_
 · rfl
 · simp [Z1Q]
def Z7 (Y0:Gm):(List (List Int)) × Bool:=(cond (Z1d Y0)
  ((Z1Q (Z1f Y0)),true)
  (([]:List (List Int)),false))
theorem Z40 (m:Gm):Z7 m=Ze m:=by
  unfold Z7 Ze
  rw [Z3O]
  cases h:Zl m with
  | false=>rfl
  | true=>rw [cond_true,cond_true,Z5I,Z4H m (Z1R m h),Z3M m (Z1R m h)]
theorem Z3R (m:Gm):(Z7 m).1.length≤4096:=by rw [Z40];exact Z3N m
theorem Z2E (m:Gm):∀ t∈(Z7 m).1,t.length≤2:=by rw [Z40];exact Z3q m
theorem Z3X (Y0:Gm) (hp0:Y0.Pq.length≤1073741824) (hp1:Y0.Tr.length≤1073741824) (hp2:∀ t∈Y0.Tr,t.length≤1073741824)  : Fn prog 22 [.agg [.sl (Y0.Pq.map Gv.c), .sl (Y0.Tr.map (cL (cI .i64)))]] (.tup [.own 0, .b ((Z7 Y0).2)]) [.nest 79 (((Z7 Y0).1).map fun l=>l.map (cI .i64)) false]:=by
 have p {a C} (s:Scr a C):=sF (Z4T Y0 hp0 hp1 hp2)<|s
 cases h0:(Z1d Y0) with
 | true =>
  have y0:OkE Y0.Pq.length Y0.Tr:=by clear p;exact (by exact Z1R _ (by rw [← Z3O];assumption))
  have y1:(Z1f Y0).length≤1073741824:=by clear p;exact (by (have q:=Z5w Y0 (Z1R Y0 (by rw [← Z3O];assumption));omega))
  refine fnS E0Ok Z2 (c:=X0 f22) [] (.tup [.own 0, .b true]) [.nest 79 ((Z1Q (Z1f Y0)).map fun l=>l.map (cI .i64)) false] func22 (p (sB' h0<|sF (Z57 Y0 hp0 hp1 hp2 y0)<|sF (Z5d (Z1f Y0) y1)<|sK [2] sN)) rfl (by kernel_rfl) (by kernel_rfl) rfl ?_ ?_
  · simp only [Z7,h0,cond_true]
  · simp [Z7,h0]
 | false =>
  refine fnS E0Ok Z2 (c:=X0 f22) [(.tm 2, .nest 79 [] false)] (.tup [.own 0, .b false]) [.nest 79 [] false] func22 (p (sB' h0<|sK [1] sN)) rfl (by kernel_rfl) (by kernel_rfl) rfl ?_ ?_
  · simp only [Z7,h0,cond_false]
  · simp [Z7,h0,cL,cI]
def ZD (Y3:(List Int)) (Yc:(List Int)):Nat→Int→(Unit) ⊕ (Unit)
  | 0,_ => .inl default
  | k + 1,Y2=>(cond (decide (Y2 < (Y3.length:Int)))
    (cond ((Y3.getD Y2.toNat default) != (Yc.getD Y2.toNat default))
      (.inl ())
      (ZD Y3 Yc k (Y2 + 1)))
    (.inr ()))
def Z20 (Y3:(List Int)) (Yc:(List Int)):(Unit) ⊕ (Unit)→Ex × St
  | .inl r=>(.ret,⟨an 4 (.b false :: an 21 []),[]⟩)
  | .inr r=>((.exit 0),⟨.sl (Y3.map (cI .i64)) :: .sl (Yc.map (cI .i64)) :: an 4 (.sl (Y3.map (cI .i64)) :: .i .i64 (Y3.length:Int) :: .sl (Yc.map (cI .i64)) :: .i .i64 (Yc.length:Int) :: .b ((Y3.length:Int) != (Yc.length:Int)) :: an 15 []),[]⟩)
def Z4y (Y3:(List Int)) (Yc:(List Int)) (Y2:Int):St:=⟨.sl (Y3.map (cI .i64)) :: .sl (Yc.map (cI .i64)) :: .any :: .any :: .any :: .i .i64 Y2 :: .sl (Y3.map (cI .i64)) :: .i .i64 (Y3.length:Int) :: .sl (Yc.map (cI .i64)) :: .i .i64 (Yc.length:Int) :: .b ((Y3.length:Int) != (Yc.length:Int)) :: an 15 [],[]⟩
theorem Z3t (Y3:(List Int)) (Yc:(List Int)) (hp0:Y3.length≤1073741824) (hp1:Yc.length≤1073741824) (Z5J:((Y3.length:Int) != (Yc.length:Int))=false):∀ (k:Nat) (Y2:Int) (Z3b:0≤Y2) (hk:((Y3.length:Int) - Y2).toNat < k),Lp prog 0 (sub (X0 f70) [1,1,0,1,0,0]) (Z4y Y3 Yc Y2) (Z20 Y3 Yc (ZD Y3 Yc k Y2)).1 (Z20 Y3 Yc (ZD Y3 Yc k Y2)).2:=by
 intro k
 induction k with
 | zero=>intro Y2 Z3b hk;exact absurd hk (Nat.not_lt_zero _)
 | succ k ih =>
  intro Y2 Z3b hk
  have p {a C} (s:Scr a C):=sZ (cI .i64) Y3<|s
  cases Yh:(decide (Y2 < (Y3.length:Int))) with
  | true =>
   have Yq:=odt Yh
   have Yu:(0:Int)≤Y2:=by clear p;exact (by assumption)
   have Ys:Y2 < (Y3.length:Int):=by clear p;exact (by assumption)
   have Yw:Y2 < (Yc.length:Int):=by clear p;exact (by simp_all<;>omega)
   have q {a C} (s:Scr a C):=p (sB Yh<|sK [8,8]<|sG (cI .i64) Y3 Y2 Yu Ys<|sG (cI .i64) Yc Y2 Yu Yw<|s)
   clear p
   cases Yl:((Y3.getD Y2.toNat default) != (Yc.getD Y2.toNat default)) with
   | true =>
    have YG:=bne_iff_ne.1 Yl
    have e:ZD Y3 Yc (k + 1) Y2=(.inl ()):=by simp only [ZD,Yh,Yl,cond_true]
    rw [e]
    exact outR (e := .ret) E0Ok Z2 [] (mR false [4,1,21]) [] (q (sB Yl<|sN)) (by kernel_rfl) (by intro h;cases h)
   | false =>
    have YG:=bne_eq_false_iff_eq.1 Yl
    have Yv:(-9223372036854775808:Int)≤(Y2 + 1):=by clear q;exact (by omega)
    have Yz:(Y2 + 1)≤(9223372036854775807:Int):=by clear q;exact (by omega)
    have e:ZD Y3 Yc (k + 1) Y2=(ZD Y3 Yc k (Y2 + 1)):=by simp only [ZD,Yh,Yl,cond_true,cond_false]
    rw [e]
    exact Xw E0Ok Z2 [] (mR false [0,2,3,6,15]) [] (ih (Y2 + 1) (show 0≤(Y2 + 1) from (by omega)) (by omega)) (q (sB Yl<|sI (Y2 + 1) Yv Yz<|sN)) (by kernel_rfl)
  | false =>
   have Yq:=odf Yh
   have e:ZD Y3 Yc (k + 1) Y2=(.inr ()):=by simp only [ZD,Yh,cond_false]
   rw [e]
   exact outR (e:=(.exit 0)) E0Ok Z2 [] (mR false [0,2,4,5,15]) [] (p (sB Yh<|sN)) (by kernel_rfl) (by intro h;cases h)
def Z1w (Y3:(List Int)) (Yc:(List Int)):(Unit) ⊕ (Unit):=(ZD Y3 Yc (((Y3.length:Int) - 0).toNat + 1) 0)
def Z17 (Y3:(List Int)) (Yc:(List Int)):Bool:=(cond ((Y3.length:Int) != (Yc.length:Int))
  false
  (match (Z1w Y3 Yc) with
    | .inl r2=>false
    | .inr r2=>true))
theorem Z58 (Y3:(List Int)) (Yc:(List Int)) (hp0:Y3.length≤1073741824) (hp1:Yc.length≤1073741824)  : Fn prog 70 [.sl (Y3.map (cI .i64)), .sl (Yc.map (cI .i64))] (.b (Z17 Y3 Yc)) []:=by
 have p {a C} (s:Scr a C):=sZ (cI .i64) Y3<|sZ (cI .i64) Yc<|s
 cases h0:((Y3.length:Int) != (Yc.length:Int)) with
 | true =>
  have gh0:=bne_iff_ne.1 h0
  refine fnS E0Ok Z2 (c:=X0 f70) [] (.b false) [] func70 (p (sB h0<|sK [] sN)) rfl (by kernel_rfl) (by kernel_rfl) rfl ?_ ?_
  · simp only [Z17,h0,cond_true]
  · rfl
 | false =>
  have gh0:=bne_eq_false_iff_eq.1 h0
  have q {a C} (s:Scr a C):=p (sB h0<|s)
  clear p
  cases h1:(Z1w Y3 Yc) with
  | inl r2 =>
   refine fnS E0Ok Z2 (c:=X0 f70) [] (.b false) [] func70 (q (sL (mR false [0,2,3,6,15]) 0 (X6 (Z20 Y3 Yc) (x:=(Z1w Y3 Yc)) (Z3t Y3 Yc hp0 hp1 h0 (((Y3.length:Int) - 0).toNat + 1) 0 (show 0≤0 from (by omega)) (Nat.lt_succ_self _)) h1)<|sK [] sN)) rfl (by kernel_rfl) (by kernel_rfl) rfl ?_ ?_
   · simp only [Z17,h0,h1,cond_false]
   · rfl
  | inr r2 =>
   refine fnS E0Ok Z2 (c:=X0 f70) [] (.b true) [] func70 (q (sL (mR false [0,2,3,6,15]) 0 (X6 (Z20 Y3 Yc) (x:=(Z1w Y3 Yc)) (Z3t Y3 Yc hp0 hp1 h0 (((Y3.length:Int) - 0).toNat + 1) 0 (show 0≤0 from (by omega)) (Nat.lt_succ_self _)) h1)<|sK [] sN)) rfl (by kernel_rfl) (by kernel_rfl) rfl ?_ ?_
   · simp only [Z17,h0,h1,cond_false]
   · rfl
theorem Z5o (a:List Int):Z17 a a=true:=by
  unfold Z17 Z1w
  rw [X2d (a:=a) (p:=fun v => !(v != v)) (lo:=ZD a a) (x:=()) (y:=()) (fun k i=>by rw [ZD];cases (a.getD i.toNat default != a.getD i.toNat default)<;>rfl)]
  rw [show (a.all fun v => !(v != v))=true from by rw [List.all_eq_true];intro v _;simp]
  simp
def ZG (Y3:(List (List Int))) (Yc:(List (List Int))):Nat→Int→(Unit) ⊕ (Unit)
  | 0,_ => .inl default
  | k + 1,Y2=>(cond (decide (Y2 < (Y3.length:Int)))
    (cond (Z17 (Y3.getD Y2.toNat default) (Yc.getD Y2.toNat default))
      (ZG Y3 Yc k (Y2 + 1))
      (.inl ()))
    (.inr ()))
def Z1Y (Y3:(List (List Int))) (Yc:(List (List Int))):(Unit) ⊕ (Unit)→Ex × St
  | .inl r=>(.ret,⟨an 4 (.b false :: an 22 []),[]⟩)
  | .inr r=>((.exit 0),⟨.sl (Y3.map (cL (cI .i64))) :: .sl (Yc.map (cL (cI .i64))) :: an 4 (.sl (Y3.map (cL (cI .i64))) :: .i .i64 (Y3.length:Int) :: .sl (Yc.map (cL (cI .i64))) :: .i .i64 (Yc.length:Int) :: .b ((Y3.length:Int) != (Yc.length:Int)) :: an 16 []),[]⟩)
def Z4o (Y3:(List (List Int))) (Yc:(List (List Int))) (Y2:Int):St:=⟨.sl (Y3.map (cL (cI .i64))) :: .sl (Yc.map (cL (cI .i64))) :: .any :: .any :: .any :: .i .i64 Y2 :: .sl (Y3.map (cL (cI .i64))) :: .i .i64 (Y3.length:Int) :: .sl (Yc.map (cL (cI .i64))) :: .i .i64 (Yc.length:Int) :: .b ((Y3.length:Int) != (Yc.length:Int)) :: an 16 [],[]⟩
theorem Z3j (Y3:(List (List Int))) (Yc:(List (List Int))) (hp0:Y3.length≤1073741824) (hp1:∀ t∈Y3,t.length≤1073741824) (hp2:Yc.length≤1073741824) (hp3:∀ t∈Yc,t.length≤1073741824) (Z5F:((Y3.length:Int) != (Yc.length:Int))=false):∀ (k:Nat) (Y2:Int) (Z2W:0≤Y2) (hk:((Y3.length:Int) - Y2).toNat < k),Lp prog 0 (sub (X0 f23) [1,1,0,1,0,0]) (Z4o Y3 Yc Y2) (Z1Y Y3 Yc (ZG Y3 Yc k Y2)).1 (Z1Y Y3 Yc (ZG Y3 Yc k Y2)).2:=by
 intro k
 induction k with
 | zero=>intro Y2 Z2W hk;exact absurd hk (Nat.not_lt_zero _)
 | succ k ih =>
  intro Y2 Z2W hk
  have p {a C} (s:Scr a C):=sZ (cL (cI .i64)) Y3<|s
  cases Yh:(decide (Y2 < (Y3.length:Int))) with
  | true =>
   have Yq:=odt Yh
   have Yu:(0:Int)≤Y2:=by clear p;exact (by assumption)
   have Ys:Y2 < (Y3.length:Int):=by clear p;exact (by assumption)
   have Yw:Y2 < (Yc.length:Int):=by clear p;exact (by simp_all<;>omega)
   have Yv:(Y3.getD Y2.toNat default).length≤1073741824:=by clear p;exact (by simp_all<;>omega)
   have Yz:(Yc.getD Y2.toNat default).length≤1073741824:=by clear p;exact (by simp_all<;>omega)
   have q {a C} (s:Scr a C):=p (sB Yh<|sK [8,8]<|sG (cL (cI .i64)) Y3 Y2 Yu Ys<|sG (cL (cI .i64)) Yc Y2 Yu Yw<|sF (Z58 (Y3.getD Y2.toNat default) (Yc.getD Y2.toNat default) Yv Yz)<|s)
   clear p
   cases Yl:(Z17 (Y3.getD Y2.toNat default) (Yc.getD Y2.toNat default)) with
   | true =>
    have YI:(-9223372036854775808:Int)≤(Y2 + 1):=by clear q;exact (by omega)
    have YV:(Y2 + 1)≤(9223372036854775807:Int):=by clear q;exact (by omega)
    have e:ZG Y3 Yc (k + 1) Y2=(ZG Y3 Yc k (Y2 + 1)):=by simp only [ZG,Yh,Yl,cond_true]
    rw [e]
    exact Xw E0Ok Z2 [] (mR false [0,2,3,6,16]) [] (ih (Y2 + 1) (show 0≤(Y2 + 1) from (by omega)) (by omega)) (q (sB' Yl<|sI (Y2 + 1) YI YV<|sN)) (by kernel_rfl)
   | false =>
    have e:ZG Y3 Yc (k + 1) Y2=(.inl ()):=by simp only [ZG,Yh,Yl,cond_true,cond_false]
    rw [e]
    exact outR (e := .ret) E0Ok Z2 [] (mR false [4,1,22]) [] (q (sB' Yl<|sN)) (by kernel_rfl) (by intro h;cases h)
  | false =>
   have Yq:=odf Yh
   have e:ZG Y3 Yc (k + 1) Y2=(.inr ()):=by simp only [ZG,Yh,cond_false]
   rw [e]
   exact outR (e:=(.exit 0)) E0Ok Z2 [] (mR false [0,2,4,5,16]) [] (p (sB Yh<|sN)) (by kernel_rfl) (by intro h;cases h)
def Z1t (Y3:(List (List Int))) (Yc:(List (List Int))):(Unit) ⊕ (Unit):=(ZG Y3 Yc (((Y3.length:Int) - 0).toNat + 1) 0)
def Z13 (Y3:(List (List Int))) (Yc:(List (List Int))):Bool:=(cond ((Y3.length:Int) != (Yc.length:Int))
  false
  (match (Z1t Y3 Yc) with
    | .inl r2=>false
    | .inr r2=>true))
theorem Z2e (Y3:(List (List Int))) (Yc:(List (List Int))) (hp0:Y3.length≤1073741824) (hp1:∀ t∈Y3,t.length≤1073741824) (hp2:Yc.length≤1073741824) (hp3:∀ t∈Yc,t.length≤1073741824)  : Fn prog 23 [.sl (Y3.map (cL (cI .i64))), .sl (Yc.map (cL (cI .i64)))] (.b (Z13 Y3 Yc)) []:=by
 have p {a C} (s:Scr a C):=sZ (cL (cI .i64)) Y3<|sZ (cL (cI .i64)) Yc<|s
 cases h0:((Y3.length:Int) != (Yc.length:Int)) with
 | true =>
  have gh0:=bne_iff_ne.1 h0
  refine fnS E0Ok Z2 (c:=X0 f23) [] (.b false) [] func23 (p (sB h0<|sK [] sN)) rfl (by kernel_rfl) (by kernel_rfl) rfl ?_ ?_
  · simp only [Z13,h0,cond_true]
  · rfl
 | false =>
  have gh0:=bne_eq_false_iff_eq.1 h0
  have q {a C} (s:Scr a C):=p (sB h0<|s)
  clear p
  cases h1:(Z1t Y3 Yc) with
  | inl r2 =>
   refine fnS E0Ok Z2 (c:=X0 f23) [] (.b false) [] func23 (q (sL (mR false [0,2,3,6,16]) 0 (X6 (Z1Y Y3 Yc) (x:=(Z1t Y3 Yc)) (Z3j Y3 Yc hp0 hp1 hp2 hp3 h0 (((Y3.length:Int) - 0).toNat + 1) 0 (show 0≤0 from (by omega)) (Nat.lt_succ_self _)) h1)<|sK [] sN)) rfl (by kernel_rfl) (by kernel_rfl) rfl ?_ ?_
   · simp only [Z13,h0,h1,cond_false]
   · rfl
  | inr r2 =>
   refine fnS E0Ok Z2 (c:=X0 f23) [] (.b true) [] func23 (q (sL (mR false [0,2,3,6,16]) 0 (X6 (Z1Y Y3 Yc) (x:=(Z1t Y3 Yc)) (Z3j Y3 Yc hp0 hp1 hp2 hp3 h0 (((Y3.length:Int) - 0).toNat + 1) 0 (show 0≤0 from (by omega)) (Nat.lt_succ_self _)) h1)<|sK [] sN)) rfl (by kernel_rfl) (by kernel_rfl) rfl ?_ ?_
   · simp only [Z13,h0,h1,cond_false]
   · rfl
theorem Z46 (a:List (List Int)):Z13 a a=true:=by
  unfold Z13 Z1t
  rw [X2d (a:=a) (p:=fun v=>Z17 v v) (lo:=ZG a a) (x:=()) (y:=()) (fun k i=>rfl)]
  rw [show (a.all fun v=>Z17 v v)=true from by rw [List.all_eq_true];intro v _;exact Z5o v]
  simp
def ZJ (Y3:Nat) (Yc:Nat):Bool:=(cond (fcmp .neq .f64 Y3 Y3)
  (fcmp .neq .f64 Yc Yc)
  (cond (fcmp .neq .f64 Yc Yc)
    false
    (cond (fcmp .eql .f64 Y3 0)
      (cond (fcmp .eql .f64 Yc 0)
        ((fcmp .gtr .f64 (fop .quo .f64 4607182418800017408 Y3) 0) == (fcmp .gtr .f64 (fop .quo .f64 4607182418800017408 Yc) 0))
        (fcmp .eql .f64 Y3 Yc))
      (fcmp .eql .f64 Y3 Yc))))
theorem Z2P (Y3:Nat) (Yc:Nat)   : Fn prog 11 [.f .f64 Y3, .f .f64 Yc] (.b (ZJ Y3 Yc)) []:=by
 cases h0:(fcmp .neq .f64 Y3 Y3) with
 | true =>
  refine fnS E0Ok Z2 (c:=X0 f11) [] (.b (fcmp .neq .f64 Yc Yc)) [] func11 (sB h0<|sB h0<|sB h0<|sB h0<|sB (show true=true from rfl)<|sB h0<|sB h0<|sB h0<|sB h0<|sK [] sN) rfl (by kernel_rfl) (by kernel_rfl) rfl ?_ ?_
  · simp only [ZJ,h0,cond_true]
  · rfl
 | false =>
  have p {a C} (s:Scr a C):=sB h0<|sB h0<|sB h0<|sB h0<|s
  cases h1:(fcmp .neq .f64 Yc Yc) with
  | true =>
   refine fnS E0Ok Z2 (c:=X0 f11) [] (.b false) [] func11 (p (sB h1<|sB h0<|sB h0<|sB h0<|sB h0<|sK [] sN)) rfl (by kernel_rfl) (by kernel_rfl) rfl ?_ ?_
   · simp only [ZJ,h0,h1,cond_true,cond_false]
   · rfl
  | false =>
   have q {a C} (s:Scr a C):=p (sB h1<|s)
   clear p
   cases h2:(fcmp .eql .f64 Y3 0) with
   | true =>
    have p {a C} (s:Scr a C):=q (sB h2<|sB h2<|sB h2<|s)
    clear q
    cases h3:(fcmp .eql .f64 Yc 0) with
    | true =>
     refine fnS E0Ok Z2 (c:=X0 f11) [] (.b ((fcmp .gtr .f64 (fop .quo .f64 4607182418800017408 Y3) 0) == (fcmp .gtr .f64 (fop .quo .f64 4607182418800017408 Yc) 0))) [] func11 (p (sB h3<|sK [] sN)) rfl (by kernel_rfl) (by kernel_rfl) rfl ?_ ?_
     · simp only [ZJ,h0,h1,h2,h3,cond_true,cond_false]
     · rfl
    | false =>
     refine fnS E0Ok Z2 (c:=X0 f11) [] (.b (fcmp .eql .f64 Y3 Yc)) [] func11 (p (sB h3<|sK [] sN)) rfl (by kernel_rfl) (by kernel_rfl) rfl ?_ ?_
     · simp only [ZJ,h0,h1,h2,h3,cond_true,cond_false]
     · rfl
   | false =>
    refine fnS E0Ok Z2 (c:=X0 f11) [] (.b (fcmp .eql .f64 Y3 Yc)) [] func11 (q (sB h2<|sB h2<|sB h2<|sB (show false=false from rfl)<|sK [] sN)) rfl (by kernel_rfl) (by kernel_rfl) rfl ?_ ?_
    · simp only [ZJ,h0,h1,h2,cond_false]
    · rfl
theorem Z5O (x:Nat):ZJ x x=true:=by
  unfold ZJ
  cases h:fcmp .neq .f64 x x
  · simp only [cond_false]
    have h2:fcmp .eql .f64 x x=true:=by
      unfold fcmp at h ⊢
      simpa using h
    cases fcmp .eql .f64 x 0<;>simp [h2]
  · rfl
def Z18 (Y3:Gv) (Yc:Gv):Bool:=(cond (ZJ (fcv .f32 .f64 Y3.X) (fcv .f32 .f64 Yc.X))
  (cond (ZJ (fcv .f32 .f64 Y3.Y) (fcv .f32 .f64 Yc.Y))
    (cond (ZJ (fcv .f32 .f64 Y3.Z) (fcv .f32 .f64 Yc.Z))
      true
      false)
    false)
  false)
theorem Z59 (Y3:Gv) (Yc:Gv)   : Fn prog 104 [.agg [.f .f32 Y3.X, .f .f32 Y3.Y, .f .f32 Y3.Z], .agg [.f .f32 Yc.X, .f .f32 Yc.Y, .f .f32 Yc.Z]] (.b (Z18 Y3 Yc)) []:=by
 have p {a C} (s:Scr a C):=sC (X23 Y3.X)<|sC (X23 Yc.X)<|sF (Z2P (fcv .f32 .f64 Y3.X) (fcv .f32 .f64 Yc.X))<|s
 cases h0:(ZJ (fcv .f32 .f64 Y3.X) (fcv .f32 .f64 Yc.X)) with
 | true =>
  have q {a C} (s:Scr a C):=p (sB' h0<|sC (X23 Y3.Y)<|sC (X23 Yc.Y)<|sF (Z2P (fcv .f32 .f64 Y3.Y) (fcv .f32 .f64 Yc.Y))<|s)
  clear p
  cases h1:(ZJ (fcv .f32 .f64 Y3.Y) (fcv .f32 .f64 Yc.Y)) with
  | true =>
   have p {a C} (s:Scr a C):=q (sB' h1<|sC (X23 Y3.Z)<|sC (X23 Yc.Z)<|sF (Z2P (fcv .f32 .f64 Y3.Z) (fcv .f32 .f64 Yc.Z))<|s)
   clear q
   cases h2:(ZJ (fcv .f32 .f64 Y3.Z) (fcv .f32 .f64 Yc.Z)) with
   | true =>
    refine fnS E0Ok Z2 (c:=X0 f104) [] (.b true) [] func104 (p (sB' h2<|sK [] sN)) rfl (by kernel_rfl) (by kernel_rfl) rfl ?_ ?_
    · simp only [Z18,h0,h1,h2,cond_true]
    · rfl
   | false =>
    refine fnS E0Ok Z2 (c:=X0 f104) [] (.b false) [] func104 (p (sB' h2<|sK [] sN)) rfl (by kernel_rfl) (by kernel_rfl) rfl ?_ ?_
    · simp only [Z18,h0,h1,h2,cond_true,cond_false]
    · rfl
  | false =>
   refine fnS E0Ok Z2 (c:=X0 f104) [] (.b false) [] func104 (q (sB' h1<|sK [] sN)) rfl (by kernel_rfl) (by kernel_rfl) rfl ?_ ?_
   · simp only [Z18,h0,h1,cond_true,cond_false]
   · rfl
 | false =>
  refine fnS E0Ok Z2 (c:=X0 f104) [] (.b false) [] func104 (p (sB' h0<|sK [] sN)) rfl (by kernel_rfl) (by kernel_rfl) rfl ?_ ?_
  · simp only [Z18,h0,cond_false]
  · rfl
theorem Z5p (a:Gv):Z18 a a=true:=by
  simp [Z18,Z5O]
def ZH (Y3:(List Gv)) (Yc:(List Gv)):Nat→Int→(Unit) ⊕ (Unit)
  | 0,_ => .inl default
  | k + 1,Y2=>(cond (decide (Y2 < (Y3.length:Int)))
    (cond (Z18 (Y3.getD Y2.toNat default) (Yc.getD Y2.toNat default))
      (ZH Y3 Yc k (Y2 + 1))
      (.inl ()))
    (.inr ()))
def Z1Z (Y3:(List Gv)) (Yc:(List Gv)):(Unit) ⊕ (Unit)→Ex × St
  | .inl r=>(.ret,⟨an 4 (.b false :: an 22 []),[]⟩)
  | .inr r=>((.exit 0),⟨.sl (Y3.map Gv.c) :: .sl (Yc.map Gv.c) :: an 4 (.sl (Y3.map Gv.c) :: .i .i64 (Y3.length:Int) :: .sl (Yc.map Gv.c) :: .i .i64 (Yc.length:Int) :: .b ((Y3.length:Int) != (Yc.length:Int)) :: an 16 []),[]⟩)
def Z4p (Y3:(List Gv)) (Yc:(List Gv)) (Y2:Int):St:=⟨.sl (Y3.map Gv.c) :: .sl (Yc.map Gv.c) :: .any :: .any :: .any :: .i .i64 Y2 :: .sl (Y3.map Gv.c) :: .i .i64 (Y3.length:Int) :: .sl (Yc.map Gv.c) :: .i .i64 (Yc.length:Int) :: .b ((Y3.length:Int) != (Yc.length:Int)) :: an 16 [],[]⟩
theorem Z3k (Y3:(List Gv)) (Yc:(List Gv)) (hp0:Y3.length≤1073741824) (hp1:Yc.length≤1073741824) (Z5G:((Y3.length:Int) != (Yc.length:Int))=false):∀ (k:Nat) (Y2:Int) (Z2X:0≤Y2) (hk:((Y3.length:Int) - Y2).toNat < k),Lp prog 0 (sub (X0 f60) [1,1,0,1,0,0]) (Z4p Y3 Yc Y2) (Z1Z Y3 Yc (ZH Y3 Yc k Y2)).1 (Z1Z Y3 Yc (ZH Y3 Yc k Y2)).2:=by
 intro k
 induction k with
 | zero=>intro Y2 Z2X hk;exact absurd hk (Nat.not_lt_zero _)
 | succ k ih =>
  intro Y2 Z2X hk
  have p {a C} (s:Scr a C):=sZ Gv.c Y3<|s
  cases Yh:(decide (Y2 < (Y3.length:Int))) with
  | true =>
   have Yq:=odt Yh
   have Yu:(0:Int)≤Y2:=by clear p;exact (by assumption)
   have Ys:Y2 < (Y3.length:Int):=by clear p;exact (by assumption)
   have Yw:Y2 < (Yc.length:Int):=by clear p;exact (by simp_all<;>omega)
   have q {a C} (s:Scr a C):=p (sB Yh<|sK [8,8]<|sG Gv.c Y3 Y2 Yu Ys<|sG Gv.c Yc Y2 Yu Yw<|sF (Z59 (Y3.getD Y2.toNat default) (Yc.getD Y2.toNat default))<|s)
   clear p
   cases Yl:(Z18 (Y3.getD Y2.toNat default) (Yc.getD Y2.toNat default)) with
   | true =>
    have Yv:(-9223372036854775808:Int)≤(Y2 + 1):=by clear q;exact (by omega)
    have Yz:(Y2 + 1)≤(9223372036854775807:Int):=by clear q;exact (by omega)
    have e:ZH Y3 Yc (k + 1) Y2=(ZH Y3 Yc k (Y2 + 1)):=by simp only [ZH,Yh,Yl,cond_true]
    rw [e]
    exact Xw E0Ok Z2 [] (mR false [0,2,3,6,16]) [] (ih (Y2 + 1) (show 0≤(Y2 + 1) from (by omega)) (by omega)) (q (sB' Yl<|sI (Y2 + 1) Yv Yz<|sN)) (by kernel_rfl)
   | false =>
    have e:ZH Y3 Yc (k + 1) Y2=(.inl ()):=by simp only [ZH,Yh,Yl,cond_true,cond_false]
    rw [e]
    exact outR (e := .ret) E0Ok Z2 [] (mR false [4,1,22]) [] (q (sB' Yl<|sN)) (by kernel_rfl) (by intro h;cases h)
  | false =>
   have Yq:=odf Yh
   have e:ZH Y3 Yc (k + 1) Y2=(.inr ()):=by simp only [ZH,Yh,cond_false]
   rw [e]
   exact outR (e:=(.exit 0)) E0Ok Z2 [] (mR false [0,2,4,5,16]) [] (p (sB Yh<|sN)) (by kernel_rfl) (by intro h;cases h)
def Z1u (Y3:(List Gv)) (Yc:(List Gv)):(Unit) ⊕ (Unit):=(ZH Y3 Yc (((Y3.length:Int) - 0).toNat + 1) 0)
def Z1h (Y3:(List Gv)) (Yc:(List Gv)):Bool:=(cond ((Y3.length:Int) != (Yc.length:Int))
  false
  (match (Z1u Y3 Yc) with
    | .inl r2=>false
    | .inr r2=>true))
theorem Z4U (Y3:(List Gv)) (Yc:(List Gv)) (hp0:Y3.length≤1073741824) (hp1:Yc.length≤1073741824)  : Fn prog 60 [.sl (Y3.map Gv.c), .sl (Yc.map Gv.c)] (.b (Z1h Y3 Yc)) []:=by
 have p {a C} (s:Scr a C):=sZ Gv.c Y3<|sZ Gv.c Yc<|s
 cases h0:((Y3.length:Int) != (Yc.length:Int)) with
 | true =>
  have gh0:=bne_iff_ne.1 h0
  refine fnS E0Ok Z2 (c:=X0 f60) [] (.b false) [] func60 (p (sB h0<|sK [] sN)) rfl (by kernel_rfl) (by kernel_rfl) rfl ?_ ?_
  · simp only [Z1h,h0,cond_true]
  · rfl
 | false =>
  have gh0:=bne_eq_false_iff_eq.1 h0
  have q {a C} (s:Scr a C):=p (sB h0<|s)
  clear p
  cases h1:(Z1u Y3 Yc) with
  | inl r2 =>
   refine fnS E0Ok Z2 (c:=X0 f60) [] (.b false) [] func60 (q (sL (mR false [0,2,3,6,16]) 0 (X6 (Z1Z Y3 Yc) (x:=(Z1u Y3 Yc)) (Z3k Y3 Yc hp0 hp1 h0 (((Y3.length:Int) - 0).toNat + 1) 0 (show 0≤0 from (by omega)) (Nat.lt_succ_self _)) h1)<|sK [] sN)) rfl (by kernel_rfl) (by kernel_rfl) rfl ?_ ?_
   · simp only [Z1h,h0,h1,cond_false]
   · rfl
  | inr r2 =>
   refine fnS E0Ok Z2 (c:=X0 f60) [] (.b true) [] func60 (q (sL (mR false [0,2,3,6,16]) 0 (X6 (Z1Z Y3 Yc) (x:=(Z1u Y3 Yc)) (Z3k Y3 Yc hp0 hp1 h0 (((Y3.length:Int) - 0).toNat + 1) 0 (show 0≤0 from (by omega)) (Nat.lt_succ_self _)) h1)<|sK [] sN)) rfl (by kernel_rfl) (by kernel_rfl) rfl ?_ ?_
   · simp only [Z1h,h0,h1,cond_false]
   · rfl
theorem Z5e (a:List Gv):Z1h a a=true:=by
  unfold Z1h Z1u
  rw [X7r (a:=a) (p:=fun v=>Z18 v v) (lo:=ZH a a) (x:=()) (y:=()) (fun k i=>rfl) (fun v _=>Z5p v) _ _ (Int.le_refl 0) (Nat.lt_succ_self _)]
  simp
def Z1x (Y3:Gm) (Yc:Gm):Bool:=(cond (Z1h Y3.Pq Yc.Pq)
  (cond (Z13 Y3.Tr Yc.Tr)
    true
    false)
  false)
theorem Z5q (Y3:Gm) (Yc:Gm) (hp0:Y3.Pq.length≤1073741824) (hp1:Y3.Tr.length≤1073741824) (hp2:∀ t∈Y3.Tr,t.length≤1073741824) (hp3:Yc.Pq.length≤1073741824) (hp4:Yc.Tr.length≤1073741824) (hp5:∀ t∈Yc.Tr,t.length≤1073741824)  : Fn prog 16 [.agg [.sl (Y3.Pq.map Gv.c), .sl (Y3.Tr.map (cL (cI .i64)))], .agg [.sl (Yc.Pq.map Gv.c), .sl (Yc.Tr.map (cL (cI .i64)))]] (.b (Z1x Y3 Yc)) []:=by
 have p {a C} (s:Scr a C):=sF (Z4U Y3.Pq Yc.Pq hp0 hp3)<|s
 cases h0:(Z1h Y3.Pq Yc.Pq) with
 | true =>
  have q {a C} (s:Scr a C):=p (sB' h0<|sF (Z2e Y3.Tr Yc.Tr hp1 hp2 hp4 hp5)<|s)
  clear p
  cases h1:(Z13 Y3.Tr Yc.Tr) with
  | true =>
   refine fnS E0Ok Z2 (c:=X0 f16) [] (.b true) [] func16 (q (sB' h1<|sK [] sN)) rfl (by kernel_rfl) (by kernel_rfl) rfl ?_ ?_
   · simp only [Z1x,h0,h1,cond_true]
   · rfl
  | false =>
   refine fnS E0Ok Z2 (c:=X0 f16) [] (.b false) [] func16 (q (sB' h1<|sK [] sN)) rfl (by kernel_rfl) (by kernel_rfl) rfl ?_ ?_
   · simp only [Z1x,h0,h1,cond_true,cond_false]
   · rfl
 | false =>
  refine fnS E0Ok Z2 (c:=X0 f16) [] (.b false) [] func16 (p (sB' h0<|sK [] sN)) rfl (by kernel_rfl) (by kernel_rfl) rfl ?_ ?_
  · simp only [Z1x,h0,cond_false]
  · rfl
theorem Z5y (a:Gm):Z1x a a=true:=by
  simp [Z1x,Z5e,Z46]
def Zz (Y3:(List Gv)) (Yj:Int):Nat→Int→Int→(List Gv)→Int × (List Gv)
  | 0,_,_,_=>default
  | k + 1,Y8,Y6,Y9=>(cond (decide (Y6 < (Y9.length:Int)))
    (Zz Y3 Yj k (IntKind.wrap .i64 ((IntKind.wrap .i64 ((IntKind.wrap .i64 (Y8 + 1)) + 1)) + 1)) (Y6 + 1) (Y9.set Y6.toNat (⟨(X5 .f32 Y8),(X5 .f32 (IntKind.wrap .i64 (Y8 + 1))),(X5 .f32 (IntKind.wrap .i64 ((IntKind.wrap .i64 (Y8 + 1)) + 1)))⟩:Gv)))
    (Y8,Y9))
def Z1N (Y3:(List Gv)) (Yj:Int) (r:Int × (List Gv)):Ex × St:=((.exit 0),⟨.any :: .i .i64 r.1 :: .any :: .any :: .i .i64 0 :: an 32 [],[.vec 62 3 (r.2.map Gv.c) false]⟩)
def Z2t (Y3:(List Gv)) (Yj:Int) (Y8:Int) (Y6:Int) (Y9:(List Gv)):St:=⟨.own 0 :: .i .i64 Y8 :: .any :: .any :: .i .i64 0 :: .i .i64 Y6 :: an 31 [],[.vec 62 3 (Y9.map Gv.c) false]⟩
theorem Z3G (Y3:(List Gv)) (Yj:Int) (hp0:Y3.length≤1073741824):∀ (k:Nat) (Y8:Int) (Y6:Int) (Y9:(List Gv)) (Z26:0≤Y6) (Z27:Y9.length=Y3.length) (hk:((Y3.length:Int) - Y6).toNat < k),Lp prog 1 (sub (X0 f61) [1,0,1,0,0]) (Z2t Y3 Yj Y8 Y6 Y9) (Z1N Y3 Yj (Zz Y3 Yj k Y8 Y6 Y9)).1 (Z1N Y3 Yj (Zz Y3 Yj k Y8 Y6 Y9)).2:=by
 intro k
 induction k with
 | zero=>intro Y8 Y6 Y9 Z26 Z27 hk;exact absurd hk (Nat.not_lt_zero _)
 | succ k ih =>
  intro Y8 Y6 Y9 Z26 Z27 hk
  have p {a C} (s:Scr a C):=sZ Gv.c Y9<|s
  cases Yh:(decide (Y6 < (Y9.length:Int))) with
  | true =>
   have Yq:=odt Yh
   have Yu:(0:Int)≤Y6:=by clear p;exact (by assumption)
   have Ys:Y6 < (Y9.length:Int):=by clear p;exact (by assumption)
   have Yw:Y6.toNat < Y9.length:=by clear p;exact (by omega)
   have Yv:Y6 < ((Y9.set Y6.toNat (⟨(X5 .f32 Y8),(Y9.getD Y6.toNat default).Y,(Y9.getD Y6.toNat default).Z⟩:Gv)).length:Int):=by clear p;exact (by simp_all<;>omega)
   have Yz:Y6 < ((Y9.set Y6.toNat (⟨(X5 .f32 Y8),(X5 .f32 (IntKind.wrap .i64 (Y8 + 1))),(Y9.getD Y6.toNat default).Z⟩:Gv)).length:Int):=by clear p;exact (by simp_all<;>omega)
   have YI:(-9223372036854775808:Int)≤(Y6 + 1):=by clear p;exact (by omega)
   have YV:(Y6 + 1)≤(9223372036854775807:Int):=by clear p;exact (by omega)
   have e:Zz Y3 Yj (k + 1) Y8 Y6 Y9=(Zz Y3 Yj k (IntKind.wrap .i64 ((IntKind.wrap .i64 ((IntKind.wrap .i64 (Y8 + 1)) + 1)) + 1)) (Y6 + 1) (Y9.set Y6.toNat (⟨(X5 .f32 Y8),(X5 .f32 (IntKind.wrap .i64 (Y8 + 1))),(X5 .f32 (IntKind.wrap .i64 ((IntKind.wrap .i64 (Y8 + 1)) + 1)))⟩:Gv))):=by simp only [Zz,Yh,cond_true]
   rw [e]
   exact XP (EpOk 1) Z2 [] (mR false [0,2,2,2,31]) [] (⟨.own 0 :: .i .i64 (IntKind.wrap .i64 ((IntKind.wrap .i64 ((IntKind.wrap .i64 (Y8 + 1)) + 1)) + 1)) :: .any :: .any :: .i .i64 0 :: .i .i64 (Y6 + 1) :: an 31 [],[.vec 62 3 ((((Y9.map Gv.c).set Y6.toNat [.f .f32 (X5 .f32 Y8), .f .f32 ((Y9.getD Y6.toNat default).Y), .f .f32 ((Y9.getD Y6.toNat default).Z)]).set Y6.toNat [.f .f32 (X5 .f32 Y8), .f .f32 (X5 .f32 (IntKind.wrap .i64 (Y8 + 1))), .f .f32 ((Y9.getD Y6.toNat default).Z)]).set Y6.toNat [.f .f32 (X5 .f32 Y8), .f .f32 (X5 .f32 (IntKind.wrap .i64 (Y8 + 1))), .f .f32 (X5 .f32 (IntKind.wrap .i64 ((IntKind.wrap .i64 (Y8 + 1)) + 1)))]) false]⟩) (p (sB Yh<|sX Gv.c Y9 Y6 Yu Ys<|sV Gv.c Y9 Y6.toNat Yw<|sW .i64 (Y8 + 1)<|sC (show 0≤Y6∧Int.toNat Y6 < ((Y9.map Gv.c).set Y6.toNat [.f .f32 (X5 .f32 Y8), .f .f32 ((Y9.getD Y6.toNat default).Y), .f .f32 ((Y9.getD Y6.toNat default).Z)]).length from (by simpa using X3T (c:=Gv.c) (l:=(Y9.set Y6.toNat (⟨(X5 .f32 Y8),(Y9.getD Y6.toNat default).Y,(Y9.getD Y6.toNat default).Z⟩:Gv))) (i:=Y6) Yu Yv))<|sE (show ((Y9.map Gv.c).set Y6.toNat [.f .f32 (X5 .f32 Y8), .f .f32 ((Y9.getD Y6.toNat default).Y), .f .f32 ((Y9.getD Y6.toNat default).Z)])[Y6.toNat]? = some [.f .f32 (X5 .f32 Y8), .f .f32 ((Y9.getD Y6.toNat default).Y), .f .f32 ((Y9.getD Y6.toNat default).Z)] from List.getElem?_set_self (by simpa using Yw))<|sW .i64 ((IntKind.wrap .i64 (Y8 + 1)) + 1)<|sC (show 0≤Y6∧Int.toNat Y6 < (((Y9.map Gv.c).set Y6.toNat [.f .f32 (X5 .f32 Y8), .f .f32 ((Y9.getD Y6.toNat default).Y), .f .f32 ((Y9.getD Y6.toNat default).Z)]).set Y6.toNat [.f .f32 (X5 .f32 Y8), .f .f32 (X5 .f32 (IntKind.wrap .i64 (Y8 + 1))), .f .f32 ((Y9.getD Y6.toNat default).Z)]).length from (by simpa using X3T (c:=Gv.c) (l:=(Y9.set Y6.toNat (⟨(X5 .f32 Y8),(X5 .f32 (IntKind.wrap .i64 (Y8 + 1))),(Y9.getD Y6.toNat default).Z⟩:Gv))) (i:=Y6) Yu Yz))<|sE (show (((Y9.map Gv.c).set Y6.toNat [.f .f32 (X5 .f32 Y8), .f .f32 ((Y9.getD Y6.toNat default).Y), .f .f32 ((Y9.getD Y6.toNat default).Z)]).set Y6.toNat [.f .f32 (X5 .f32 Y8), .f .f32 (X5 .f32 (IntKind.wrap .i64 (Y8 + 1))), .f .f32 ((Y9.getD Y6.toNat default).Z)])[Y6.toNat]? = some [.f .f32 (X5 .f32 Y8), .f .f32 (X5 .f32 (IntKind.wrap .i64 (Y8 + 1))), .f .f32 ((Y9.getD Y6.toNat default).Z)] from List.getElem?_set_self (by simpa using Yw))<|sW .i64 ((IntKind.wrap .i64 ((IntKind.wrap .i64 (Y8 + 1)) + 1)) + 1)<|sI (Y6 + 1) YI YV<|sN)) (by kernel_rfl) (by simp [Z2t,List.map_set,Gv.c]) (ih (IntKind.wrap .i64 ((IntKind.wrap .i64 ((IntKind.wrap .i64 (Y8 + 1)) + 1)) + 1)) (Y6 + 1) (Y9.set Y6.toNat (⟨(X5 .f32 Y8),(X5 .f32 (IntKind.wrap .i64 (Y8 + 1))),(X5 .f32 (IntKind.wrap .i64 ((IntKind.wrap .i64 (Y8 + 1)) + 1)))⟩:Gv)) (show 0≤(Y6 + 1) from (by omega)) (show (Y9.set Y6.toNat (⟨(X5 .f32 Y8),(X5 .f32 (IntKind.wrap .i64 (Y8 + 1))),(X5 .f32 (IntKind.wrap .i64 ((IntKind.wrap .i64 (Y8 + 1)) + 1)))⟩:Gv)).length=Y3.length from (by simp_all<;>omega)) (by omega))
  | false =>
   have Yq:=odf Yh
   have e:Zz Y3 Yj (k + 1) Y8 Y6 Y9=(Y8,Y9):=by simp only [Zz,Yh,cond_false]
   rw [e]
   exact outR (e:=(.exit 0)) (EpOk 1) Z2 [] (mR false [1,1,2,1,32]) [] (p (sB Yh<|sN)) (by kernel_rfl) (by intro h;cases h)
def ZY (Y3:(List Gv)) (Yj:Int):Int × (List Gv):=(Zz Y3 Yj (((Y3.length:Int) - 0).toNat + 1) Yj 0 Y3)
def Zg (Y3:(List Gv)) (Yj:Int):Int × (List Gv):=((ZY Y3 Yj).1,(ZY Y3 Yj).2)
theorem Z41 (Y3:(List Gv)) (Yj:Int) (hp0:Y3.length≤1073741824)  : Xa prog 61 [.vec 62 3 (Y3.map Gv.c) false] [.own 0, .i .i64 Yj] (.i .i64 ((Zg Y3 Yj).1)) [.vec 62 3 (((Zg Y3 Yj).2).map Gv.c) false]:=by
 refine X4S (EpOk 1) Z2 (c:=X0 f61) [.vec 62 3 (Y3.map Gv.c) false] [] (.i .i64 ((ZY Y3 Yj).1)) [.vec 62 3 (((ZY Y3 Yj).2).map Gv.c) false] func61 (sL (mR false [0,2,2,2,31]) 1 (X6 (Z1N Y3 Yj) (x:=(ZY Y3 Yj)) (Z3G Y3 Yj hp0 (((Y3.length:Int) - 0).toNat + 1) Yj 0 Y3 (show 0≤0 from (by omega)) (show Y3.length=Y3.length from (by simp)) (Nat.lt_succ_self _)) rfl)<|sK [] sN) rfl (by kernel_rfl) (by kernel_rfl) ?_ ?_
 · rfl
 · simp [Zg]
def Z2O (_:Gv) (c:Int):Int × Gv:=((IntKind.wrap .i64 ((IntKind.wrap .i64 ((IntKind.wrap .i64 (c + 1)) + 1)) + 1)),⟨X5 .f32 c,X5 .f32 (IntKind.wrap .i64 (c + 1)),X5 .f32 (IntKind.wrap .i64 ((IntKind.wrap .i64 (c + 1)) + 1))⟩)
theorem Z5a (a:List Gv) (c:Int):Zg a c=mkL Z2O a c:=by
  unfold Zg ZY
  rw [X3a (f:=Z2O) (lo:=Zz a c) (fun k c i r=>rfl) _ _ _ _ (Int.le_refl 0) (Nat.lt_succ_self _)]
  simp
theorem Z4F (a:List Gv) (c:Int) (g0:a.length≤1073741824) (h0:0≤c) (h1:c≤4611686018427387904):c≤(Zg a c).1∧(Zg a c).1≤c + 3221225472:=by
  rw [Z5a]
  have q:=X7e (f:=Z2O) (W:=3) a c (fun x _ c k0 k1=>by simp only [Z2O];rw [XV (n:=c + 1) (by omega) (by omega),show c + 1 + 1=c + 2 from by omega,XV (n:=c + 2) (by omega) (by omega),show c + 2 + 1=c + 3 from by omega,XV (n:=c + 3) (by omega) (by omega)];omega) h0 (by omega)
  omega
def Zd (Y3:(List Int)) (Yj:Int):Nat→Int→Int→(List Int)→Int × (List Int)
  | 0,_,_,_=>default
  | k + 1,Y8,Y6,Y9=>(cond (decide (Y6 < (Y9.length:Int)))
    (Zd Y3 Yj k (IntKind.wrap .i64 (Y8 + 1)) (Y6 + 1) (Y9.set Y6.toNat Y8))
    (Y8,Y9))
def Z1T (ty:Nat) (Y3:(List Int)) (Yj:Int) (r:Int × (List Int)):Ex × St:=((.exit 0),⟨.any :: .i .i64 r.1 :: .any :: .any :: .i .i64 0 :: an 14 [],[.vec ty 1 (r.2.map (cI .i64)) false]⟩)
def Z2F (ty:Nat) (Y3:(List Int)) (Yj:Int) (Y8:Int) (Y6:Int) (Y9:(List Int)):St:=⟨.own 0 :: .i .i64 Y8 :: .any :: .any :: .i .i64 0 :: .i .i64 Y6 :: an 13 [],[.vec ty 1 (Y9.map (cI .i64)) false]⟩
theorem Z3S (ty:Nat) (Y3:(List Int)) (Yj:Int) (hp0:Y3.length≤1073741824):∀ (k:Nat) (Y8:Int) (Y6:Int) (Y9:(List Int)) (Z2h:0≤Y6) (Z2i:Y9.length=Y3.length) (hk:((Y3.length:Int) - Y6).toNat < k),Lp prog 1 (sub (X0 f71) [1,0,1,0,0]) (Z2F ty Y3 Yj Y8 Y6 Y9) (Z1T ty Y3 Yj (Zd Y3 Yj k Y8 Y6 Y9)).1 (Z1T ty Y3 Yj (Zd Y3 Yj k Y8 Y6 Y9)).2:=by
 intro k
 induction k with
 | zero=>intro Y8 Y6 Y9 Z2h Z2i hk;exact absurd hk (Nat.not_lt_zero _)
 | succ k ih =>
  intro Y8 Y6 Y9 Z2h Z2i hk
  have p {a C} (s:Scr a C):=sZ (cI .i64) Y9<|s
  cases Yh:(decide (Y6 < (Y9.length:Int))) with
  | true =>
   have Yq:=odt Yh
   have Yu:(0:Int)≤Y6:=by clear p;exact (by assumption)
   have Ys:Y6 < (Y9.length:Int):=by clear p;exact (by assumption)
   have Yw:Y6.toNat < Y9.length:=by clear p;exact (by omega)
   have Yv:(-9223372036854775808:Int)≤(Y6 + 1):=by clear p;exact (by omega)
   have Yz:(Y6 + 1)≤(9223372036854775807:Int):=by clear p;exact (by omega)
   have e:Zd Y3 Yj (k + 1) Y8 Y6 Y9=(Zd Y3 Yj k (IntKind.wrap .i64 (Y8 + 1)) (Y6 + 1) (Y9.set Y6.toNat Y8)):=by simp only [Zd,Yh,cond_true]
   rw [e]
   exact XP (EpOk 1) Z2 [] (mR false [0,2,2,2,13]) [] (⟨.own 0 :: .i .i64 (IntKind.wrap .i64 (Y8 + 1)) :: .any :: .any :: .i .i64 0 :: .i .i64 (Y6 + 1) :: an 13 [],[.vec ty 1 ((Y9.map (cI .i64)).set Y6.toNat [.i .i64 Y8]) false]⟩) (p (sB Yh<|sX (cI .i64) Y9 Y6 Yu Ys<|sC (X4R (c:=(cI .i64)) (l:=Y9) Yw)<|sW .i64 (Y8 + 1)<|sI (Y6 + 1) Yv Yz<|sN)) (by kernel_rfl) (by simp [Z2F,List.map_set,cI]) (ih (IntKind.wrap .i64 (Y8 + 1)) (Y6 + 1) (Y9.set Y6.toNat Y8) (show 0≤(Y6 + 1) from (by omega)) (show (Y9.set Y6.toNat Y8).length=Y3.length from (by simp_all<;>omega)) (by omega))
  | false =>
   have Yq:=odf Yh
   have e:Zd Y3 Yj (k + 1) Y8 Y6 Y9=(Y8,Y9):=by simp only [Zd,Yh,cond_false]
   rw [e]
   exact outR (e:=(.exit 0)) (EpOk 1) Z2 [] (mR false [1,1,2,1,14]) [] (p (sB Yh<|sN)) (by kernel_rfl) (by intro h;cases h)
theorem Z3z (Y3:(List Int)) (Yj:Int):∀ (k:Nat) (Y8:Int) (Y6:Int) (Y9:(List Int)) (hk:((Y9.length:Int) - Y6).toNat < k),(Zd Y3 Yj k Y8 Y6 Y9).2.length=Y9.length:=by
  intro k
  induction k with
  | zero=>intro Y8 Y6 Y9 hk;exact absurd hk (Nat.not_lt_zero _)
  | succ k ih =>
    intro Y8 Y6 Y9 hk
    cases Yh:(decide (Y6 < (Y9.length:Int))) with
    | true =>
      have e:Zd Y3 Yj (k + 1) Y8 Y6 Y9=(Zd Y3 Yj k (IntKind.wrap .i64 (Y8 + 1)) (Y6 + 1) (Y9.set Y6.toNat Y8)):=by simp only [Zd,Yh,cond_true]
      rw [e,ih (IntKind.wrap .i64 (Y8 + 1)) (Y6 + 1) (Y9.set Y6.toNat Y8) (by simp_all<;>omega)];simp
    | false =>
      have e:Zd Y3 Yj (k + 1) Y8 Y6 Y9=(Y8,Y9):=by simp only [Zd,Yh,cond_false]
      first | (rw [e];done) | (rw [e];rfl)
def ZS (Y3:(List Int)) (Yj:Int):Int × (List Int):=(Zd Y3 Yj (((Y3.length:Int) - 0).toNat + 1) Yj 0 Y3)
@[simp] theorem Z4V (Y3:(List Int)) (Yj:Int):(ZS Y3 Yj).2.length=(Y3:(List Int)).length:=Z3z Y3 Yj (((Y3.length:Int) - 0).toNat + 1) Yj 0 Y3 (by exact Nat.lt_succ_self _)
def Z6 (Y3:(List Int)) (Yj:Int):Int × (List Int):=((ZS Y3 Yj).1,(ZS Y3 Yj).2)
@[simp] theorem Z28 (Y3:(List Int)) (Yj:Int):(Z6 Y3 Yj).2.length=Y3.length:=by
  first | (simp [Z6];done)
theorem Z47 (ty:Nat) (Y3:(List Int)) (Yj:Int) (hp0:Y3.length≤1073741824)  : Xa prog 71 [.vec ty 1 (Y3.map (cI .i64)) false] [.own 0, .i .i64 Yj] (.i .i64 ((Z6 Y3 Yj).1)) [.vec ty 1 (((Z6 Y3 Yj).2).map (cI .i64)) false]:=by
 refine X4S (EpOk 1) Z2 (c:=X0 f71) [.vec ty 1 (Y3.map (cI .i64)) false] [] (.i .i64 ((ZS Y3 Yj).1)) [.vec ty 1 (((ZS Y3 Yj).2).map (cI .i64)) false] func71 (sL (mR false [0,2,2,2,13]) 1 (X6 (Z1T ty Y3 Yj) (x:=(ZS Y3 Yj)) (Z3S ty Y3 Yj hp0 (((Y3.length:Int) - 0).toNat + 1) Yj 0 Y3 (show 0≤0 from (by omega)) (show Y3.length=Y3.length from (by simp)) (Nat.lt_succ_self _)) rfl)<|sK [] sN) rfl (by kernel_rfl) (by kernel_rfl) ?_ ?_
 · rfl
 · simp [Z6]
def Z2G (_:Int) (c:Int):Int × Int:=((IntKind.wrap .i64 (c + 1)),c)
theorem Z48 (a:List Int) (c:Int):Z6 a c=mkL Z2G a c:=by
  unfold Z6 ZS
  rw [X3a (f:=Z2G) (lo:=Zd a c) (fun k c i r=>rfl) _ _ _ _ (Int.le_refl 0) (Nat.lt_succ_self _)]
  simp
theorem Z3T (a:List Int) (c:Int) (g0:a.length≤1073741824) (h0:0≤c) (h1:c≤4611686018427387904):c≤(Z6 a c).1∧(Z6 a c).1≤c + 1073741824:=by
  rw [Z48]
  have q:=X7e (f:=Z2G) (W:=1) a c (fun x _ c k0 k1=>by simp only [Z2G];rw [XV (n:=c + 1) (by omega) (by omega)];omega) h0 (by omega)
  omega
def Za (Y3:(List (List Int))) (Yj:Int):Nat→Int→Int→(List (List Int))→Int × (List (List Int))
  | 0,_,_,_=>default
  | k + 1,Y8,Y6,Y9=>(cond (decide (Y6 < (Y9.length:Int)))
    (Za Y3 Yj k ((Z6 (Y9.getD Y6.toNat default) Y8).1) (Y6 + 1) (Y9.set Y6.toNat ((Z6 (Y9.getD Y6.toNat default) Y8).2)))
    (Y8,Y9))
def Z1O (Y3:(List (List Int))) (Yj:Int) (r:Int × (List (List Int))):Ex × St:=((.exit 0),⟨.any :: .i .i64 r.1 :: .any :: .any :: .i .i64 0 :: an 14 [],[.nest 79 (r.2.map fun l=>l.map (cI .i64)) false]⟩)
def Z2u (Y3:(List (List Int))) (Yj:Int) (Y8:Int) (Y6:Int) (Y9:(List (List Int))):St:=⟨.own 0 :: .i .i64 Y8 :: .any :: .any :: .i .i64 0 :: .i .i64 Y6 :: an 13 [],[.nest 79 (Y9.map fun l=>l.map (cI .i64)) false]⟩
theorem Z3H (Y3:(List (List Int))) (Yj:Int) (hp0:Y3.length≤1073741824) (hp1:∀ t∈Y3,t.length≤1073741824):∀ (k:Nat) (Y8:Int) (Y6:Int) (Y9:(List (List Int))) (Z29:0≤Y6) (Z2a:Y9.length=Y3.length) (Z1b:∀ t∈Y9,t.length≤1073741824) (hk:((Y3.length:Int) - Y6).toNat < k),Lp prog 1 (sub (X0 f24) [1,0,1,0,0]) (Z2u Y3 Yj Y8 Y6 Y9) (Z1O Y3 Yj (Za Y3 Yj k Y8 Y6 Y9)).1 (Z1O Y3 Yj (Za Y3 Yj k Y8 Y6 Y9)).2:=by
 intro k
 induction k with
 | zero=>intro Y8 Y6 Y9 Z29 Z2a Z1b hk;exact absurd hk (Nat.not_lt_zero _)
 | succ k ih =>
  intro Y8 Y6 Y9 Z29 Z2a Z1b hk
  have p {a C} (s:Scr a C):=sM (X6d (l:=Y9) (f:=fun l=>l.map (cI .i64)))<|s
  cases Yh:(decide (Y6 < (Y9.length:Int))) with
  | true =>
   have Yq:=odt Yh
   have Yu:(0:Int)≤Y6:=by clear p;exact (by assumption)
   have Ys:Int.toNat Y6 < Y9.length:=by clear p;exact (by omega)
   have Yw:Y6.toNat < Y9.length:=by clear p;exact (by assumption)
   have Yv:(Y9.getD Y6.toNat default).length≤1073741824:=by clear p;exact (by exact X7f Z1b)
   have Yz:(-9223372036854775808:Int)≤(Y6 + 1):=by clear p;exact (by omega)
   have YI:(Y6 + 1)≤(9223372036854775807:Int):=by clear p;exact (by omega)
   have e:Za Y3 Yj (k + 1) Y8 Y6 Y9=(Za Y3 Yj k ((Z6 (Y9.getD Y6.toNat default) Y8).1) (Y6 + 1) (Y9.set Y6.toNat ((Z6 (Y9.getD Y6.toNat default) Y8).2))):=by simp only [Za,Yh,cond_true]
   rw [e]
   exact XP (EpOk 1) Z2 [] (mR false [0,2,2,2,13]) [] (⟨.own 0 :: .i .i64 ((Z6 (Y9.getD Y6.toNat default) Y8).1) :: .any :: .any :: .i .i64 0 :: .i .i64 (Y6 + 1) :: an 13 [],[.nest 79 ((Y9.map fun l=>l.map (cI .i64)).set Y6.toNat (((Z6 (Y9.getD Y6.toNat default) Y8).2).map (cI .i64))) false]⟩) (p (sB Yh<|sC (X3c (c:=(cI .i64)) (l:=Y9) (i:=Y6) Yu Ys)<|sC (X3b (c:=(cI .i64)) (l:=Y9) Yw)<|sS (Xa.frameInn (R:=[.nest 79 (Y9.map fun l=>l.map (cI .i64)) false]) (q:=0) (j:=Y6.toNat) (args:=[.i .i64 Y8]) (fun ty=>Z47 ty (Y9.getD Y6.toNat default) Y8 Yv) rfl rfl (by simp) rfl (X6P Yw))<|sI (Y6 + 1) Yz YI<|sN)) (by kernel_rfl) (by simp [Z2u,List.map_set,cL,cI]) (ih ((Z6 (Y9.getD Y6.toNat default) Y8).1) (Y6 + 1) (Y9.set Y6.toNat ((Z6 (Y9.getD Y6.toNat default) Y8).2)) (show 0≤(Y6 + 1) from (by omega)) (show (Y9.set Y6.toNat ((Z6 (Y9.getD Y6.toNat default) Y8).2)).length=Y3.length from (by simp;assumption)) (show ∀ t∈(Y9.set Y6.toNat ((Z6 (Y9.getD Y6.toNat default) Y8).2)),t.length≤1073741824 from (by intro t ht;rcases List.mem_or_eq_of_mem_set ht with h | h;(exact Z1b t h);(rw [h];simp only [Z28];exact X7f Z1b))) (by omega))
  | false =>
   have Yq:=odf Yh
   have e:Za Y3 Yj (k + 1) Y8 Y6 Y9=(Y8,Y9):=by simp only [Za,Yh,cond_false]
   rw [e]
   exact outR (e:=(.exit 0)) (EpOk 1) Z2 [] (mR false [1,1,2,1,14]) [] (p (sB Yh<|sN)) (by kernel_rfl) (by intro h;cases h)
theorem Z3u (Y3:(List (List Int))) (Yj:Int):∀ (k:Nat) (Y8:Int) (Y6:Int) (Y9:(List (List Int))) (hk:((Y9.length:Int) - Y6).toNat < k),(Za Y3 Yj k Y8 Y6 Y9).2.length=Y9.length:=by
  intro k
  induction k with
  | zero=>intro Y8 Y6 Y9 hk;exact absurd hk (Nat.not_lt_zero _)
  | succ k ih =>
    intro Y8 Y6 Y9 hk
    cases Yh:(decide (Y6 < (Y9.length:Int))) with
    | true =>
      have e:Za Y3 Yj (k + 1) Y8 Y6 Y9=(Za Y3 Yj k ((Z6 (Y9.getD Y6.toNat default) Y8).1) (Y6 + 1) (Y9.set Y6.toNat ((Z6 (Y9.getD Y6.toNat default) Y8).2))):=by simp only [Za,Yh,cond_true]
      rw [e,ih ((Z6 (Y9.getD Y6.toNat default) Y8).1) (Y6 + 1) (Y9.set Y6.toNat ((Z6 (Y9.getD Y6.toNat default) Y8).2)) (by simp_all<;>omega)];simp
    | false =>
      have e:Za Y3 Yj (k + 1) Y8 Y6 Y9=(Y8,Y9):=by simp only [Za,Yh,cond_false]
      first | (rw [e];done) | (rw [e];rfl)
def ZP (Y3:(List (List Int))) (Yj:Int):Int × (List (List Int)):=(Za Y3 Yj (((Y3.length:Int) - 0).toNat + 1) Yj 0 Y3)
@[simp] theorem Z4I (Y3:(List (List Int))) (Yj:Int):(ZP Y3 Yj).2.length=(Y3:(List (List Int))).length:=Z3u Y3 Yj (((Y3.length:Int) - 0).toNat + 1) Yj 0 Y3 (by exact Nat.lt_succ_self _)
def Z5 (Y3:(List (List Int))) (Yj:Int):Int × (List (List Int)):=((ZP Y3 Yj).1,(ZP Y3 Yj).2)
@[simp] theorem Z5f (Y3:(List (List Int))) (Yj:Int):(Z5 Y3 Yj).2.length=Y3.length:=by
  first | (simp [Z5];done)
theorem Z2L (Y3:(List (List Int))) (Yj:Int) (hp0:Y3.length≤1073741824) (hp1:∀ t∈Y3,t.length≤1073741824)  : Xa prog 24 [.nest 79 (Y3.map fun l=>l.map (cI .i64)) false] [.own 0, .i .i64 Yj] (.i .i64 ((Z5 Y3 Yj).1)) [.nest 79 (((Z5 Y3 Yj).2).map fun l=>l.map (cI .i64)) false]:=by
 refine X4S (EpOk 1) Z2 (c:=X0 f24) [.nest 79 (Y3.map fun l=>l.map (cI .i64)) false] [] (.i .i64 ((ZP Y3 Yj).1)) [.nest 79 (((ZP Y3 Yj).2).map fun l=>l.map (cI .i64)) false] func24 (sL (mR false [0,2,2,2,13]) 1 (X6 (Z1O Y3 Yj) (x:=(ZP Y3 Yj)) (Z3H Y3 Yj hp0 hp1 (((Y3.length:Int) - 0).toNat + 1) Yj 0 Y3 (show 0≤0 from (by simp)) (show Y3.length=Y3.length from (by simp)) (show ∀ t∈Y3,t.length≤1073741824 from (by assumption)) (Nat.lt_succ_self _)) rfl)<|sK [] sN) rfl (by kernel_rfl) (by kernel_rfl) ?_ ?_
 · rfl
 · simp [Z5]
theorem Z3U (a:List (List Int)) (c:Int):Z5 a c=mkL Z6 a c:=by
  unfold Z5 ZP
  rw [X3a (f:=Z6) (lo:=Za a c) (fun k c i r=>rfl) _ _ _ _ (Int.le_refl 0) (Nat.lt_succ_self _)]
  simp
theorem Z4W (a:List (List Int)) (c:Int) (N:Nat) (h:∀ t∈a,t.length≤N):∀ t∈(Z5 a c).2,t.length≤N:=by
  rw [Z3U]
  exact X6h (p:=fun t:List Int=>t.length≤N) (fun x c hx=>by rw [Z28];exact hx) a c h
theorem Z3v (a:List (List Int)) (c:Int) (g0:a.length≤1073741824) (g1:∀ t∈a,t.length≤1073741824) (h0:0≤c) (h1:c≤3458764513820540928):c≤(Z5 a c).1∧(Z5 a c).1≤c + 1152921504606846976:=by
  rw [Z3U]
  have hm:(a.length:Int) * 1073741824≤1152921504606846976:=by omega
  have q:=X3x (f:=Z6) (W:=1073741824) (M:=4611686018427387904) a c (fun x hx c k0 k1=>by have q:=Z3T x c (g1 x hx) k0 (by omega);omega) h0 (by omega)
  omega
end Go.Ab
