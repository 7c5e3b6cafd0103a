/- The functions of this seat as plain Lean, and that the program's are these. Printed by a program of the prover's own. -/
import Derived.Test.YtiddhiepmakopaaB3
set_option linter.unusedVariables false
set_option linter.unusedSimpArgs false
set_option maxRecDepth 100000
namespace Go.Ab
open Go.RowKit Go.Proofs.Try
def Zf (Y0:Gm) (Y1:Int) (Y6:(List (Gedge × List Int))) (Yb:(List Gedge)):(List (Gedge × List Int)) × (List Gedge):=(Z5 Y0 Y1 Y6 Yb (((3:Int) - 0).toNat + 1) 0 Y6 Yb)
theorem Z5r (m:Gm) (i:Int) (b0:List (Gedge × List Int)) (l0:List Gedge) (h0:0≤i):∀ (k:Nat) (x:Int) (b:List (Gedge × List Int)) (l:List Gedge),0≤x→(3 - x).toNat < k→x≤3→(l.length:Int)≤3 * i + x→(∀ y∈b,(y.2.length:Int)≤3 * i + x)→((Z5 m i b0 l0 k x b l).2.length:Int)≤3 * (i + 1)∧∀ y∈(Z5 m i b0 l0 k x b l).1,(y.2.length:Int)≤3 * (i + 1):=by
  intro k
  induction k with
  | zero=>intro x b l _ hk;exact absurd hk (Nat.not_lt_zero _)
  | succ k ih =>
    intro x b l hx hk h3 hl hb
    rw [Z5]
    cases hc:decide (x < 3) with
    | false=>rw [cond_false];exact ⟨by simp only;omega,fun y hy=>by have:=hb y hy;omega⟩
    | true =>
      have hc':=odt hc
      rw [cond_true]
      cases mhas b (Z0 m i x) with
      | true =>
        rw [cond_true]
        cases (((b.getD (midx b (Z0 m i x)) default).2.length:Int) == 0) with
        | true=>rw [cond_true];exact ih _ _ _ (by omega) (by omega) (by omega) (by simp only [List.length_append,List.length_cons,List.length_nil];omega) (X2V hb (by omega) (by omega))
        | false=>rw [cond_false];exact ih _ _ _ (by omega) (by omega) (by omega) (by omega) (X2V hb (by omega) (by omega))
      | false=>rw [cond_false];exact ih _ _ _ (by omega) (by omega) (by omega) (by simp only [List.length_append,List.length_cons,List.length_nil];omega) (X5J hb (by omega) (by omega))
theorem Z5a (m:Gm) (i:Int) (b:List (Gedge × List Int)) (l:List Gedge) (h0:0≤i) (hl:(l.length:Int)≤3 * i) (hb:∀ y∈b,(y.2.length:Int)≤3 * i) :
    ((Zf m i b l).2.length:Int)≤3 * (i + 1)∧∀ y∈(Zf m i b l).1,(y.2.length:Int)≤3 * (i + 1) :=
  Z5r m i b l h0 _ 0 b l (Int.le_refl 0) (by omega) (by omega) (by omega) (fun y hy=>by have:=hb y hy;omega)
def Zj (Y0:Gm):Nat→Int→(List (Gedge × List Int))→(List Gedge)→(List (Gedge × List Int)) × (List Gedge)
  | 0,_,_,_=>default
  | k + 1,Y1,Y6,Yb=>(cond (decide (Y1 < (Y0.Tr.length:Int)))
    (Zj Y0 k (Y1 + 1) ((Zf Y0 Y1 Y6 Yb).1) ((Zf Y0 Y1 Y6 Yb).2))
    (Y6,Yb))
def Z1O (Y0:Gm) (r:(List (Gedge × List Int)) × (List Gedge)):Ex × St:=((.exit 0),⟨.agg [.sl (Y0.Pq.map Gv.c), .sl (Y0.Tr.map (cL (cI .i64)))] :: .ptr 0 0 0 :: .any :: .nils :: .mp 1 :: .own 2 :: an 4 (.mp 1 :: .any :: .ptr 0 0 1 :: .sl (Y0.Tr.map (cL (cI .i64))) :: an 43 []),[.box 35 [.sl (Y0.Pq.map Gv.c), .sl (Y0.Tr.map (cL (cI .i64)))], .mapN 2 (mapC Gedge.pr (cI .i64) r.1) none, .vec 92 2 (r.2.map Gedge.cells) false]⟩)
def Z2l (Y0:Gm) (Y1:Int) (Y6:(List (Gedge × List Int))) (Yb:(List Gedge)):St:=⟨.agg [.sl (Y0.Pq.map Gv.c), .sl (Y0.Tr.map (cL (cI .i64)))] :: .ptr 0 0 0 :: .any :: .nils :: .mp 1 :: .own 2 :: an 4 (.mp 1 :: .any :: .ptr 0 0 1 :: .sl (Y0.Tr.map (cL (cI .i64))) :: .i .i64 (Y0.Tr.length:Int) :: .i .i64 Y1 :: an 41 []),[.box 35 [.sl (Y0.Pq.map Gv.c), .sl (Y0.Tr.map (cL (cI .i64)))], .mapN 2 (mapC Gedge.pr (cI .i64) Y6) none, .vec 92 2 (Yb.map Gedge.cells) false]⟩
theorem Z3m (Y0:Gm) (hp0:Y0.Pq.length≤1073741824) (hp1:Y0.Tr.length≤1073741824) (hp2:∀ t∈Y0.Tr,t.length≤1073741824) (hp3:OkE Y0.Pq.length Y0.Tr):∀ (k:Nat) (Y1:Int) (Y6:(List (Gedge × List Int))) (Yb:(List Gedge)) (Ze:0≤Y1) (Z1e:(Yb.length:Int)≤3 * Y1) (Z14:∀ y∈Y6,(y.2.length:Int)≤3 * Y1) (hk:((Y0.Tr.length:Int) - Y1).toNat < k),Lp prog 0 (sub (X0 f77) [1,1,0,1,0,0]) (Z2l Y0 Y1 Y6 Yb) (Z1O Y0 (Zj Y0 k Y1 Y6 Yb)).1 (Z1O Y0 (Zj Y0 k Y1 Y6 Yb)).2:=by
 intro k
 induction k with
 | zero=>intro Y1 Y6 Yb Ze Z1e Z14 hk;exact absurd hk (Nat.not_lt_zero _)
 | succ k ih =>
  intro Y1 Y6 Yb Ze Z1e Z14 hk
  cases Yf:(decide (Y1 < (Y0.Tr.length:Int))) with
  | true =>
   have Yt:=odt Yf
   have Yx:(0:Int)≤Y1:=(by assumption)
   have Yw:Y1 < (Y0.Tr.length:Int):=(by assumption)
   have YC:(-9223372036854775808:Int)≤(Y1 + 1):=(by omega)
   have YA:(Y1 + 1)≤(9223372036854775807:Int):=(by omega)
   have e:Zj Y0 (k + 1) Y1 Y6 Yb=(Zj Y0 k (Y1 + 1) ((Zf Y0 Y1 Y6 Yb).1) ((Zf Y0 Y1 Y6 Yb).2)):=by simp only [Zj,Yf,cond_true]
   rw [e]
   exact Xp E0Ok Z4 [] (mR false [0,2,1,3,4,1,1,4,41]) [0,1,2] (ih (Y1 + 1) ((Zf Y0 Y1 Y6 Yb).1) ((Zf Y0 Y1 Y6 Yb).2) (show 0≤(Y1 + 1) from (by omega)) (show (((Zf Y0 Y1 Y6 Yb).2).length:Int)≤3 * (Y1 + 1) from (by exact (Z5a _ _ _ _ Ze (by assumption) (by assumption)).1)) (show ∀ y∈((Zf Y0 Y1 Y6 Yb).1),(y.2.length:Int)≤3 * (Y1 + 1) from (by exact (Z5a _ _ _ _ Ze (by assumption) (by assumption)).2)) (by omega)) (sB Yf<|sG (cL (cI .i64)) Y0.Tr Y1 Yx Yw<|sL (mR false [0,2,1,5,2,1,1,9,36]) 3 (X6 (Z1N Y0 Y1 Y6 Yb) (x:=(Zf Y0 Y1 Y6 Yb)) (Z3l Y0 Y1 Y6 Yb hp0 hp1 hp2 hp3 Ze Z1e Z14 Yf (((3:Int) - 0).toNat + 1) 0 Y6 Yb (show 0≤0 from (by omega)) (show (Yb.length:Int)≤(Yb.length:Int) + 0 from (by omega)) (show ∀ y∈Y6,(y.2.length:Int)≤3 * Y1 + 0 from (by intro y hy;have q:=Z14 y hy;omega)) (Nat.lt_succ_self _)) rfl)<|sI (Y1 + 1) YC YA<|sN) (by kernel_rfl)
  | false =>
   have Yt:=odf Yf
   have e:Zj Y0 (k + 1) Y1 Y6 Yb=(Y6,Yb):=by simp only [Zj,Yf,cond_false]
   rw [e]
   exact outR (e:=(.exit 0)) E0Ok Z4 [] (mR false [0,2,1,3,4,1,1,2,43]) [0,1,2] (sB Yf<|sN) (by kernel_rfl) (by intro h;cases h)
def Zi (Y0:Gm):(List (Gedge × List Int)) × (List Gedge):=(Zj Y0 (((Y0.Tr.length:Int) - 0).toNat + 1) 0 ([]:(List (Gedge × List Int))) ([]:List Gedge))
theorem Z5y (m:Gm) (k:Nat) (i:Int) (b:List (Gedge × List Int)) (l:List Gedge) (h0:0≤i):Zj m (k + 1) i b l=cond (decide (i < (m.Tr.length:Int))) (Zj m k (i + 1) (stT (b,l) (m.Tr.getD i.toNat default) i).1 (stT (b,l) (m.Tr.getD i.toNat default) i).2) (b,l):=by
  have st:∀ (x:Int) (k:Nat) (b:List (Gedge × List Int)) (l:List Gedge),x < 3→Z5 m i b l (k + 1) x b l=Z5 m i b l (k + 1) x b l:=fun _ _ _ _ _=>rfl
  have one:∀ (b0:List (Gedge × List Int)) (l0:List Gedge) (k:Nat) (x:Int) (s:List (Gedge × List Int) × List Gedge),x < 3→Z5 m i b0 l0 (k + 1) x s.1 s.2=Z5 m i b0 l0 k (x + 1) (stE s (Z0 m i x) i).1 (stE s (Z0 m i x) i).2:=by
    intro b0 l0 k x s hx
    rw [Z5,decide_eq_true hx,cond_true]
    unfold stE
    cases mhas s.1 (Z0 m i x) with
    | true =>
      rw [cond_true,cond_true]
      cases (((s.1.getD (midx s.1 (Z0 m i x)) default).2.length:Int) == 0)<;>rfl
    | false=>rfl
  have tri:Zf m i b l=stT (b,l) (m.Tr.getD i.toNat default) i:=by
    unfold Zf
    show Z5 m i b l 4 0 (b,l).1 (b,l).2=_
    rw [one b l 3 0 (b,l) (by omega),one b l 2 (0 + 1) _ (by omega),one b l 1 (0 + 1 + 1) _ (by omega),Z5]
    show cond (decide ((3:Int) < 3)) _ _=_
    rw [decide_eq_false (by omega),cond_false]
    unfold Z0 stT
    simp only [Z4L]
    rfl
  rw [Zj,tri]
theorem Z4I (m:Gm) (ok:OkE m.Pq.length m.Tr):ETab m.Tr m.Tr.length (Zi m):=by
  unfold Zi
  exact ETab.loop ok (Z5y m) _ 0 ([],[]) (Nat.zero_le _) (ETab.nil _) (by omega)
theorem Z5s (m:Gm) (ok:OkE m.Pq.length m.Tr):(Zi m).2.length≤4096:=by
  have h:=congrArg List.length ((Z4I m ok).sorted ok)
  rw [X5K] at h
  rw [h];exact X3A ok
end Go.Ab
namespace Go.Proofs
open Go.Shelf
def Try.laysF0n6_ren:Go.Shelf.Ren:=⟨fun | 6=>111 | 15=>122 | 14=>121 | 28=>135 | 29=>136 | 20=>127 | 21=>128 | 22=>129 | 23=>130 | 24=>131 | 25=>132 | 26=>133 | 27=>134 | 46=>140 | 47=>141 | 48=>142 | 49=>143 | 50=>144 | 57=>146 | n=>n,fun | 22=>76 | 24=>92 | 25=>121 | 3=>3 | 39=>130 | 0=>0 | 53=>141 | 55=>125 | 4=>4 | 46=>134 | 45=>133 | 50=>138 | 5=>5 | 9=>9 | 66=>145 | 70=>149 | 76=>152 | 77=>153 | n=>n,fun | n=>n⟩
theorem Try.laysF0n6:Go.Proofs.SlLaysF0.n6 Try.prog Try.laysF0n6_ren:={
  mixed:=by kernel_rfl
  f6:=⟨Try.f111.name,by decide,Try.func111.trans (congrArg some (by kernel_rfl))⟩
  f14:=⟨Try.f121.name,by decide,Try.func121.trans (congrArg some (by kernel_rfl))⟩
  f15:=Try.func122.trans (congrArg some (by kernel_rfl))
  f20:=⟨Try.f127.name,by decide,Try.func127.trans (congrArg some (by kernel_rfl))⟩
  f21:=⟨Try.f128.name,by decide,Try.func128.trans (congrArg some (by kernel_rfl))⟩
  f22:=⟨Try.f129.name,by decide,Try.func129.trans (congrArg some (by kernel_rfl))⟩
  f23:=⟨Try.f130.name,by decide,Try.func130.trans (congrArg some (by kernel_rfl))⟩
  f24:=⟨Try.f131.name,by decide,Try.func131.trans (congrArg some (by kernel_rfl))⟩
  f25:=⟨Try.f132.name,by decide,Try.func132.trans (congrArg some (by kernel_rfl))⟩
  f26:=⟨Try.f133.name,by decide,Try.func133.trans (congrArg some (by kernel_rfl))⟩
  f27:=⟨Try.f134.name,by decide,Try.func134.trans (congrArg some (by kernel_rfl))⟩
  f28:=Try.func135.trans (congrArg some (by kernel_rfl))
  f29:=Try.func136.trans (congrArg some (by kernel_rfl))
  f46:=⟨Try.f140.name,by decide,Try.func140.trans (congrArg some (by kernel_rfl))⟩
  f47:=Try.func141.trans (congrArg some (by kernel_rfl))
  f48:=Try.func142.trans (congrArg some (by kernel_rfl))
  f49:=⟨Try.f143.name,by decide,Try.func143.trans (congrArg some (by kernel_rfl))⟩
  f50:=⟨Try.f144.name,by decide,Try.func144.trans (congrArg some (by kernel_rfl))⟩
  f57:=⟨Try.f146.name,by decide,Try.func146.trans (congrArg some (by kernel_rfl))⟩
  t0:=Try.underlying0
  a0:=Try.isAgg0
  z0:=Try.sizeOf0
  v0:=Try.zeroValue0
  t3:=Try.underlying3
  a3:=Try.isAgg3
  z3:=Try.sizeOf3
  v3:=Try.zeroValue3
  t4:=Try.underlying4
  a4:=Try.isAgg4
  z4:=Try.sizeOf4
  v4:=Try.zeroValue4
  t5:=Try.underlying5
  a5:=Try.isAgg5
  z5:=Try.sizeOf5
  v5:=Try.zeroValue5
  t9:=Try.underlying9
  a9:=Try.isAgg9
  z9:=Try.sizeOf9
  v9:=Try.zeroValue9
  t22:=Try.underlying76
  a22:=Try.isAgg76
  z22:=Try.sizeOf76
  v22:=Try.zeroValue76
  t25:=Try.underlying121
  a25:=Try.isAgg121
  z25:=Try.sizeOf121
  v25:=Try.zeroValue121
  t39:=Try.underlying130
  a39:=Try.isAgg130
  z39:=Try.sizeOf130
  v39:=Try.zeroValue130
  t45:=Try.underlying133
  a45:=Try.isAgg133
  z45:=Try.sizeOf133
  v45:=Try.zeroValue133
  t46:=Try.underlying134
  a46:=Try.isAgg134
  z46:=Try.sizeOf134
  v46:=Try.zeroValue134
  t50:=Try.underlying138
  a50:=Try.isAgg138
  z50:=Try.sizeOf138
  v50:=Try.zeroValue138
  t53:=Try.underlying141
  a53:=Try.isAgg141
  z53:=Try.sizeOf141
  v53:=Try.zeroValue141
  t55:=Try.underlying125
  a55:=Try.isAgg125
  z55:=Try.sizeOf125
  v55:=Try.zeroValue125
  t66:=Try.underlying145
  a66:=Try.isAgg145
  z66:=Try.sizeOf145
  v66:=Try.zeroValue145
  t70:=Try.underlying149
  a70:=Try.isAgg149
  z70:=Try.sizeOf149
  v70:=Try.zeroValue149
  t76:=Try.underlying152
  a76:=Try.isAgg152
  z76:=Try.sizeOf152
  v76:=Try.zeroValue152
  t77:=Try.underlying153
  a77:=Try.isAgg153
  z77:=Try.sizeOf153
  v77:=Try.zeroValue153 }
end Go.Proofs
namespace Go.Ab
open Go.RowKit Go.Proofs.Try
theorem Z5A (x y:Int):Zt x y=if x < y then -1 else if x > y then 1 else 0:=by
  unfold Zt Z13
  simp only [bne_self_eq_false,cond_false]
  by_cases h1:x < y
  · simp [h1]
  · by_cases h2:x > y<;>simp [h1,h2]
theorem Z5B (a b:Gedge):Z2h a b=cmpP a.pr b.pr:=by
  unfold Z2h Zy ZI cmpP Gedge.pr
  show (match Z6 [a.e0,a.e1] [b.e0,b.e1] 3 0 with | .inl r1=>r1 | .inr r1=>cond (decide (((2:Nat):Int) < ((2:Nat):Int))) (-1) 0)=_
  simp only [Z6,Z5A,List.length_cons,List.length_nil]
  by_cases h1:a.e0 < b.e0
  · simp [h1]
  · by_cases h2:a.e0 > b.e0
    · simp [h1,h2]
    · by_cases h3:a.e1 < b.e1
      · simp [h1,h2,h3]
      · by_cases h4:a.e1 > b.e1<;>simp [h1,h2,h3,h4]
def Z1Y (l:List Gedge):List Gedge:=X1V Gedge.pr l
theorem Z3r (l:List Gedge) (h:l.length≤1073741824):Xv prog 111 [.vec 92 2 (l.map Gedge.cells) false] [.own 0, .fn 112 []] (.tup []) [.vec 92 2 ((Z1Y l).map Gedge.cells) false] :=
  X7x laysF0n6 isAgg92 sizeOf92 Gedge.pr Gedge.inj Gedge.cells (fun _=>rfl) 92 112 ⟨_,func111,rfl,by kernel_rfl⟩ (Z2Z default default).1
    (fun a b W=>((Z2Z a b).2 W #[keyV a.pr,keyV b.pr] ⟨rfl,fun j c e=>by match j,e with | 0,e=>cases e;exact Rep.agg _ _ rfl (fun i c e=>by match i,e with | 0,e=>cases e;exact .i _ _ | 1,e=>cases e;exact .i _ _) | 1,e=>cases e;exact Rep.agg _ _ rfl (fun i c e=>by match i,e with | 0,e=>cases e;exact .i _ _ | 1,e=>cases e;exact .i _ _)⟩).mono fun e w' ⟨v,μ',he,hb,_,hr⟩=>by
      cases hr;rw [Z5B] at he;exact ⟨he,hb⟩) l h
def Z2 (Y0:Gm):(List (Gedge × List Int)) × (List Gedge):=((Zi Y0).1,(Z1Y ((Zi Y0).2)))
theorem Z3s (m:Gm) (ok:OkE m.Pq.length m.Tr):(Z2 m).2=edgL m.Pq.length m.Tr:=(Z4I m ok).sorted ok
theorem Z5t (m:Gm) (ok:OkE m.Pq.length m.Tr) {e:Gedge} (he:e∈(Z2 m).2):mhas (Z2 m).1 e=true∧((Z2 m).1.getD (midx (Z2 m).1 e) default).2=idxP m.Tr e.e0 e.e1:=by
  rw [Z3s m ok] at he
  have h:=(Z4I m ok).at ok he
  exact ⟨h.1,h.2.trans (X7P ok (X2b.1 he).1.2.1)⟩
theorem Z5l (m:Gm) (ok:OkE m.Pq.length m.Tr):(Z2 m).2.length≤4096:=by
  rw [Z3s m ok];exact X3A ok
theorem Z4M (m:Gm) (ok:OkE m.Pq.length m.Tr) {i:Int} (h0:0≤i) (hi:i < ((Z2 m).2.length:Int)):(Z2 m).2.getD i.toNat default∈(Z2 m).2:=by
  have hn:i.toNat < (Z2 m).2.length:=by omega
  rw [List.getD_eq_getElem?_getD,List.getElem?_eq_getElem hn];exact List.getElem_mem hn
theorem Z3a (m:Gm) (ok:OkE m.Pq.length m.Tr) {i:Int} (h0:0≤i) (hi:i < ((Z2 m).2.length:Int)) :
    0≤((Z2 m).2.getD i.toNat default).e0∧((Z2 m).2.getD i.toNat default).e0 < ((Z2 m).2.getD i.toNat default).e1∧((Z2 m).2.getD i.toNat default).e1 < (m.Pq.length:Int)∧(m.Pq.length:Int)≤64∧((Z2 m).2.length:Int)≤4096:=by
  have hl:=Z5l m ok
  have h64:=ok.1
  have hm:=Z4M m ok h0 hi
  rw [Z3s m ok] at hm
  have hb:=X2E hm
  rw [← Z3s m ok] at hb
  exact ⟨hb.1,hb.2.1,hb.2.2,by omega,by omega⟩
theorem Z3v (Y0:Gm) (hp0:Y0.Pq.length≤1073741824) (hp1:Y0.Tr.length≤1073741824) (hp2:∀ t∈Y0.Tr,t.length≤1073741824) (hp3:OkE Y0.Pq.length Y0.Tr)  : Fn prog 77 [.agg [.sl (Y0.Pq.map Gv.c), .sl (Y0.Tr.map (cL (cI .i64)))]] (.tup [.mp 0, .own 1]) [.mapN 2 (mapC Gedge.pr (cI .i64) ((Z2 Y0).1)) none, .vec 92 2 (((Z2 Y0).2).map Gedge.cells) false]:=by
 have y0:((Zi Y0).2).length≤1073741824:=(by (have q:=Z5s Y0 hp3;omega))
 refine fnS E0Ok Z4 (c:=X0 f77) [] (.tup [.mp 0, .own 1]) [.mapN 2 (mapC Gedge.pr (cI .i64) ((Zi Y0).1)) none, .vec 92 2 ((Z1Y ((Zi Y0).2)).map Gedge.cells) false] func77 (sZ (cL (cI .i64)) Y0.Tr<|sL (mR false [0,2,1,3,4,1,1,4,41]) 3 (XV (st2:=⟨.agg [.sl (Y0.Pq.map Gv.c), .sl (Y0.Tr.map (cL (cI .i64)))] :: .ptr 0 0 0 :: .any :: .nils :: .mp 1 :: .own 2 :: an 4 (.mp 1 :: .any :: .ptr 0 0 1 :: .sl (Y0.Tr.map (cL (cI .i64))) :: .i .i64 (Y0.Tr.length:Int) :: .i .i64 0 :: an 41 []),[.box 35 [.sl (Y0.Pq.map Gv.c), .sl (Y0.Tr.map (cL (cI .i64)))], .mapN 2 [] none, .vec 92 2 ([]:List (List AV)) false]⟩) (X6 (Z1O Y0) (x:=(Zi Y0)) (Z3m Y0 hp0 hp1 hp2 hp3 (((Y0.Tr.length:Int) - 0).toNat + 1) 0 ([]:(List (Gedge × List Int))) ([]:List Gedge) (show 0≤0 from (by omega)) (show (([]:List Gedge).length:Int)≤3 * 0 from (by simp;done)) (show ∀ y∈([]:(List (Gedge × List Int))),(y.2.length:Int)≤3 * 0 from (by simp;done)) (Nat.lt_succ_self _)) rfl) (by simp [Z2l,mapC,Gedge.cells]))<|sS (Xv.frame (Z3r ((Zi Y0).2) y0) [2] (R:=[.box 35 [.sl (Y0.Pq.map Gv.c), .sl (Y0.Tr.map (cL (cI .i64)))], .mapN 2 (mapC Gedge.pr (cI .i64) ((Zi Y0).1)) none, .vec 92 2 (((Zi Y0).2).map Gedge.cells) false]) (args':=[.own 2, .fn 112 []]) rfl rfl rfl rfl rfl rfl)<|sK [1,2] sN) rfl (by kernel_rfl) (by kernel_rfl) rfl ?_ ?_
 · rfl
 · simp [Z2]
def Zg (Y0:Gm):Nat→Int→(List Gedge)→(List Gedge)
  | 0,_,_=>default
  | k + 1,Y1,Y6=>(cond (decide (Y1 < (((Z2 Y0).2).length:Int)))
    (cond (mhas ((Z2 Y0).1) (((Z2 Y0).2).getD Y1.toNat default))
      (cond (((((Z2 Y0).1).getD (midx ((Z2 Y0).1) (((Z2 Y0).2).getD Y1.toNat default)) default).2.length:Int) == 1)
        (Zg Y0 k (Y1 + 1) (Y6 ++ [(((Z2 Y0).2).getD Y1.toNat default)]))
        (Zg Y0 k (Y1 + 1) Y6))
      (Zg Y0 k (Y1 + 1) Y6))
    Y6)
def Z2v (Y0:Gm) (r:(List Gedge)):Ex × St:=((.exit 0),⟨.agg [.sl (Y0.Pq.map Gv.c), .sl (Y0.Tr.map (cL (cI .i64)))] :: .ptr 0 0 0 :: .nils :: .own 1 :: .any :: .own 2 :: an 4 (.agg [.sl (Y0.Pq.map Gv.c), .sl (Y0.Tr.map (cL (cI .i64)))] :: .any :: .mp 3 :: .own 2 :: .own 2 :: an 16 []),[.box 35 [.sl (Y0.Pq.map Gv.c), .sl (Y0.Tr.map (cL (cI .i64)))], .vec 92 2 (r.map Gedge.cells) false, .vec 92 2 (((Z2 Y0).2).map Gedge.cells) false, .mapN 2 (mapC Gedge.pr (cI .i64) ((Z2 Y0).1)) none]⟩)
def Z2w (Y0:Gm) (Y1:Int) (Y6:(List Gedge)):St:=⟨.agg [.sl (Y0.Pq.map Gv.c), .sl (Y0.Tr.map (cL (cI .i64)))] :: .ptr 0 0 0 :: .nils :: .own 1 :: .mp 2 :: .own 3 :: an 4 (.agg [.sl (Y0.Pq.map Gv.c), .sl (Y0.Tr.map (cL (cI .i64)))] :: .any :: .mp 2 :: .own 3 :: .own 3 :: .i .i64 (((Z2 Y0).2).length:Int) :: .i .i64 Y1 :: an 14 []),[.box 35 [.sl (Y0.Pq.map Gv.c), .sl (Y0.Tr.map (cL (cI .i64)))], .vec 92 2 (Y6.map Gedge.cells) false, .mapN 2 (mapC Gedge.pr (cI .i64) ((Z2 Y0).1)) none, .vec 92 2 (((Z2 Y0).2).map Gedge.cells) false]⟩
theorem Z40 (Y0:Gm) (hp0:Y0.Pq.length≤1073741824) (hp1:Y0.Tr.length≤1073741824) (hp2:∀ t∈Y0.Tr,t.length≤1073741824) (hp3:OkE Y0.Pq.length Y0.Tr):∀ (k:Nat) (Y1:Int) (Y6:(List Gedge)) (Z16:0≤Y1) (Z2T:(Y6.length:Int)≤Y1) (hk:((((Z2 Y0).2).length:Int) - Y1).toNat < k),Lp prog 0 (sub (X0 f65) [1,1,1,0,1,0,0]) (Z2w Y0 Y1 Y6) (Z2v Y0 (Zg Y0 k Y1 Y6)).1 (Z2v Y0 (Zg Y0 k Y1 Y6)).2:=by
 intro k
 induction k with
 | zero=>intro Y1 Y6 Z16 Z2T hk;exact absurd hk (Nat.not_lt_zero _)
 | succ k ih =>
  intro Y1 Y6 Z16 Z2T hk
  cases Yf:(decide (Y1 < (((Z2 Y0).2).length:Int))) with
  | true =>
   have Yt:=odt Yf
   have Yx:(0:Int)≤Y1:=(by assumption)
   have Yw:Y1 < (((Z2 Y0).2).length:Int):=(by assumption)
   have YC:Y1.toNat < ((Z2 Y0).2).length:=(by omega)
   have p {a C} (s:Scr a C):=sB Yf<|sX Gedge.cells ((Z2 Y0).2) Y1 Yx Yw<|sV Gedge.cells ((Z2 Y0).2) Y1.toNat YC<|s
   cases Yi:(mhas ((Z2 Y0).1) (((Z2 Y0).2).getD Y1.toNat default)) with
   | true =>
    have m_8:=X2D Yi
    have q {a C} (s:Scr a C):=p (sA (.keep [midx ((Z2 Y0).1) (((Z2 Y0).2).getD Y1.toNat default)])<|sC (X3m (ck:=Gedge.pr) (cv:=(cI .i64)) Yi)<|sM (X5G (ck:=Gedge.pr) (cv:=(cI .i64)) (l:=(Z2 Y0).1) (j:=(midx ((Z2 Y0).1) (((Z2 Y0).2).getD Y1.toNat default))))<|s)
    clear p
    cases Ym:(((((Z2 Y0).1).getD (midx ((Z2 Y0).1) (((Z2 Y0).2).getD Y1.toNat default)) default).2.length:Int) == 1) with
    | true =>
     have YQ:=eq_of_beq Ym
     have YA:Y6.length + ([(((Z2 Y0).2).getD Y1.toNat default)]).length≤1073741824:=by clear q;exact (by ((have q:=Z3a Y0 hp3 Z16 (odt (by assumption));(simp only [List.length_append,List.length_cons,List.length_nil];omega))))
     have YE:(-9223372036854775808:Int)≤(Y1 + 1):=by clear q;exact (by omega)
     have YL:(Y1 + 1)≤(9223372036854775807:Int):=by clear q;exact (by ((have q:=Z3a Y0 hp3 Z16 (odt (by assumption));omega)))
     have e:Zg Y0 (k + 1) Y1 Y6=(Zg Y0 k (Y1 + 1) (Y6 ++ [(((Z2 Y0).2).getD Y1.toNat default)])):=by simp only [Zg,Yf,Yi,Ym,cond_true]
     rw [e]
     exact XW E0Ok Z4 [] (mR false [0,6,4,1,1,5,14]) [0,1,2,3] (⟨.agg [.sl (Y0.Pq.map Gv.c), .sl (Y0.Tr.map (cL (cI .i64)))] :: .ptr 0 0 0 :: .nils :: .own 1 :: .mp 2 :: .own 3 :: an 4 (.agg [.sl (Y0.Pq.map Gv.c), .sl (Y0.Tr.map (cL (cI .i64)))] :: .any :: .mp 2 :: .own 3 :: .own 3 :: .i .i64 (((Z2 Y0).2).length:Int) :: .i .i64 (Y1 + 1) :: an 14 []),[.box 35 [.sl (Y0.Pq.map Gv.c), .sl (Y0.Tr.map (cL (cI .i64)))], .vec 92 2 ((Y6.map Gedge.cells) ++ ([[.i .i64 ((((Z2 Y0).2).getD Y1.toNat default).e0), .i .i64 ((((Z2 Y0).2).getD Y1.toNat default).e1)]]:List (List AV))) false, .mapN 2 (mapC Gedge.pr (cI .i64) ((Z2 Y0).1)) none, .vec 92 2 (((Z2 Y0).2).map Gedge.cells) false]⟩) (q (sB Ym<|sC (show (Y6.map Gedge.cells).length + ([[.i .i64 ((((Z2 Y0).2).getD Y1.toNat default).e0), .i .i64 ((((Z2 Y0).2).getD Y1.toNat default).e1)]]:List (List AV)).length≤1073741824 from (by simpa using YA))<|sI (Y1 + 1) YE YL<|sN)) (by kernel_rfl) (by simp [Z2w,Gedge.cells]) (ih (Y1 + 1) (Y6 ++ [(((Z2 Y0).2).getD Y1.toNat default)]) (show 0≤(Y1 + 1) from (by omega)) (show ((Y6 ++ [(((Z2 Y0).2).getD Y1.toNat default)]).length:Int)≤(Y1 + 1) from (by ((have q:=Z3a Y0 hp3 Z16 (odt (by assumption));(simp only [List.length_append,List.length_cons,List.length_nil];omega))))) (by omega))
    | false =>
     have YQ:=ne_of_beq_false Ym
     have YA:(-9223372036854775808:Int)≤(Y1 + 1):=by clear q;exact (by omega)
     have YE:(Y1 + 1)≤(9223372036854775807:Int):=by clear q;exact (by ((have q:=Z3a Y0 hp3 Z16 (odt (by assumption));omega)))
     have e:Zg Y0 (k + 1) Y1 Y6=(Zg Y0 k (Y1 + 1) Y6):=by simp only [Zg,Yf,Yi,Ym,cond_true,cond_false]
     rw [e]
     exact Xp E0Ok Z4 [] (mR false [0,6,4,1,1,5,14]) [0,1,2,3] (ih (Y1 + 1) Y6 (show 0≤(Y1 + 1) from (by omega)) (show (Y6.length:Int)≤(Y1 + 1) from (by omega)) (by omega)) (q (sB Ym<|sI (Y1 + 1) YA YE<|sN)) (by kernel_rfl)
   | false =>
    have YA:(-9223372036854775808:Int)≤(Y1 + 1):=by clear p;exact (by omega)
    have YE:(Y1 + 1)≤(9223372036854775807:Int):=by clear p;exact (by ((have q:=Z3a Y0 hp3 Z16 (odt (by assumption));omega)))
    have e:Zg Y0 (k + 1) Y1 Y6=(Zg Y0 k (Y1 + 1) Y6):=by simp only [Zg,Yf,Yi,cond_true,cond_false]
    rw [e]
    exact Xp E0Ok Z4 [] (mR false [0,6,4,1,1,5,14]) [0,1,2,3] (ih (Y1 + 1) Y6 (show 0≤(Y1 + 1) from (by omega)) (show (Y6.length:Int)≤(Y1 + 1) from (by omega)) (by omega)) (p (sA (.keep [])<|sC (X4g (ck:=Gedge.pr) (cv:=(cI .i64)) Gedge.inj Yi)<|sM (show ((0:Nat):Int)=0 from rfl)<|sB (show (0 == 1)=false from rfl)<|sI (Y1 + 1) YA YE<|sN)) (by kernel_rfl)
  | false =>
   have Yt:=odf Yf
   have e:Zg Y0 (k + 1) Y1 Y6=Y6:=by simp only [Zg,Yf,cond_false]
   rw [e]
   exact outR (e:=(.exit 0)) E0Ok Z4 [] (mR false [0,4,1,1,4,1,1,3,16]) [0,1,3,2] (sB Yf<|sN) (by kernel_rfl) (by intro h;cases h)
def Z1P (Y0:Gm):(List Gedge):=(Zg Y0 (((((Z2 Y0).2).length:Int) - 0).toNat + 1) 0 ([]:List Gedge))
def Z1u (Y0:Gm):(List Gedge):=(Z1P Y0)
theorem Z52 (m:Gm) (ok:OkE m.Pq.length m.Tr):Z1u m=brL m.Pq.length m.Tr:=by
  unfold Z1u Z1P
  refine (X6G (a:=(Z2 m).2) (p:=fun e=>decide ((idxP m.Tr e.e0 e.e1).length=1)) (f:=fun e=>e) (lo:=Zg m) (fun k i r h0 hi => ?_) (fun k i r hi => ?_)).trans ?_
  · obtain ⟨g1,g2⟩:=Z5t m ok (Z4M m ok h0 hi)
    rw [Zg,decide_eq_true hi,cond_true,g1,cond_true,g2]
    have hc:((((idxP m.Tr ((Z2 m).2.getD i.toNat default).e0 ((Z2 m).2.getD i.toNat default).e1).length:Nat):Int) == 1)=decide ((idxP m.Tr ((Z2 m).2.getD i.toNat default).e0 ((Z2 m).2.getD i.toNat default).e1).length=1):=by
      rw [Bool.eq_iff_iff,beq_iff_eq,decide_eq_true_iff];omega
    rw [hc]
  · rw [Zg,decide_eq_false (by omega),cond_false]
  · rw [Z3s m ok,List.map_id'];rfl
theorem Z4B (Y0:Gm) (hp0:Y0.Pq.length≤1073741824) (hp1:Y0.Tr.length≤1073741824) (hp2:∀ t∈Y0.Tr,t.length≤1073741824) (hp3:OkE Y0.Pq.length Y0.Tr)  : Fn prog 65 [.agg [.sl (Y0.Pq.map Gv.c), .sl (Y0.Tr.map (cL (cI .i64)))]] (.own 0) [.vec 92 2 ((Z1u Y0).map Gedge.cells) false]:=by
 refine fnS E0Ok Z4 (c:=X0 f65) [] (.own 0) [.vec 92 2 ((Z1P Y0).map Gedge.cells) false] func65 (sF (Z3v Y0 hp0 hp1 hp2 hp3)<|sZ Gedge.cells ((Z2 Y0).2)<|sL (mR false [0,6,4,1,1,5,14]) 4 (XV (st2:=⟨.agg [.sl (Y0.Pq.map Gv.c), .sl (Y0.Tr.map (cL (cI .i64)))] :: .ptr 0 0 0 :: .nils :: .own 1 :: .mp 2 :: .own 3 :: an 4 (.agg [.sl (Y0.Pq.map Gv.c), .sl (Y0.Tr.map (cL (cI .i64)))] :: .any :: .mp 2 :: .own 3 :: .own 3 :: .i .i64 (((Z2 Y0).2).length:Int) :: .i .i64 0 :: an 14 []),[.box 35 [.sl (Y0.Pq.map Gv.c), .sl (Y0.Tr.map (cL (cI .i64)))], .vec 92 2 ([]:List (List AV)) false, .mapN 2 (mapC Gedge.pr (cI .i64) ((Z2 Y0).1)) none, .vec 92 2 (((Z2 Y0).2).map Gedge.cells) false]⟩) (X6 (Z2v Y0) (x:=(Z1P Y0)) (Z40 Y0 hp0 hp1 hp2 hp3 (((((Z2 Y0).2).length:Int) - 0).toNat + 1) 0 ([]:List Gedge) (show 0≤0 from (by omega)) (show (([]:List Gedge).length:Int)≤0 from (by simp)) (Nat.lt_succ_self _)) rfl) (by simp [Z2w,Gedge.cells]))<|sK [1] sN) rfl (by kernel_rfl) (by kernel_rfl) rfl ?_ ?_
 · rfl
 · simp [Z1u]
theorem Z5u (m:Gm) (h:Z1d m=true):ZN m=true:=by
  rw [Z4A] at h
  cases hm:ZN m with
  | true=>rfl
  | false=>rw [hm] at h;cases h
def Z1f (Y0:Gm):Bool:=(cond (Z1d Y0)
  (cond (decide ((Y0.Tr.length:Int) > 0))
    (((Z1u Y0).length:Int) == 0)
    false)
  false)
theorem Z4C (Y0:Gm) (hp0:Y0.Pq.length≤1073741824) (hp1:Y0.Tr.length≤1073741824) (hp2:∀ t∈Y0.Tr,t.length≤1073741824)  : Fn prog 20 [.agg [.sl (Y0.Pq.map Gv.c), .sl (Y0.Tr.map (cL (cI .i64)))]] (.b (Z1f Y0)) []:=by
 have p {a C} (s:Scr a C):=sF (Z4H Y0 hp0 hp1 hp2)<|s
 cases h0:(Z1d Y0) with
 | true =>
  have q {a C} (s:Scr a C):=p (sB h0<|sB h0<|sB h0<|sZ (cL (cI .i64)) Y0.Tr<|sB h0<|sB h0<|s)
  clear p
  cases h1:(decide ((Y0.Tr.length:Int) > 0)) with
  | true =>
   have gh1:=odt h1
   have y0:OkE Y0.Pq.length Y0.Tr:=by clear q;exact (by exact Z3x Y0 (Z5u Y0 (by assumption)))
   refine fnS E0Ok Z4 (c:=X0 f20) [] (.b (((Z1u Y0).length:Int) == 0)) [] func20 (q (sB h1<|sB h1<|sF (Z4B Y0 hp0 hp1 hp2 y0)<|sB h1<|sZ Gedge.cells (Z1u Y0)<|sB h1<|sB h1<|sK [] sN)) rfl (by kernel_rfl) (by kernel_rfl) rfl ?_ ?_
   · simp only [Z1f,h0,h1,cond_true]
   · rfl
  | false =>
   have gh1:=odf h1
   refine fnS E0Ok Z4 (c:=X0 f20) [] (.b false) [] func20 (q (sB h1<|sB h1<|sB h1<|sB h1<|sB h1<|sK [] sN)) rfl (by kernel_rfl) (by kernel_rfl) rfl ?_ ?_
   · simp only [Z1f,h0,h1,cond_true,cond_false]
   · rfl
 | false =>
  refine fnS E0Ok Z4 (c:=X0 f20) [] (.b false) [] func20 (p (sB h0<|sB h0<|sB h0<|sB h0<|sB h0<|sB (show false=false from rfl)<|sB (show false=false from rfl)<|sB (show false=false from rfl)<|sB (show false=false from rfl)<|sB (show false=false from rfl)<|sK [] sN)) rfl (by kernel_rfl) (by kernel_rfl) rfl ?_ ?_
  · simp only [Z1f,h0,cond_false]
  · rfl
def ZD (Y5:Nat) (Yd:Nat):Bool:=(cond (fcmp .neq .f64 Y5 Y5)
  (fcmp .neq .f64 Yd Yd)
  (cond (fcmp .neq .f64 Yd Yd)
    false
    (cond (fcmp .eql .f64 Y5 0)
      (cond (fcmp .eql .f64 Yd 0)
        ((fcmp .gtr .f64 (fop .quo .f64 4607182418800017408 Y5) 0) == (fcmp .gtr .f64 (fop .quo .f64 4607182418800017408 Yd) 0))
        (fcmp .eql .f64 Y5 Yd))
      (fcmp .eql .f64 Y5 Yd))))
theorem Z2z (Y5:Nat) (Yd:Nat)   : Fn prog 11 [.f .f64 Y5, .f .f64 Yd] (.b (ZD Y5 Yd)) []:=by
 cases h0:(fcmp .neq .f64 Y5 Y5) with
 | true =>
  refine fnS E0Ok Z4 (c:=X0 f11) [] (.b (fcmp .neq .f64 Yd Yd)) [] func11 (sB h0<|sB h0<|sB h0<|sB h0<|sB (show true=true from rfl)<|sB h0<|sB h0<|sB h0<|sB h0<|sK [] sN) rfl (by kernel_rfl) (by kernel_rfl) rfl ?_ ?_
  · simp only [ZD,h0,cond_true]
  · rfl
 | false =>
  have p {a C} (s:Scr a C):=sB h0<|sB h0<|sB h0<|sB h0<|s
  cases h1:(fcmp .neq .f64 Yd Yd) with
  | true =>
   refine fnS E0Ok Z4 (c:=X0 f11) [] (.b false) [] func11 (p (sB h1<|sB h0<|sB h0<|sB h0<|sB h0<|sK [] sN)) rfl (by kernel_rfl) (by kernel_rfl) rfl ?_ ?_
   · simp only [ZD,h0,h1,cond_true,cond_false]
   · rfl
  | false =>
   have q {a C} (s:Scr a C):=p (sB h1<|s)
   clear p
   cases h2:(fcmp .eql .f64 Y5 0) with
   | true =>
    have p {a C} (s:Scr a C):=q (sB h2<|sB h2<|sB h2<|s)
    clear q
    cases h3:(fcmp .eql .f64 Yd 0) with
    | true =>
     refine fnS E0Ok Z4 (c:=X0 f11) [] (.b ((fcmp .gtr .f64 (fop .quo .f64 4607182418800017408 Y5) 0) == (fcmp .gtr .f64 (fop .quo .f64 4607182418800017408 Yd) 0))) [] func11 (p (sB h3<|sK [] sN)) rfl (by kernel_rfl) (by kernel_rfl) rfl ?_ ?_
     · simp only [ZD,h0,h1,h2,h3,cond_true,cond_false]
     · rfl
    | false =>
     refine fnS E0Ok Z4 (c:=X0 f11) [] (.b (fcmp .eql .f64 Y5 Yd)) [] func11 (p (sB h3<|sK [] sN)) rfl (by kernel_rfl) (by kernel_rfl) rfl ?_ ?_
     · simp only [ZD,h0,h1,h2,h3,cond_true,cond_false]
     · rfl
   | false =>
    refine fnS E0Ok Z4 (c:=X0 f11) [] (.b (fcmp .eql .f64 Y5 Yd)) [] func11 (q (sB h2<|sB h2<|sB h2<|sB (show false=false from rfl)<|sK [] sN)) rfl (by kernel_rfl) (by kernel_rfl) rfl ?_ ?_
    · simp only [ZD,h0,h1,h2,cond_false]
    · rfl
theorem Z5m (x:Nat):ZD x x=true:=by
  unfold ZD
  cases h:fcmp .neq .f64 x x
  · simp only [cond_false]
    have h2:fcmp .eql .f64 x x=true:=by
      unfold fcmp at h ⊢
      simpa using h
    cases fcmp .eql .f64 x 0<;>simp [h2]
  · rfl
def Z11 (Y5:Gv) (Yd:Gv):Bool:=(cond (ZD (fcv .f32 .f64 Y5.X) (fcv .f32 .f64 Yd.X))
  (cond (ZD (fcv .f32 .f64 Y5.Y) (fcv .f32 .f64 Yd.Y))
    (cond (ZD (fcv .f32 .f64 Y5.Z) (fcv .f32 .f64 Yd.Z))
      true
      false)
    false)
  false)
theorem Z4D (Y5:Gv) (Yd:Gv)   : Fn prog 104 [.agg [.f .f32 Y5.X, .f .f32 Y5.Y, .f .f32 Y5.Z], .agg [.f .f32 Yd.X, .f .f32 Yd.Y, .f .f32 Yd.Z]] (.b (Z11 Y5 Yd)) []:=by
 have p {a C} (s:Scr a C):=sC (X1Y Y5.X)<|sC (X1Y Yd.X)<|sF (Z2z (fcv .f32 .f64 Y5.X) (fcv .f32 .f64 Yd.X))<|s
 cases h0:(ZD (fcv .f32 .f64 Y5.X) (fcv .f32 .f64 Yd.X)) with
 | true =>
  have q {a C} (s:Scr a C):=p (sB' h0<|sC (X1Y Y5.Y)<|sC (X1Y Yd.Y)<|sF (Z2z (fcv .f32 .f64 Y5.Y) (fcv .f32 .f64 Yd.Y))<|s)
  clear p
  cases h1:(ZD (fcv .f32 .f64 Y5.Y) (fcv .f32 .f64 Yd.Y)) with
  | true =>
   have p {a C} (s:Scr a C):=q (sB' h1<|sC (X1Y Y5.Z)<|sC (X1Y Yd.Z)<|sF (Z2z (fcv .f32 .f64 Y5.Z) (fcv .f32 .f64 Yd.Z))<|s)
   clear q
   cases h2:(ZD (fcv .f32 .f64 Y5.Z) (fcv .f32 .f64 Yd.Z)) with
   | true =>
    refine fnS E0Ok Z4 (c:=X0 f104) [] (.b true) [] func104 (p (sB' h2<|sK [] sN)) rfl (by kernel_rfl) (by kernel_rfl) rfl ?_ ?_
    · simp only [Z11,h0,h1,h2,cond_true]
    · rfl
   | false =>
    refine fnS E0Ok Z4 (c:=X0 f104) [] (.b false) [] func104 (p (sB' h2<|sK [] sN)) rfl (by kernel_rfl) (by kernel_rfl) rfl ?_ ?_
    · simp only [Z11,h0,h1,h2,cond_true,cond_false]
    · rfl
  | false =>
   refine fnS E0Ok Z4 (c:=X0 f104) [] (.b false) [] func104 (q (sB' h1<|sK [] sN)) rfl (by kernel_rfl) (by kernel_rfl) rfl ?_ ?_
   · simp only [Z11,h0,h1,cond_true,cond_false]
   · rfl
 | false =>
  refine fnS E0Ok Z4 (c:=X0 f104) [] (.b false) [] func104 (p (sB' h0<|sK [] sN)) rfl (by kernel_rfl) (by kernel_rfl) rfl ?_ ?_
  · simp only [Z11,h0,cond_false]
  · rfl
theorem Z4S (a:Gv):Z11 a a=true:=by
  simp [Z11,Z5m]
def ZA (Y5:(List Gv)) (Yd:(List Gv)):Nat→Int→(Unit) ⊕ (Unit)
  | 0,_ => .inl default
  | k + 1,Y3=>(cond (decide (Y3 < (Y5.length:Int)))
    (cond (Z11 (Y5.getD Y3.toNat default) (Yd.getD Y3.toNat default))
      (ZA Y5 Yd k (Y3 + 1))
      (.inl ()))
    (.inr ()))
def Z1T (Y5:(List Gv)) (Yd:(List Gv)):(Unit) ⊕ (Unit)→Ex × St
  | .inl r=>(.ret,⟨an 4 (.b false :: an 22 []),[]⟩)
  | .inr r=>((.exit 0),⟨.sl (Y5.map Gv.c) :: .sl (Yd.map Gv.c) :: an 4 (.sl (Y5.map Gv.c) :: .i .i64 (Y5.length:Int) :: .sl (Yd.map Gv.c) :: .i .i64 (Yd.length:Int) :: .b ((Y5.length:Int) != (Yd.length:Int)) :: an 16 []),[]⟩)
def Z3Q (Y5:(List Gv)) (Yd:(List Gv)) (Y3:Int):St:=⟨.sl (Y5.map Gv.c) :: .sl (Yd.map Gv.c) :: .any :: .any :: .any :: .i .i64 Y3 :: .sl (Y5.map Gv.c) :: .i .i64 (Y5.length:Int) :: .sl (Yd.map Gv.c) :: .i .i64 (Yd.length:Int) :: .b ((Y5.length:Int) != (Yd.length:Int)) :: an 16 [],[]⟩
theorem Z30 (Y5:(List Gv)) (Yd:(List Gv)) (hp0:Y5.length≤1073741824) (hp1:Yd.length≤1073741824) (Z5b:((Y5.length:Int) != (Yd.length:Int))=false):∀ (k:Nat) (Y3:Int) (Z2H:0≤Y3) (hk:((Y5.length:Int) - Y3).toNat < k),Lp prog 0 (sub (X0 f60) [1,1,0,1,0,0]) (Z3Q Y5 Yd Y3) (Z1T Y5 Yd (ZA Y5 Yd k Y3)).1 (Z1T Y5 Yd (ZA Y5 Yd k Y3)).2:=by
 intro k
 induction k with
 | zero=>intro Y3 Z2H hk;exact absurd hk (Nat.not_lt_zero _)
 | succ k ih =>
  intro Y3 Z2H hk
  have p {a C} (s:Scr a C):=sZ Gv.c Y5<|s
  cases Yf:(decide (Y3 < (Y5.length:Int))) with
  | true =>
   have Yt:=odt Yf
   have Yx:(0:Int)≤Y3:=by clear p;exact (by assumption)
   have Yw:Y3 < (Y5.length:Int):=by clear p;exact (by assumption)
   have YC:Y3 < (Yd.length:Int):=by clear p;exact (by simp_all<;>omega)
   have q {a C} (s:Scr a C):=p (sB Yf<|sK [8,8]<|sG Gv.c Y5 Y3 Yx Yw<|sG Gv.c Yd Y3 Yx YC<|sF (Z4D (Y5.getD Y3.toNat default) (Yd.getD Y3.toNat default))<|s)
   clear p
   cases Yi:(Z11 (Y5.getD Y3.toNat default) (Yd.getD Y3.toNat default)) with
   | true =>
    have YA:(-9223372036854775808:Int)≤(Y3 + 1):=by clear q;exact (by omega)
    have YE:(Y3 + 1)≤(9223372036854775807:Int):=by clear q;exact (by omega)
    have e:ZA Y5 Yd (k + 1) Y3=(ZA Y5 Yd k (Y3 + 1)):=by simp only [ZA,Yf,Yi,cond_true]
    rw [e]
    exact Xp E0Ok Z4 [] (mR false [0,2,3,6,16]) [] (ih (Y3 + 1) (show 0≤(Y3 + 1) from (by omega)) (by omega)) (q (sB' Yi<|sI (Y3 + 1) YA YE<|sN)) (by kernel_rfl)
   | false =>
    have e:ZA Y5 Yd (k + 1) Y3=(.inl ()):=by simp only [ZA,Yf,Yi,cond_true,cond_false]
    rw [e]
    exact outR (e := .ret) E0Ok Z4 [] (mR false [4,1,22]) [] (q (sB' Yi<|sN)) (by kernel_rfl) (by intro h;cases h)
  | false =>
   have Yt:=odf Yf
   have e:ZA Y5 Yd (k + 1) Y3=(.inr ()):=by simp only [ZA,Yf,cond_false]
   rw [e]
   exact outR (e:=(.exit 0)) E0Ok Z4 [] (mR false [0,2,4,5,16]) [] (p (sB Yf<|sN)) (by kernel_rfl) (by intro h;cases h)
def Z1p (Y5:(List Gv)) (Yd:(List Gv)):(Unit) ⊕ (Unit):=(ZA Y5 Yd (((Y5.length:Int) - 0).toNat + 1) 0)
def Z19 (Y5:(List Gv)) (Yd:(List Gv)):Bool:=(cond ((Y5.length:Int) != (Yd.length:Int))
  false
  (match (Z1p Y5 Yd) with
    | .inl r2=>false
    | .inr r2=>true))
theorem Z4o (Y5:(List Gv)) (Yd:(List Gv)) (hp0:Y5.length≤1073741824) (hp1:Yd.length≤1073741824)  : Fn prog 60 [.sl (Y5.map Gv.c), .sl (Yd.map Gv.c)] (.b (Z19 Y5 Yd)) []:=by
 have p {a C} (s:Scr a C):=sZ Gv.c Y5<|sZ Gv.c Yd<|s
 cases h0:((Y5.length:Int) != (Yd.length:Int)) with
 | true =>
  have gh0:=bne_iff_ne.1 h0
  refine fnS E0Ok Z4 (c:=X0 f60) [] (.b false) [] func60 (p (sB h0<|sK [] sN)) rfl (by kernel_rfl) (by kernel_rfl) rfl ?_ ?_
  · simp only [Z19,h0,cond_true]
  · rfl
 | false =>
  have gh0:=bne_eq_false_iff_eq.1 h0
  have q {a C} (s:Scr a C):=p (sB h0<|s)
  clear p
  cases h1:(Z1p Y5 Yd) with
  | inl r2 =>
   refine fnS E0Ok Z4 (c:=X0 f60) [] (.b false) [] func60 (q (sL (mR false [0,2,3,6,16]) 0 (X6 (Z1T Y5 Yd) (x:=(Z1p Y5 Yd)) (Z30 Y5 Yd hp0 hp1 h0 (((Y5.length:Int) - 0).toNat + 1) 0 (show 0≤0 from (by omega)) (Nat.lt_succ_self _)) h1)<|sK [] sN)) rfl (by kernel_rfl) (by kernel_rfl) rfl ?_ ?_
   · simp only [Z19,h0,h1,cond_false]
   · rfl
  | inr r2 =>
   refine fnS E0Ok Z4 (c:=X0 f60) [] (.b true) [] func60 (q (sL (mR false [0,2,3,6,16]) 0 (X6 (Z1T Y5 Yd) (x:=(Z1p Y5 Yd)) (Z30 Y5 Yd hp0 hp1 h0 (((Y5.length:Int) - 0).toNat + 1) 0 (show 0≤0 from (by omega)) (Nat.lt_succ_self _)) h1)<|sK [] sN)) rfl (by kernel_rfl) (by kernel_rfl) rfl ?_ ?_
   · simp only [Z19,h0,h1,cond_false]
   · rfl
theorem Z4J (a:List Gv):Z19 a a=true:=by
  unfold Z19 Z1p
  rw [X7l (a:=a) (p:=fun v=>Z11 v v) (lo:=ZA a a) (x:=()) (y:=()) (fun k i=>rfl) (fun v _=>Z4S v) _ _ (Int.le_refl 0) (Nat.lt_succ_self _)]
  simp
def Zx (Y5:(List Int)) (Yd:(List Int)):Nat→Int→(Unit) ⊕ (Unit)
  | 0,_ => .inl default
  | k + 1,Y3=>(cond (decide (Y3 < (Y5.length:Int)))
    (cond ((Y5.getD Y3.toNat default) != (Yd.getD Y3.toNat default))
      (.inl ())
      (Zx Y5 Yd k (Y3 + 1)))
    (.inr ()))
def Z1X (Y5:(List Int)) (Yd:(List Int)):(Unit) ⊕ (Unit)→Ex × St
  | .inl r=>(.ret,⟨an 4 (.b false :: an 21 []),[]⟩)
  | .inr r=>((.exit 0),⟨.sl (Y5.map (cI .i64)) :: .sl (Yd.map (cI .i64)) :: an 4 (.sl (Y5.map (cI .i64)) :: .i .i64 (Y5.length:Int) :: .sl (Yd.map (cI .i64)) :: .i .i64 (Yd.length:Int) :: .b ((Y5.length:Int) != (Yd.length:Int)) :: an 15 []),[]⟩)
def Z41 (Y5:(List Int)) (Yd:(List Int)) (Y3:Int):St:=⟨.sl (Y5.map (cI .i64)) :: .sl (Yd.map (cI .i64)) :: .any :: .any :: .any :: .i .i64 Y3 :: .sl (Y5.map (cI .i64)) :: .i .i64 (Y5.length:Int) :: .sl (Yd.map (cI .i64)) :: .i .i64 (Yd.length:Int) :: .b ((Y5.length:Int) != (Yd.length:Int)) :: an 15 [],[]⟩
theorem Z3b (Y5:(List Int)) (Yd:(List Int)) (hp0:Y5.length≤1073741824) (hp1:Yd.length≤1073741824) (Z5f:((Y5.length:Int) != (Yd.length:Int))=false):∀ (k:Nat) (Y3:Int) (Z2U:0≤Y3) (hk:((Y5.length:Int) - Y3).toNat < k),Lp prog 0 (sub (X0 f70) [1,1,0,1,0,0]) (Z41 Y5 Yd Y3) (Z1X Y5 Yd (Zx Y5 Yd k Y3)).1 (Z1X Y5 Yd (Zx Y5 Yd k Y3)).2:=by
 intro k
 induction k with
 | zero=>intro Y3 Z2U hk;exact absurd hk (Nat.not_lt_zero _)
 | succ k ih =>
  intro Y3 Z2U hk
  have p {a C} (s:Scr a C):=sZ (cI .i64) Y5<|s
  cases Yf:(decide (Y3 < (Y5.length:Int))) with
  | true =>
   have Yt:=odt Yf
   have Yx:(0:Int)≤Y3:=by clear p;exact (by assumption)
   have Yw:Y3 < (Y5.length:Int):=by clear p;exact (by assumption)
   have YC:Y3 < (Yd.length:Int):=by clear p;exact (by simp_all<;>omega)
   have q {a C} (s:Scr a C):=p (sB Yf<|sK [8,8]<|sG (cI .i64) Y5 Y3 Yx Yw<|sG (cI .i64) Yd Y3 Yx YC<|s)
   clear p
   cases Yi:((Y5.getD Y3.toNat default) != (Yd.getD Y3.toNat default)) with
   | true =>
    have YM:=bne_iff_ne.1 Yi
    have e:Zx Y5 Yd (k + 1) Y3=(.inl ()):=by simp only [Zx,Yf,Yi,cond_true]
    rw [e]
    exact outR (e := .ret) E0Ok Z4 [] (mR false [4,1,21]) [] (q (sB Yi<|sN)) (by kernel_rfl) (by intro h;cases h)
   | false =>
    have YM:=bne_eq_false_iff_eq.1 Yi
    have YA:(-9223372036854775808:Int)≤(Y3 + 1):=by clear q;exact (by omega)
    have YE:(Y3 + 1)≤(9223372036854775807:Int):=by clear q;exact (by omega)
    have e:Zx Y5 Yd (k + 1) Y3=(Zx Y5 Yd k (Y3 + 1)):=by simp only [Zx,Yf,Yi,cond_true,cond_false]
    rw [e]
    exact Xp E0Ok Z4 [] (mR false [0,2,3,6,15]) [] (ih (Y3 + 1) (show 0≤(Y3 + 1) from (by omega)) (by omega)) (q (sB Yi<|sI (Y3 + 1) YA YE<|sN)) (by kernel_rfl)
  | false =>
   have Yt:=odf Yf
   have e:Zx Y5 Yd (k + 1) Y3=(.inr ()):=by simp only [Zx,Yf,cond_false]
   rw [e]
   exact outR (e:=(.exit 0)) E0Ok Z4 [] (mR false [0,2,4,5,15]) [] (p (sB Yf<|sN)) (by kernel_rfl) (by intro h;cases h)
def Z1v (Y5:(List Int)) (Yd:(List Int)):(Unit) ⊕ (Unit):=(Zx Y5 Yd (((Y5.length:Int) - 0).toNat + 1) 0)
def Z12 (Y5:(List Int)) (Yd:(List Int)):Bool:=(cond ((Y5.length:Int) != (Yd.length:Int))
  false
  (match (Z1v Y5 Yd) with
    | .inl r2=>false
    | .inr r2=>true))
theorem Z4E (Y5:(List Int)) (Yd:(List Int)) (hp0:Y5.length≤1073741824) (hp1:Yd.length≤1073741824)  : Fn prog 70 [.sl (Y5.map (cI .i64)), .sl (Yd.map (cI .i64))] (.b (Z12 Y5 Yd)) []:=by
 have p {a C} (s:Scr a C):=sZ (cI .i64) Y5<|sZ (cI .i64) Yd<|s
 cases h0:((Y5.length:Int) != (Yd.length:Int)) with
 | true =>
  have gh0:=bne_iff_ne.1 h0
  refine fnS E0Ok Z4 (c:=X0 f70) [] (.b false) [] func70 (p (sB h0<|sK [] sN)) rfl (by kernel_rfl) (by kernel_rfl) rfl ?_ ?_
  · simp only [Z12,h0,cond_true]
  · rfl
 | false =>
  have gh0:=bne_eq_false_iff_eq.1 h0
  have q {a C} (s:Scr a C):=p (sB h0<|s)
  clear p
  cases h1:(Z1v Y5 Yd) with
  | inl r2 =>
   refine fnS E0Ok Z4 (c:=X0 f70) [] (.b false) [] func70 (q (sL (mR false [0,2,3,6,15]) 0 (X6 (Z1X Y5 Yd) (x:=(Z1v Y5 Yd)) (Z3b Y5 Yd hp0 hp1 h0 (((Y5.length:Int) - 0).toNat + 1) 0 (show 0≤0 from (by omega)) (Nat.lt_succ_self _)) h1)<|sK [] sN)) rfl (by kernel_rfl) (by kernel_rfl) rfl ?_ ?_
   · simp only [Z12,h0,h1,cond_false]
   · rfl
  | inr r2 =>
   refine fnS E0Ok Z4 (c:=X0 f70) [] (.b true) [] func70 (q (sL (mR false [0,2,3,6,15]) 0 (X6 (Z1X Y5 Yd) (x:=(Z1v Y5 Yd)) (Z3b Y5 Yd hp0 hp1 h0 (((Y5.length:Int) - 0).toNat + 1) 0 (show 0≤0 from (by omega)) (Nat.lt_succ_self _)) h1)<|sK [] sN)) rfl (by kernel_rfl) (by kernel_rfl) rfl ?_ ?_
   · simp only [Z12,h0,h1,cond_false]
   · rfl
theorem Z4T (a:List Int):Z12 a a=true:=by
  unfold Z12 Z1v
  rw [X29 (a:=a) (p:=fun v => !(v != v)) (lo:=Zx a a) (x:=()) (y:=()) (fun k i=>by rw [Zx];cases (a.getD i.toNat default != a.getD i.toNat default)<;>rfl)]
  rw [show (a.all fun v => !(v != v))=true from by rw [List.all_eq_true];intro v _;simp]
  simp
def ZB (Y5:(List (List Int))) (Yd:(List (List Int))):Nat→Int→(Unit) ⊕ (Unit)
  | 0,_ => .inl default
  | k + 1,Y3=>(cond (decide (Y3 < (Y5.length:Int)))
    (cond (Z12 (Y5.getD Y3.toNat default) (Yd.getD Y3.toNat default))
      (ZB Y5 Yd k (Y3 + 1))
      (.inl ()))
    (.inr ()))
def Z1U (Y5:(List (List Int))) (Yd:(List (List Int))):(Unit) ⊕ (Unit)→Ex × St
  | .inl r=>(.ret,⟨an 4 (.b false :: an 22 []),[]⟩)
  | .inr r=>((.exit 0),⟨.sl (Y5.map (cL (cI .i64))) :: .sl (Yd.map (cL (cI .i64))) :: an 4 (.sl (Y5.map (cL (cI .i64))) :: .i .i64 (Y5.length:Int) :: .sl (Yd.map (cL (cI .i64))) :: .i .i64 (Yd.length:Int) :: .b ((Y5.length:Int) != (Yd.length:Int)) :: an 16 []),[]⟩)
def Z3R (Y5:(List (List Int))) (Yd:(List (List Int))) (Y3:Int):St:=⟨.sl (Y5.map (cL (cI .i64))) :: .sl (Yd.map (cL (cI .i64))) :: .any :: .any :: .any :: .i .i64 Y3 :: .sl (Y5.map (cL (cI .i64))) :: .i .i64 (Y5.length:Int) :: .sl (Yd.map (cL (cI .i64))) :: .i .i64 (Yd.length:Int) :: .b ((Y5.length:Int) != (Yd.length:Int)) :: an 16 [],[]⟩
theorem Z31 (Y5:(List (List Int))) (Yd:(List (List Int))) (hp0:Y5.length≤1073741824) (hp1:∀ t∈Y5,t.length≤1073741824) (hp2:Yd.length≤1073741824) (hp3:∀ t∈Yd,t.length≤1073741824) (Z5c:((Y5.length:Int) != (Yd.length:Int))=false):∀ (k:Nat) (Y3:Int) (Z2I:0≤Y3) (hk:((Y5.length:Int) - Y3).toNat < k),Lp prog 0 (sub (X0 f23) [1,1,0,1,0,0]) (Z3R Y5 Yd Y3) (Z1U Y5 Yd (ZB Y5 Yd k Y3)).1 (Z1U Y5 Yd (ZB Y5 Yd k Y3)).2:=by
 intro k
 induction k with
 | zero=>intro Y3 Z2I hk;exact absurd hk (Nat.not_lt_zero _)
 | succ k ih =>
  intro Y3 Z2I hk
  have p {a C} (s:Scr a C):=sZ (cL (cI .i64)) Y5<|s
  cases Yf:(decide (Y3 < (Y5.length:Int))) with
  | true =>
   have Yt:=odt Yf
   have Yx:(0:Int)≤Y3:=by clear p;exact (by assumption)
   have Yw:Y3 < (Y5.length:Int):=by clear p;exact (by assumption)
   have YC:Y3 < (Yd.length:Int):=by clear p;exact (by simp_all<;>omega)
   have YA:(Y5.getD Y3.toNat default).length≤1073741824:=by clear p;exact (by simp_all<;>omega)
   have YE:(Yd.getD Y3.toNat default).length≤1073741824:=by clear p;exact (by simp_all<;>omega)
   have q {a C} (s:Scr a C):=p (sB Yf<|sK [8,8]<|sG (cL (cI .i64)) Y5 Y3 Yx Yw<|sG (cL (cI .i64)) Yd Y3 Yx YC<|sF (Z4E (Y5.getD Y3.toNat default) (Yd.getD Y3.toNat default) YA YE)<|s)
   clear p
   cases Yi:(Z12 (Y5.getD Y3.toNat default) (Yd.getD Y3.toNat default)) with
   | true =>
    have YL:(-9223372036854775808:Int)≤(Y3 + 1):=by clear q;exact (by omega)
    have YW:(Y3 + 1)≤(9223372036854775807:Int):=by clear q;exact (by omega)
    have e:ZB Y5 Yd (k + 1) Y3=(ZB Y5 Yd k (Y3 + 1)):=by simp only [ZB,Yf,Yi,cond_true]
    rw [e]
    exact Xp E0Ok Z4 [] (mR false [0,2,3,6,16]) [] (ih (Y3 + 1) (show 0≤(Y3 + 1) from (by omega)) (by omega)) (q (sB' Yi<|sI (Y3 + 1) YL YW<|sN)) (by kernel_rfl)
   | false =>
    have e:ZB Y5 Yd (k + 1) Y3=(.inl ()):=by simp only [ZB,Yf,Yi,cond_true,cond_false]
    rw [e]
    exact outR (e := .ret) E0Ok Z4 [] (mR false [4,1,22]) [] (q (sB' Yi<|sN)) (by kernel_rfl) (by intro h;cases h)
  | false =>
   have Yt:=odf Yf
   have e:ZB Y5 Yd (k + 1) Y3=(.inr ()):=by simp only [ZB,Yf,cond_false]
   rw [e]
   exact outR (e:=(.exit 0)) E0Ok Z4 [] (mR false [0,2,4,5,16]) [] (p (sB Yf<|sN)) (by kernel_rfl) (by intro h;cases h)
def Z1q (Y5:(List (List Int))) (Yd:(List (List Int))):(Unit) ⊕ (Unit):=(ZB Y5 Yd (((Y5.length:Int) - 0).toNat + 1) 0)
def Z1a (Y5:(List (List Int))) (Yd:(List (List Int))):Bool:=(cond ((Y5.length:Int) != (Yd.length:Int))
  false
  (match (Z1q Y5 Yd) with
    | .inl r2=>false
    | .inr r2=>true))
theorem Z4p (Y5:(List (List Int))) (Yd:(List (List Int))) (hp0:Y5.length≤1073741824) (hp1:∀ t∈Y5,t.length≤1073741824) (hp2:Yd.length≤1073741824) (hp3:∀ t∈Yd,t.length≤1073741824)  : Fn prog 23 [.sl (Y5.map (cL (cI .i64))), .sl (Yd.map (cL (cI .i64)))] (.b (Z1a Y5 Yd)) []:=by
 have p {a C} (s:Scr a C):=sZ (cL (cI .i64)) Y5<|sZ (cL (cI .i64)) Yd<|s
 cases h0:((Y5.length:Int) != (Yd.length:Int)) with
 | true =>
  have gh0:=bne_iff_ne.1 h0
  refine fnS E0Ok Z4 (c:=X0 f23) [] (.b false) [] func23 (p (sB h0<|sK [] sN)) rfl (by kernel_rfl) (by kernel_rfl) rfl ?_ ?_
  · simp only [Z1a,h0,cond_true]
  · rfl
 | false =>
  have gh0:=bne_eq_false_iff_eq.1 h0
  have q {a C} (s:Scr a C):=p (sB h0<|s)
  clear p
  cases h1:(Z1q Y5 Yd) with
  | inl r2 =>
   refine fnS E0Ok Z4 (c:=X0 f23) [] (.b false) [] func23 (q (sL (mR false [0,2,3,6,16]) 0 (X6 (Z1U Y5 Yd) (x:=(Z1q Y5 Yd)) (Z31 Y5 Yd hp0 hp1 hp2 hp3 h0 (((Y5.length:Int) - 0).toNat + 1) 0 (show 0≤0 from (by omega)) (Nat.lt_succ_self _)) h1)<|sK [] sN)) rfl (by kernel_rfl) (by kernel_rfl) rfl ?_ ?_
   · simp only [Z1a,h0,h1,cond_false]
   · rfl
  | inr r2 =>
   refine fnS E0Ok Z4 (c:=X0 f23) [] (.b true) [] func23 (q (sL (mR false [0,2,3,6,16]) 0 (X6 (Z1U Y5 Yd) (x:=(Z1q Y5 Yd)) (Z31 Y5 Yd hp0 hp1 hp2 hp3 h0 (((Y5.length:Int) - 0).toNat + 1) 0 (show 0≤0 from (by omega)) (Nat.lt_succ_self _)) h1)<|sK [] sN)) rfl (by kernel_rfl) (by kernel_rfl) rfl ?_ ?_
   · simp only [Z1a,h0,h1,cond_false]
   · rfl
theorem Z4K (a:List (List Int)):Z1a a a=true:=by
  unfold Z1a Z1q
  rw [X29 (a:=a) (p:=fun v=>Z12 v v) (lo:=ZB a a) (x:=()) (y:=()) (fun k i=>rfl)]
  rw [show (a.all fun v=>Z12 v v)=true from by rw [List.all_eq_true];intro v _;exact Z4T v]
  simp
def Z1w (Y5:Gm) (Yd:Gm):Bool:=(cond (Z19 Y5.Pq Yd.Pq)
  (cond (Z1a Y5.Tr Yd.Tr)
    true
    false)
  false)
theorem Z4U (Y5:Gm) (Yd:Gm) (hp0:Y5.Pq.length≤1073741824) (hp1:Y5.Tr.length≤1073741824) (hp2:∀ t∈Y5.Tr,t.length≤1073741824) (hp3:Yd.Pq.length≤1073741824) (hp4:Yd.Tr.length≤1073741824) (hp5:∀ t∈Yd.Tr,t.length≤1073741824)  : Fn prog 16 [.agg [.sl (Y5.Pq.map Gv.c), .sl (Y5.Tr.map (cL (cI .i64)))], .agg [.sl (Yd.Pq.map Gv.c), .sl (Yd.Tr.map (cL (cI .i64)))]] (.b (Z1w Y5 Yd)) []:=by
 have p {a C} (s:Scr a C):=sF (Z4o Y5.Pq Yd.Pq hp0 hp3)<|s
 cases h0:(Z19 Y5.Pq Yd.Pq) with
 | true =>
  have q {a C} (s:Scr a C):=p (sB' h0<|sF (Z4p Y5.Tr Yd.Tr hp1 hp2 hp4 hp5)<|s)
  clear p
  cases h1:(Z1a Y5.Tr Yd.Tr) with
  | true =>
   refine fnS E0Ok Z4 (c:=X0 f16) [] (.b true) [] func16 (q (sB' h1<|sK [] sN)) rfl (by kernel_rfl) (by kernel_rfl) rfl ?_ ?_
   · simp only [Z1w,h0,h1,cond_true]
   · rfl
  | false =>
   refine fnS E0Ok Z4 (c:=X0 f16) [] (.b false) [] func16 (q (sB' h1<|sK [] sN)) rfl (by kernel_rfl) (by kernel_rfl) rfl ?_ ?_
   · simp only [Z1w,h0,h1,cond_true,cond_false]
   · rfl
 | false =>
  refine fnS E0Ok Z4 (c:=X0 f16) [] (.b false) [] func16 (p (sB' h0<|sK [] sN)) rfl (by kernel_rfl) (by kernel_rfl) rfl ?_ ?_
  · simp only [Z1w,h0,cond_false]
  · rfl
theorem Z53 (a:Gm):Z1w a a=true:=by
  simp [Z1w,Z4J,Z4K]
def ZV (Yv:Gm):Bool:=(cond (decide ((ZM Yv 1048576) < 0))
  true
  (cond ((Z1f Yv) == (Z1t Yv))
    (cond (Z1w Yv Yv)
      true
      false)
    false))
set_option maxHeartbeats 1000000 in
theorem Z3w (Yv:Gm) (hp0:Yv.Pq.length≤9223372036854775807) (hp1:Yv.Tr.length≤9223372036854775807) (hp2:∀ t∈Yv.Tr,t.length≤9223372036854775807)  : Fn prog 5 [.agg [.sl (Yv.Pq.map Gv.c), .sl (Yv.Tr.map (cL (cI .i64)))]] (.b (ZV Yv)) []:=by
 have z0:=(Z4F Yv 1048576 (by omega) (by omega) (by assumption) (by omega) (by omega))
 have p {a C} (s:Scr a C):=sF (Z4N Yv 1048576 hp0 hp1 hp2)<|s
 cases h0:(decide ((ZM Yv 1048576) < 0)) with
 | true =>
  have gh0:=odt h0
  refine fnS E0Ok Z4 (c:=X0 f5) [] (.b true) [] func5 (p (sB h0<|sK [] sN)) rfl (by kernel_rfl) (by kernel_rfl) rfl ?_ ?_
  · simp only [ZV,h0,cond_true]
  · rfl
 | false =>
  have gh0:=odf h0
  have y0:Yv.Pq.length≤1073741824:=by clear p;exact (by omega)
  have y1:Yv.Tr.length≤1073741824:=by clear p;exact (by omega)
  have y2:∀ t∈Yv.Tr,t.length≤1073741824:=by clear p;exact (by intro t ht;(have q:=z0.2.2.2.2 t ht;omega))
  have q {a C} (s:Scr a C):=p (sB h0<|sF (Z3c Yv y0 y1 y2)<|sF (Fn.castA (args':=[.agg [.sl (Yv.Pq.map Gv.c), .sl ((Yv.Tr.map fun l=>l.map (cI .i64)).map fun l => [.sl l])]]) (Z4z Yv y0 y1 y2) (by simp [cL,Function.comp_def];done))<|sF (Z3c Yv y0 y1 y2)<|sF (Fn.castA (args':=[.agg [.sl (Yv.Pq.map Gv.c), .sl ((Yv.Tr.map fun l=>l.map (cI .i64)).map fun l => [.sl l])]]) (Z4C Yv y0 y1 y2) (by simp [cL,Function.comp_def];done))<|s)
  clear p
  cases h1:((Z1f Yv) == (Z1t Yv)) with
  | true =>
   have gh1:=eq_of_beq h1
   have p {a C} (s:Scr a C):=q (sB' h1<|sK [3,3]<|sF (Z3c Yv y0 y1 y2)<|sF (Fn.castA (args':=[.agg [.sl (Yv.Pq.map Gv.c), .sl ((Yv.Tr.map fun l=>l.map (cI .i64)).map fun l => [.sl l])], .agg [.sl (Yv.Pq.map Gv.c), .sl ((Yv.Tr.map fun l=>l.map (cI .i64)).map fun l => [.sl l])]]) (Z4U Yv Yv y0 y1 y2 y0 y1 y2) (by simp [cL,Function.comp_def];done))<|s)
   clear q
   cases h2:(Z1w Yv Yv) with
   | true =>
    refine fnS E0Ok Z4 (c:=X0 f5) [] (.b true) [] func5 (p (sB' h2<|sK [] sN)) rfl (by kernel_rfl) (by kernel_rfl) rfl ?_ ?_
    · simp only [ZV,h0,h1,h2,cond_true,cond_false]
    · rfl
   | false =>
    refine fnS E0Ok Z4 (c:=X0 f5) [] (.b false) [] func5 (p (sB' h2<|sK [] sN)) rfl (by kernel_rfl) (by kernel_rfl) rfl ?_ ?_
    · simp only [ZV,h0,h1,h2,cond_true,cond_false]
    · rfl
  | false =>
   have gh1:=ne_of_beq_false h1
   refine fnS E0Ok Z4 (c:=X0 f5) [] (.b false) [] func5 (q (sB' h1<|sK [] sN)) rfl (by kernel_rfl) (by kernel_rfl) rfl ?_ ?_
   · simp only [ZV,h0,h1,cond_false]
   · rfl
theorem Z5v (n:Nat) (ts:List (List Int)):(bpL n ts).length=0↔(brL n ts).length=0:=by
  rw [List.length_eq_zero_iff,List.length_eq_zero_iff]
  constructor
  · intro h
    cases hb:brL n ts with
    | nil=>rfl
    | cons e l =>
      exfalso
      have:e.e0∈bpL n ts:=X4i.2 ⟨e,by rw [hb];exact List.mem_cons_self, .inl rfl⟩
      rw [h] at this;cases this
  · intro h
    cases hb:bpL n ts with
    | nil=>rfl
    | cons x l =>
      exfalso
      obtain ⟨e,he,-⟩:=X4i.1 (show x∈bpL n ts by rw [hb];exact List.mem_cons_self)
      rw [h] at he;cases he
theorem Z54 (m:Gm):Z1f m=Z1t m:=by
  unfold Z1f Z1t Z1j
  rw [Z4A]
  cases hm:ZN m with
  | false=>rfl
  | true =>
    have ok:=Z3x m hm
    rw [Z51 m ok]
    simp only [cond_true]
    cases decide ((m.Tr.flatMap dE).Nodup) with
    | false=>rfl
    | true =>
      cases decide ((m.Tr.length:Int) > 0) with
      | false=>rfl
      | true =>
        simp only [cond_true]
        rw [Z4Z m ok,Z52 m ok]
        have q:=Z5v m.Pq.length m.Tr
        by_cases h0:(brL m.Pq.length m.Tr).length=0
        · rw [h0,q.2 h0]
        · have h1:¬(bpL m.Pq.length m.Tr).length=0:=fun h=>h0 (q.1 h)
          rw [show (((brL m.Pq.length m.Tr).length:Int) == 0)=false from by rw [beq_eq_false_iff_ne];omega,show (((bpL m.Pq.length m.Tr).length:Int) == 0)=false from by rw [beq_eq_false_iff_ne];omega]
theorem Z3n (a:Gm) (h:a.Pq.length≤9223372036854775807) (h':a.Tr.length≤9223372036854775807) (h2:∀ t∈a.Tr,t.length≤9223372036854775807):ZV a=true:=by
  simp [ZV,Z54,Z53]
end Go.Ab
