/- The functions of this seat as plain Lean, and that the program's are these. Printed by a program of the prover's own. -/
import Derived.Test.YtoibkmljibnjnaaB8
set_option linter.unusedVariables false
set_option linter.unusedSimpArgs false
set_option maxRecDepth 100000
namespace Go.Ab
open Go.RowKit Go.Proofs.Try
def Zt (Y4:Gm) (Yi:Nat):(List Gs):=(Z1h Y4 Yi (((((Z5 Y4).2).length:Int) - 0).toNat + 1) 0 ((Z4 Y4).1.Sp))
theorem Z5D (m:Gm) (s:Nat):Zt m s=(Z5 m).2.map fun e=>(⟨e.e0,e.e1,Z1d m e,s⟩:Gs):=by
  unfold Zt
  rw [Z8K]
  exact X95 (fun k i r=>rfl)
theorem Z7l (m:Gm) (s:Nat) (h:Zn m=true):(Zt m s).length≤4096:=by
  rw [Z5D,List.length_map];exact Z7H m (Z1O m h)
def Z2a (Y4:Gm) (Yi:Nat):Bool:=(Zm (⟨(Z4 Y4).1.Me,(Zt Y4 Yi),(Z4 Y4).1.Film,(Z4 Y4).1.Bend,(Z4 Y4).1.We,(Z4 Y4).1.Fall⟩:Gb))
def Zi (Y4:Gm) (Yi:Nat):Gb × Bool:=(cond (Z4 Y4).2
  (cond (Z2a Y4 Yi)
    ((⟨(Z4 Y4).1.Me,(Zt Y4 Yi),(Z4 Y4).1.Film,(Z4 Y4).1.Bend,(Z4 Y4).1.We,(Z4 Y4).1.Fall⟩:Gb),true)
    ((⟨(⟨([]:List Gv),([]:List (List Int))⟩:Gm),([]:List Gs),0,0,([]:List Nat),(⟨0,0,0⟩:Gv)⟩:Gb),false))
  ((⟨(⟨([]:List Gv),([]:List (List Int))⟩:Gm),([]:List Gs),0,0,([]:List Nat),(⟨0,0,0⟩:Gv)⟩:Gb),false))
theorem Z4S (m:Gm) (s:Nat):Zi m s=(⟨⟨[],[]⟩,[],0,0,[],⟨0,0,0⟩⟩,false)∨(Zn m=true∧Zi m s=(⟨m,Zt m s,0,0,List.replicate (m.Pq.length:Int).toNat 0,⟨0,0,0⟩⟩,true)):=by
  unfold Zi
  cases h:(Z4 m).2 with
  | false=>left;rw [cond_false]
  | true =>
    have hv:=Z3u m h
    rw [cond_true]
    cases Z2a m s with
    | false=>left;rw [cond_false]
    | true=>right;rw [cond_true,Z52 m hv];exact ⟨hv,rfl⟩
theorem Z5X (m:Gm) (s:Nat):(Zi m s).1.Me.Pq.length≤m.Pq.length:=by
  rcases Z4S m s with e | ⟨-,e⟩<;>rw [e]
  · exact Nat.zero_le _
  · exact Nat.le_refl _
theorem Z5Y (m:Gm) (s:Nat):(Zi m s).1.Me.Tr.length≤m.Tr.length:=by
  rcases Z4S m s with e | ⟨-,e⟩<;>rw [e]
  · exact Nat.zero_le _
  · exact Nat.le_refl _
theorem Z5Z (m:Gm) (s:Nat):(Zi m s).1.We.length≤m.Pq.length:=by
  rcases Z4S m s with e | ⟨-,e⟩<;>rw [e]
  · exact Nat.zero_le _
  · simp
theorem Z60 (m:Gm) (s:Nat):(Zi m s).1.Sp.length≤4096:=by
  rcases Z4S m s with e | ⟨h,e⟩<;>rw [e]
  · exact Nat.zero_le _
  · exact Z7l m s h
theorem Z61 (m:Gm) (s:Nat):∀ t∈(Zi m s).1.Me.Tr,t∈m.Tr:=by
  rcases Z4S m s with e | ⟨-,e⟩<;>rw [e]
  · intro t ht;exact absurd ht (List.not_mem_nil)
  · exact fun t ht=>ht
theorem Z6z (Y4:Gm) (Yi:Nat) (hp0:Y4.Pq.length≤1073741824) (hp1:Y4.Tr.length≤1073741824) (hp2:∀ t∈Y4.Tr,t.length≤1073741824)  : Fn prog 46 [.agg [.sl (Y4.Pq.map Gv.c), .sl (Y4.Tr.map (cL (cI .i64)))], .f .f32 Yi] (.tup [.agg [.own 0, .own 1, .own 2, .f .f32 ((Zi Y4 Yi).1.Film), .f .f32 ((Zi Y4 Yi).1.Bend), .own 3, .f .f32 ((Zi Y4 Yi).1.Fall.X), .f .f32 ((Zi Y4 Yi).1.Fall.Y), .f .f32 ((Zi Y4 Yi).1.Fall.Z)], .b ((Zi Y4 Yi).2)]) [.vec 32 3 (((Zi Y4 Yi).1.Me.Pq).map Gv.c) false, .nest 60 (((Zi Y4 Yi).1.Me.Tr).map fun l=>l.map (cI .i64)) false, .vec 76 4 (((Zi Y4 Yi).1.Sp).map Gs.c) false, .vec 29 1 (((Zi Y4 Yi).1.We).map (cF .f32)) false]:=by
 have l1:=(Z3Q Y4)
 have l2:=(Z3R Y4)
 have l3:=(Z3S Y4)
 have l4:=(Z5e Y4)
 have p {a C} (s:Scr a C):=sF (Z5B Y4 hp0 hp1 hp2)<|s
 cases h0:(Z4 Y4).2 with
 | true =>
  have y0:OkE Y4.Pq.length Y4.Tr:=by clear p;exact (by exact Z1O _ (Z3u _ (by assumption)))
  have y1:(⟨(Z4 Y4).1.Me,(Zt Y4 Yi),(Z4 Y4).1.Film,(Z4 Y4).1.Bend,(Z4 Y4).1.We,(Z4 Y4).1.Fall⟩:Gb).Me.Pq.length≤1073741824:=by clear p;exact (by exact Nat.le_trans (Z3Q Y4) (by omega))
  have y2:(⟨(Z4 Y4).1.Me,(Zt Y4 Yi),(Z4 Y4).1.Film,(Z4 Y4).1.Bend,(Z4 Y4).1.We,(Z4 Y4).1.Fall⟩:Gb).Me.Tr.length≤1073741824:=by clear p;exact (by exact Nat.le_trans (Z3R Y4) (by omega))
  have y3:∀ t∈(⟨(Z4 Y4).1.Me,(Zt Y4 Yi),(Z4 Y4).1.Film,(Z4 Y4).1.Bend,(Z4 Y4).1.We,(Z4 Y4).1.Fall⟩:Gb).Me.Tr,t.length≤1073741824:=by clear p;exact (by exact fun t ht=>hp2 t (Z5f Y4 t ht))
  have y4:(⟨(Z4 Y4).1.Me,(Zt Y4 Yi),(Z4 Y4).1.Film,(Z4 Y4).1.Bend,(Z4 Y4).1.We,(Z4 Y4).1.Fall⟩:Gb).Sp.length≤1073741824:=by clear p;exact (by exact Nat.le_trans (Z7l Y4 Yi (Z3u _ (by assumption))) (by decide))
  have y5:(⟨(Z4 Y4).1.Me,(Zt Y4 Yi),(Z4 Y4).1.Film,(Z4 Y4).1.Bend,(Z4 Y4).1.We,(Z4 Y4).1.Fall⟩:Gb).We.length≤1073741824:=by clear p;exact (by exact Nat.le_trans (Z3S Y4) (by omega))
  have q {a C} (s:Scr a C):=p (sB' h0<|sF (Z3U Y4 hp0 hp1 hp2 y0)<|sZ Gedge.cells ((Z5 Y4).2)<|sL Z3C 9 (Xc (Z2O Y4 Yi) (x:=(Zt Y4 Yi)) (Z5N Y4 Yi hp0 hp1 hp2 h0 (((((Z5 Y4).2).length:Int) - 0).toNat + 1) 0 ((Z4 Y4).1.Sp) (show 0≤0 from (by omega)) (show (((Z4 Y4).1.Sp).length:Int)≤0 from (by omega)) (Nat.lt_succ_self _)) rfl)<|sF (Fn.castA (args':=[.agg [.sl (((Z4 Y4).1.Me.Pq).map Gv.c), .sl ((((Z4 Y4).1.Me.Tr).map fun l=>l.map (cI .i64)).map fun l => [.sl l]), .sl ((Zt Y4 Yi).map Gs.c), .f .f32 ((Z4 Y4).1.Film), .f .f32 ((Z4 Y4).1.Bend), .sl (((Z4 Y4).1.We).map (cF .f32)), .f .f32 ((Z4 Y4).1.Fall.X), .f .f32 ((Z4 Y4).1.Fall.Y), .f .f32 ((Z4 Y4).1.Fall.Z)]]) (Z24 (⟨(Z4 Y4).1.Me,(Zt Y4 Yi),(Z4 Y4).1.Film,(Z4 Y4).1.Bend,(Z4 Y4).1.We,(Z4 Y4).1.Fall⟩:Gb) y1 y2 y3 y4 y5) (by simp [cL,Function.comp_def];done))<|s)
  clear p
  cases h1:(Z2a Y4 Yi) with
  | true =>
   refine fnS E0Ok Zg (c:=X2 f46) [] (.tup [.agg [.own 0, .own 1, .own 2, .f .f32 ((Z4 Y4).1.Film), .f .f32 ((Z4 Y4).1.Bend), .own 3, .f .f32 ((Z4 Y4).1.Fall.X), .f .f32 ((Z4 Y4).1.Fall.Y), .f .f32 ((Z4 Y4).1.Fall.Z)], .b true]) [.vec 32 3 (((Z4 Y4).1.Me.Pq).map Gv.c) false, .nest 60 (((Z4 Y4).1.Me.Tr).map fun l=>l.map (cI .i64)) false, .vec 76 4 ((Zt Y4 Yi).map Gs.c) false, .vec 29 1 (((Z4 Y4).1.We).map (cF .f32)) false] func46 (q (sB' h1<|sK [5,6,7,8] sN)) rfl (by kernel_rfl) (by kernel_rfl) rfl ?_ ?_
   · simp only [Zi,h0,h1,cond_true]
   · simp [Zi,h0,h1]
  | false =>
   refine fnS E0Ok Zg (c:=X2 f46) [(.row 1 0, .vec 32 3 [] false),(.row 1 1, .nest 60 [] false),(.row 1 2, .vec 76 4 [] false),(.row 1 5, .vec 29 1 [] false)] (.tup [.agg [.own 0, .own 1, .own 2, .f .f32 0, .f .f32 0, .own 3, .f .f32 0, .f .f32 0, .f .f32 0], .b false]) [.vec 32 3 [] false, .nest 60 [] false, .vec 76 4 [] false, .vec 29 1 [] false] func46 (q (sB' h1<|sK [9,10,11,12] sN)) rfl (by kernel_rfl) (by kernel_rfl) rfl ?_ ?_
   · simp only [Zi,h0,h1,cond_true,cond_false]
   · simp [Zi,h0,h1,Gv.c,cL,cI,Gs.c,cF]
 | false =>
  refine fnS E0Ok Zg (c:=X2 f46) [(.row 1 0, .vec 32 3 [] false),(.row 1 1, .nest 60 [] false),(.row 1 2, .vec 76 4 [] false),(.row 1 5, .vec 29 1 [] false)] (.tup [.agg [.own 0, .own 1, .own 2, .f .f32 0, .f .f32 0, .own 3, .f .f32 0, .f .f32 0, .f .f32 0], .b false]) [.vec 32 3 [] false, .nest 60 [] false, .vec 76 4 [] false, .vec 29 1 [] false] func46 (p (sB' h0<|sK [7,8,9,10] sN)) rfl (by kernel_rfl) (by kernel_rfl) rfl ?_ ?_
  · simp only [Zi,h0,cond_false]
  · simp [Zi,h0,Gv.c,cL,cI,Gs.c,cF]
def gd11:Gm:=⟨[⟨0,0,0⟩,⟨1065353216,0,0⟩,⟨0,1065353216,0⟩,⟨1065353216,1065353216,0⟩],[[0,1,3],[0,3,2]]⟩
def ge11:List (List Int):=[[0,1],[0,2],[0,3],[1,3],[2,3]]
theorem Z9I:Z8 1 1 1065353216=gd11:=by kernel_rfl
theorem Z9f (ps:List Gv) (h:ps.length=gd11.Pq.length):Zh ⟨ps,gd11.Tr⟩=ge11:=by
  match ps,h with
  | [a0,a1,a2,a3],_=>show _=_;kernel_rfl
def gd12:Gm:=⟨[⟨0,0,0⟩,⟨1065353216,0,0⟩,⟨0,1065353216,0⟩,⟨1065353216,1065353216,0⟩,⟨0,1073741824,0⟩,⟨1065353216,1073741824,0⟩],[[0,1,3],[0,3,2],[2,3,5],[2,5,4]]⟩
def ge12:List (List Int):=[[0,1],[0,2],[0,3],[1,3],[2,3],[2,4],[2,5],[3,5],[4,5]]
theorem Z9J:Z8 1 2 1065353216=gd12:=by kernel_rfl
theorem Z9g (ps:List Gv) (h:ps.length=gd12.Pq.length):Zh ⟨ps,gd12.Tr⟩=ge12:=by
  match ps,h with
  | [a0,a1,a2,a3,a4,a5],_=>show _=_;kernel_rfl
def gd21:Gm:=⟨[⟨0,0,0⟩,⟨1065353216,0,0⟩,⟨1073741824,0,0⟩,⟨0,1065353216,0⟩,⟨1065353216,1065353216,0⟩,⟨1073741824,1065353216,0⟩],[[0,1,4],[0,4,3],[1,2,5],[1,5,4]]⟩
def ge21:List (List Int):=[[0,1],[0,3],[0,4],[1,2],[1,4],[1,5],[2,5],[3,4],[4,5]]
theorem Z9K:Z8 2 1 1065353216=gd21:=by kernel_rfl
theorem Z9h (ps:List Gv) (h:ps.length=gd21.Pq.length):Zh ⟨ps,gd21.Tr⟩=ge21:=by
  match ps,h with
  | [a0,a1,a2,a3,a4,a5],_=>show _=_;kernel_rfl
def gd22:Gm:=⟨[⟨0,0,0⟩,⟨1065353216,0,0⟩,⟨1073741824,0,0⟩,⟨0,1065353216,0⟩,⟨1065353216,1065353216,0⟩,⟨1073741824,1065353216,0⟩,⟨0,1073741824,0⟩,⟨1065353216,1073741824,0⟩,⟨1073741824,1073741824,0⟩],[[0,1,4],[0,4,3],[1,2,5],[1,5,4],[3,4,7],[3,7,6],[4,5,8],[4,8,7]]⟩
def ge22:List (List Int):=[[0,1],[0,3],[0,4],[1,2],[1,4],[1,5],[2,5],[3,4],[3,6],[3,7],[4,5],[4,7],[4,8],[5,8],[6,7],[7,8]]
theorem Z9L:Z8 2 2 1065353216=gd22:=by kernel_rfl
theorem Z9i (ps:List Gv) (h:ps.length=gd22.Pq.length):Zh ⟨ps,gd22.Tr⟩=ge22:=by
  match ps,h with
  | [a0,a1,a2,a3,a4,a5,a6,a7,a8],_=>show _=_;kernel_rfl
def gd31:Gm:=⟨[⟨0,0,0⟩,⟨1065353216,0,0⟩,⟨1073741824,0,0⟩,⟨1077936128,0,0⟩,⟨0,1065353216,0⟩,⟨1065353216,1065353216,0⟩,⟨1073741824,1065353216,0⟩,⟨1077936128,1065353216,0⟩],[[0,1,5],[0,5,4],[1,2,6],[1,6,5],[2,3,7],[2,7,6]]⟩
def ge31:List (List Int):=[[0,1],[0,4],[0,5],[1,2],[1,5],[1,6],[2,3],[2,6],[2,7],[3,7],[4,5],[5,6],[6,7]]
theorem Z9M:Z8 3 1 1065353216=gd31:=by kernel_rfl
theorem Z9j (ps:List Gv) (h:ps.length=gd31.Pq.length):Zh ⟨ps,gd31.Tr⟩=ge31:=by
  match ps,h with
  | [a0,a1,a2,a3,a4,a5,a6,a7],_=>show _=_;kernel_rfl
def gd32:Gm:=⟨[⟨0,0,0⟩,⟨1065353216,0,0⟩,⟨1073741824,0,0⟩,⟨1077936128,0,0⟩,⟨0,1065353216,0⟩,⟨1065353216,1065353216,0⟩,⟨1073741824,1065353216,0⟩,⟨1077936128,1065353216,0⟩,⟨0,1073741824,0⟩,⟨1065353216,1073741824,0⟩,⟨1073741824,1073741824,0⟩,⟨1077936128,1073741824,0⟩],[[0,1,5],[0,5,4],[1,2,6],[1,6,5],[2,3,7],[2,7,6],[4,5,9],[4,9,8],[5,6,10],[5,10,9],[6,7,11],[6,11,10]]⟩
def ge32:List (List Int):=[[0,1],[0,4],[0,5],[1,2],[1,5],[1,6],[2,3],[2,6],[2,7],[3,7],[4,5],[4,8],[4,9],[5,6],[5,9],[5,10],[6,7],[6,10],[6,11],[7,11],[8,9],[9,10],[10,11]]
theorem Z9N:Z8 3 2 1065353216=gd32:=by kernel_rfl
theorem Z9k (ps:List Gv) (h:ps.length=gd32.Pq.length):Zh ⟨ps,gd32.Tr⟩=ge32:=by
  match ps,h with
  | [a0,a1,a2,a3,a4,a5,a6,a7,a8,a9,a10,a11],_=>show _=_;kernel_rfl
inductive GD:Gm→List (List Int)→Prop
  | g11:GD gd11 ge11
  | g12:GD gd12 ge12
  | g21:GD gd21 ge21
  | g22:GD gd22 ge22
  | g31:GD gd31 ge31
  | g32:GD gd32 ge32
def d16 (x:Int):Nat:=fop .quo .f32 (X3 .f32 (IntKind.wrap .i64 (x - 2))) 1098907648
def lngW (x:Int):Nat:=fop .quo .f32 (X3 .f32 (IntKind.wrap .i64 (2 + x))) 1082130432
def stfW (x:Int):Nat:=fop .quo .f32 (X3 .f32 (IntKind.wrap .i64 (1 + x))) 1073741824
def Mv5 (b v:Gv):Prop:=∃ x y z:Nat,x < 5∧y < 5∧z < 5∧v=⟨fop .add .f32 b.X (d16 (x:Int)),fop .add .f32 b.Y (d16 (y:Int)),fop .add .f32 b.Z (d16 (z:Int))⟩
def SpO (E:List (List Int)) (j:Nat) (s:Gs):Prop:=∃ x y:Nat,x < 5∧y < 4∧s=⟨(E.getD j default).getD 0 default,(E.getD j default).getD 1 default,lngW (x:Int),stfW (y:Int)⟩
theorem Z7I {l:List Gv} {i:Nat} {v:Gv} (h:i < l.length):(l.set i v).getD i default=v:=by
  rw [List.getD_eq_getElem?_getD,List.getElem?_set_self h];rfl
theorem Z6B {l:List Gv} {i j:Nat} {v:Gv} (h:i≠j):(l.set i v).getD j default=l.getD j default:=by
  rw [List.getD_eq_getElem?_getD,List.getElem?_set_ne h,← List.getD_eq_getElem?_getD]
theorem Z9l (c:List Int) (hc:OkB c):∃ G E,GD G E∧(Z8 (IntKind.wrap .i64 (1 + (Z0 (Z1 c) 3).1)) (IntKind.wrap .i64 (1 + (Z0 (⟨(Z1 c).code,(Z0 (Z1 c) 3).2.1,(Z0 (Z1 c) 3).2.2⟩:Gl00Src) 2).1)) 1065353216)=G:=by
  obtain ⟨w,h,-⟩:=Z1e c hc
  generalize IntKind.wrap .i64 (1 + (Z0 (Z1 c) 3).1)=W at *
  generalize IntKind.wrap .i64 (1 + (Z0 (⟨(Z1 c).code,(Z0 (Z1 c) 3).2.1,(Z0 (Z1 c) 3).2.2⟩:Gl00Src) 2).1)=H at *
  have hw:W=1∨W=2∨W=3:=by omega
  have hh:H=1∨H=2:=by omega
  rcases hw with rfl | rfl | rfl<;>rcases hh with rfl | rfl
  · exact ⟨_,_, .g11,Z9I⟩
  · exact ⟨_,_, .g12,Z9J⟩
  · exact ⟨_,_, .g21,Z9K⟩
  · exact ⟨_,_, .g22,Z9L⟩
  · exact ⟨_,_, .g31,Z9M⟩
  · exact ⟨_,_, .g32,Z9N⟩
theorem Z8x {G:Gm} {E:List (List Int)} (h:GD G E):4≤G.Pq.length∧G.Pq.length≤12∧G.Tr.length≤12∧E.length≤23∧∀ ps:List Gv,ps.length=G.Pq.length→Zh ⟨ps,G.Tr⟩=E:=by
  cases h
  · exact ⟨by decide,by decide,by decide,by decide,Z9f⟩
  · exact ⟨by decide,by decide,by decide,by decide,Z9g⟩
  · exact ⟨by decide,by decide,by decide,by decide,Z9h⟩
  · exact ⟨by decide,by decide,by decide,by decide,Z9i⟩
  · exact ⟨by decide,by decide,by decide,by decide,Z9j⟩
  · exact ⟨by decide,by decide,by decide,by decide,Z9k⟩
theorem Z8L (c:List Int) (hc:OkB c) {G:Gm} (hG:(Z8 (IntKind.wrap .i64 (1 + (Z0 (Z1 c) 3).1)) (IntKind.wrap .i64 (1 + (Z0 (⟨(Z1 c).code,(Z0 (Z1 c) 3).2.1,(Z0 (Z1 c) 3).2.2⟩:Gl00Src) 2).1)) 1065353216)=G) (hn:G.Pq.length≤12):∀ (k:Nat) (i s1 s2:Int) (l:List Gv),0≤i→i≤(l.length:Int)→0≤s1→s1≤4 + 6 * i→((l.length:Int) - i).toNat < k→l.length=G.Pq.length →
    (∀ j,j < i.toNat→Mv5 (G.Pq.getD j default) (l.getD j default))→(∀ j,i.toNat≤j→l.getD j default=G.Pq.getD j default)→(Zz c k i s1 s2 l).2.2.length=G.Pq.length∧∀ j,j < G.Pq.length→Mv5 (G.Pq.getD j default) ((Zz c k i s1 s2 l).2.2.getD j default):=by
  intro k
  induction k with
  | zero=>intro i s1 s2 l _ _ _ _ hk;exact absurd hk (Nat.not_lt_zero _)
  | succ k ih =>
    intro i s1 s2 l h0 hil hs1 hs2 hk hl hd hr
    rw [Zz,hG]
    by_cases hi:i < (G.Pq.length:Int)
    · rw [decide_eq_true hi,cond_true]
      have q1:=Z14 (⟨(Z1 c).code,s1,s2⟩:Gl00Src) 5 ⟨hs1,by show s1≤_;omega⟩
      have b1:=Z2J (⟨(Z1 c).code,s1,s2⟩:Gl00Src) 5 hc hs1 (by omega) (by omega)
      generalize Z0 (⟨(Z1 c).code,s1,s2⟩:Gl00Src) 5=r1 at *
      have q1:s1≤r1.2.1∧r1.2.1≤s1 + 2:=q1
      have q2:=Z14 (⟨(Z1 c).code,r1.2.1,r1.2.2⟩:Gl00Src) 5 ⟨by show 0≤r1.2.1;omega,by show r1.2.1≤_;omega⟩
      have b2:=Z2J (⟨(Z1 c).code,r1.2.1,r1.2.2⟩:Gl00Src) 5 hc (by show 0≤r1.2.1;omega) (by omega) (by omega)
      generalize Z0 (⟨(Z1 c).code,r1.2.1,r1.2.2⟩:Gl00Src) 5=r2 at *
      have q2:r1.2.1≤r2.2.1∧r2.2.1≤r1.2.1 + 2:=q2
      have q3:=Z14 (⟨(Z1 c).code,r2.2.1,r2.2.2⟩:Gl00Src) 5 ⟨by show 0≤r2.2.1;omega,by show r2.2.1≤_;omega⟩
      have b3:=Z2J (⟨(Z1 c).code,r2.2.1,r2.2.2⟩:Gl00Src) 5 hc (by show 0≤r2.2.1;omega) (by omega) (by omega)
      generalize Z0 (⟨(Z1 c).code,r2.2.1,r2.2.2⟩:Gl00Src) 5=r3 at *
      have q3:r2.2.1≤r3.2.1∧r3.2.1≤r2.2.1 + 2:=q3
      refine ih (i + 1) _ _ _ (by omega) (by rw [List.length_set];omega) (by omega) (by omega) (by rw [List.length_set];omega) (by rw [List.length_set];exact hl) ?_ ?_
      · intro j' hj'
        by_cases hji:j'=i.toNat
        · subst hji
          have e:l.getD i.toNat default=G.Pq.getD i.toNat default:=hr _ (Nat.le_refl _)
          rw [Z7I (by omega),e]
          refine ⟨r1.1.toNat,r2.1.toNat,r3.1.toNat,by omega,by omega,by omega,?_⟩
          rw [Int.toNat_of_nonneg b1.1,Int.toNat_of_nonneg b2.1,Int.toNat_of_nonneg b3.1]
          rfl
        · rw [Z6B (fun h=>hji h.symm)]
          exact hd j' (by omega)
      · intro j' hj'
        rw [Z6B (by omega)]
        exact hr j' (by omega)
    · rw [decide_eq_false hi,cond_false]
      exact ⟨hl,fun j hj=>hd j (by omega)⟩
theorem Z8M (c:List Int) (hc:OkB c) {E:List (List Int)} (hE:Zh (⟨(Z6 c).2.2,(Z8 (IntKind.wrap .i64 (1 + (Z0 (Z1 c) 3).1)) (IntKind.wrap .i64 (1 + (Z0 (⟨(Z1 c).code,(Z0 (Z1 c) 3).2.1,(Z0 (Z1 c) 3).2.2⟩:Gl00Src) 2).1)) 1065353216).Tr⟩:Gm)=E) (hn:E.length≤23):∀ (k:Nat) (i s1 s2:Int) (l:List Gs),0≤i→i≤(E.length:Int)→0≤s1→s1≤200 + 4 * i→((E.length:Int) - i).toNat < k→(l.length:Int)=i →
    (∀ j,j < l.length→SpO E j (l.getD j default))→(ZJ c k i s1 s2 l).2.2.length=E.length∧(0≤(ZJ c k i s1 s2 l).1∧(ZJ c k i s1 s2 l).1≤300)∧∀ j,j < E.length→SpO E j ((ZJ c k i s1 s2 l).2.2.getD j default):=by
  intro k
  induction k with
  | zero=>intro i s1 s2 l _ _ _ _ hk;exact absurd hk (Nat.not_lt_zero _)
  | succ k ih =>
    intro i s1 s2 l h0 hil hs1 hs2 hk hl hd
    rw [ZJ,hE]
    by_cases hi:i < (E.length:Int)
    · rw [decide_eq_true hi,cond_true]
      have q1:=Z14 (⟨(Z1 c).code,s1,s2⟩:Gl00Src) 5 ⟨hs1,by show s1≤_;omega⟩
      have b1:=Z2J (⟨(Z1 c).code,s1,s2⟩:Gl00Src) 5 hc hs1 (by omega) (by omega)
      generalize Z0 (⟨(Z1 c).code,s1,s2⟩:Gl00Src) 5=r1 at *
      have q1:s1≤r1.2.1∧r1.2.1≤s1 + 2:=q1
      have q2:=Z14 (⟨(Z1 c).code,r1.2.1,r1.2.2⟩:Gl00Src) 4 ⟨by show 0≤r1.2.1;omega,by show r1.2.1≤_;omega⟩
      have b2:=Z2J (⟨(Z1 c).code,r1.2.1,r1.2.2⟩:Gl00Src) 4 hc (by show 0≤r1.2.1;omega) (by omega) (by omega)
      generalize Z0 (⟨(Z1 c).code,r1.2.1,r1.2.2⟩:Gl00Src) 4=r2 at *
      have q2:r1.2.1≤r2.2.1∧r2.2.1≤r1.2.1 + 2:=q2
      refine ih (i + 1) _ _ _ (by omega) (by omega) (by omega) (by omega) (by omega) (by rw [List.length_append];simp only [List.length_cons,List.length_nil];omega) ?_
      intro j hj
      rw [List.length_append] at hj
      simp only [List.length_cons,List.length_nil] at hj
      by_cases hjl:j < l.length
      · rw [List.getD_eq_getElem?_getD,List.getElem?_append_left hjl,← List.getD_eq_getElem?_getD];exact hd j hjl
      · have ej:j=l.length:=by omega
        have ei:i.toNat=l.length:=by omega
        rw [List.getD_eq_getElem?_getD,List.getElem?_append_right (by omega),ej,Nat.sub_self]
        refine ⟨r1.1.toNat,r2.1.toNat,by omega,by omega,?_⟩
        rw [Int.toNat_of_nonneg b1.1,Int.toNat_of_nonneg b2.1,ei]
        rfl
    · rw [decide_eq_false hi,cond_false]
      have:l.length=E.length:=by omega
      exact ⟨this,⟨hs1,by omega⟩,fun j hj=>hd j (by omega)⟩
structure Smth (b:Gb) (G:Gm) (E:List (List Int)):Prop where
  gd:GD G E
  tri:b.Me.Tr=G.Tr
  len:b.Me.Pq.length=G.Pq.length
  plc:∀ j,j < G.Pq.length→Mv5 (G.Pq.getD j default) (b.Me.Pq.getD j default)
  slen:b.Sp.length=E.length
  spr:∀ j,j < E.length→SpO E j (b.Sp.getD j default)
  film:∃ x:Nat,x < 5∧b.Film=fop .quo .f32 (X3 .f32 (x:Int)) 1073741824
  bend:∃ x:Nat,x < 5∧b.Bend=fop .quo .f32 (X3 .f32 (x:Int)) 1082130432
  wts:b.We=List.replicate G.Pq.length 0
  fall:b.Fall=⟨0,0,0⟩
theorem Z4k (c:List Int) (hc:OkB c):∃ G E,Smth (Z2 c) G E:=by
  obtain ⟨G,E,hgd,hG⟩:=Z9l c hc
  obtain ⟨n1,n2,n3,n4,hed⟩:=Z8x hgd
  have s0:=Z14 (Z1 c) 3 ⟨Int.le_refl 0,by show (0:Int)≤_;omega⟩
  have s0:(0:Int)≤(Z0 (Z1 c) 3).2.1∧(Z0 (Z1 c) 3).2.1≤0 + 2:=s0
  have s1:=Z14 (⟨(Z1 c).code,(Z0 (Z1 c) 3).2.1,(Z0 (Z1 c) 3).2.2⟩:Gl00Src) 2 ⟨s0.1,by show (Z0 (Z1 c) 3).2.1≤_;omega⟩
  have s1:(Z0 (Z1 c) 3).2.1≤(Z0 (⟨(Z1 c).code,(Z0 (Z1 c) 3).2.1,(Z0 (Z1 c) 3).2.2⟩:Gl00Src) 2).2.1∧(Z0 (⟨(Z1 c).code,(Z0 (Z1 c) 3).2.1,(Z0 (Z1 c) 3).2.2⟩:Gl00Src) 2).2.1≤(Z0 (Z1 c) 3).2.1 + 2:=s1
  have h1:(Z6 c).2.2.length=G.Pq.length∧∀ j,j < G.Pq.length→Mv5 (G.Pq.getD j default) ((Z6 c).2.2.getD j default):=by
    unfold Z6
    rw [hG]
    exact Z8L c hc hG n2 _ 0 _ _ _ (Int.le_refl 0) (by omega) (by omega) (by omega) (by omega) rfl (fun j h=>absurd h (Nat.not_lt_zero _)) (fun j _=>rfl)
  have hE:Zh (⟨(Z6 c).2.2,(Z8 (IntKind.wrap .i64 (1 + (Z0 (Z1 c) 3).1)) (IntKind.wrap .i64 (1 + (Z0 (⟨(Z1 c).code,(Z0 (Z1 c) 3).2.1,(Z0 (Z1 c) 3).2.2⟩:Gl00Src) 2).1)) 1065353216).Tr⟩:Gm)=E:=by
    rw [hG];exact hed _ h1.1
  have a1:=Z7a c hc
  have h2:(Ze c).2.2.length=E.length∧(0≤(Ze c).1∧(Ze c).1≤300)∧∀ j,j < E.length→SpO E j ((Ze c).2.2.getD j default):=by
    unfold Ze
    rw [hE]
    exact Z8M c hc hE n4 _ 0 _ _ _ (Int.le_refl 0) (by omega) a1.1 (by omega) (by omega) rfl (fun j h=>absurd h (Nat.not_lt_zero _))
  have p1:=Z14 (⟨(Z1 c).code,(Ze c).1,(Ze c).2.1⟩:Gl00Src) 5 ⟨h2.2.1.1,by show (Ze c).1≤_;omega⟩
  have p1:(Ze c).1≤_∧_≤(Ze c).1 + 2:=p1
  have b1:=Z2J (⟨(Z1 c).code,(Ze c).1,(Ze c).2.1⟩:Gl00Src) 5 hc h2.2.1.1 (by omega) (by omega)
  have b2:=Z2J (⟨(Z1 c).code,(Z0 (⟨(Z1 c).code,(Ze c).1,(Ze c).2.1⟩:Gl00Src) 5).2.1,(Z0 (⟨(Z1 c).code,(Ze c).1,(Ze c).2.1⟩:Gl00Src) 5).2.2⟩:Gl00Src) 5 hc (by show 0≤(Z0 (⟨(Z1 c).code,(Ze c).1,(Ze c).2.1⟩:Gl00Src) 5).2.1;omega) (by omega) (by omega)
  have hf:∃ x:Nat,x < 5∧(Z2 c).Film=fop .quo .f32 (X3 .f32 (x:Int)) 1073741824:=⟨(Z0 (⟨(Z1 c).code,(Ze c).1,(Ze c).2.1⟩:Gl00Src) 5).1.toNat,by omega,by rw [Int.toNat_of_nonneg b1.1];rfl⟩
  have hb:∃ x:Nat,x < 5∧(Z2 c).Bend=fop .quo .f32 (X3 .f32 (x:Int)) 1082130432:=⟨(Z0 (⟨(Z1 c).code,(Z0 (⟨(Z1 c).code,(Ze c).1,(Ze c).2.1⟩:Gl00Src) 5).2.1,(Z0 (⟨(Z1 c).code,(Ze c).1,(Ze c).2.1⟩:Gl00Src) 5).2.2⟩:Gl00Src) 5).1.toNat,by omega,by rw [Int.toNat_of_nonneg b2.1];rfl⟩
  refine ⟨G,E,hgd,?_,h1.1,h1.2,h2.1,h2.2.2,hf,hb,?_,rfl⟩
  · show (Z8 (IntKind.wrap .i64 (1 + (Z0 (Z1 c) 3).1)) (IntKind.wrap .i64 (1 + (Z0 (⟨(Z1 c).code,(Z0 (Z1 c) 3).2.1,(Z0 (Z1 c) 3).2.2⟩:Gl00Src) 2).1)) 1065353216).Tr=_
    rw [hG]
  · show List.replicate ((Z6 c).2.2.length:Int).toNat 0=_
    rw [h1.1,Int.toNat_natCast]
theorem Z8y {p:Gm→List (List Int)→Bool} (h:(p gd11 ge11 && (p gd12 ge12 && (p gd21 ge21 && (p gd22 ge22 && (p gd31 ge31 && p gd32 ge32)))))=true) {G:Gm} {E:List (List Int)} (hg:GD G E):p G E=true:=by
  simp only [Bool.and_eq_true] at h
  cases hg
  · exact h.1
  · exact h.2.1
  · exact h.2.2.1
  · exact h.2.2.2.1
  · exact h.2.2.2.2.1
  · exact h.2.2.2.2.2
theorem Z45 {G:Gm} {E:List (List Int)} (hg:GD G E):Zn G=true:=Z8y (p:=fun G _=>Zn G) (by decide +kernel) hg
theorem Z9m {G:Gm} {E:List (List Int)} (hg:GD G E) {j:Nat} (hj:j < E.length):0≤(E.getD j default).getD 0 default∧(E.getD j default).getD 0 default < (G.Pq.length:Int)∧0≤(E.getD j default).getD 1 default∧(E.getD j default).getD 1 default < (G.Pq.length:Int)∧(E.getD j default).getD 0 default≠(E.getD j default).getD 1 default:=by
  have h:=Z8y (p:=fun G E=>(List.range E.length).all fun j=>decide (0≤(E.getD j default).getD 0 default∧(E.getD j default).getD 0 default < (G.Pq.length:Int)∧0≤(E.getD j default).getD 1 default∧(E.getD j default).getD 1 default < (G.Pq.length:Int)∧(E.getD j default).getD 0 default≠(E.getD j default).getD 1 default)) (by decide +kernel) hg
  exact odt (List.all_eq_true.1 h j (List.mem_range.2 hj))
theorem Z9n:((List.range 5).all fun x=>fcmp .geq .f32 (lngW (x:Int)) 0)=true:=by decide +kernel
theorem Z54 {x n:Int} (h0:0≤x) (h1:x < n) (hn:n≤1073741824):ZI x 0 (IntKind.wrap .i64 (n - 1))=true:=by
  rw [Xx (by omega) (by omega)]
  unfold ZI
  rw [decide_eq_true h0,cond_true]
  exact decide_eq_true (by omega)
theorem Z2p {m m':Gm} (h:m.Pq.length=m'.Pq.length) (h2:m.Tr=m'.Tr):Zn m=Zn m':=by
  rw [Z74,Z74,h,h2]
theorem Z5p {b:Gb} {G:Gm} {E:List (List Int)} (S:Smth b G E):Zn b.Me=true:=by
  rw [Z2p S.len S.tri];exact Z45 S.gd
theorem Z8z {b:Gb} {G:Gm} {E:List (List Int)} (S:Smth b G E) {s:Gs} (hs:s∈b.Sp):∃ j,j < E.length∧SpO E j s:=by
  obtain ⟨j,hj,e⟩:=List.getElem_of_mem hs
  have hj2:j < E.length:=by have:=S.slen;omega
  refine ⟨j,hj2,?_⟩
  have h:=S.spr j hj2
  rw [List.getD_eq_getElem?_getD,List.getElem?_eq_getElem hj] at h
  rw [← e];exact h
theorem Z46 {b:Gb} {G:Gm} {E:List (List Int)} (S:Smth b G E):Zm b=true:=by
  obtain ⟨n1,n2,n3,n4,-⟩:=Z8x S.gd
  have hl:=S.len
  have hsl:=S.slen
  rw [Z3y,Z5p S,cond_true,decide_eq_false (by omega),cond_false,S.wts,List.length_replicate,S.len,bne_self_eq_false,cond_false,List.all_eq_true]
  intro s hs
  obtain ⟨j,hj,x,y,hx,hy,e⟩:=Z8z S hs
  obtain ⟨e1,e2,e3,e4,e5⟩:=Z9m S.gd hj
  subst e
  unfold sprI
  simp only
  rw [Z54 e1 e2 (by omega),Z54 e3 e4 (by omega),cond_true,cond_true,beq_eq_false_iff_ne.2 e5,cond_false]
  exact List.all_eq_true.1 Z9n x (List.mem_range.2 hx)
theorem ek1 {a:List Int} (h:OkB a):(Z7 (Z2 a)).2=true:=by
  obtain ⟨G,E,S⟩:=Z4k a h
  unfold Z7
  rw [Z46 S,cond_true]
theorem ek2 {a:List Int} (h:OkB a):(Z9 (Z2 a)).2=true:=by
  obtain ⟨G,E,S⟩:=Z4k a h
  unfold Z9
  rw [Z46 S,cond_true]
theorem ek3 {a:List Int} (h:OkB a):(Z4 ((Z2 a).Me)).2=true:=by
  obtain ⟨G,E,S⟩:=Z4k a h
  rw [Z52 _ (Z5p S)]
theorem Z7m {m:Gm} (h:Zn m=true):Zm (⟨m,[],0,0,List.replicate (m.Pq.length:Int).toNat 0,⟨0,0,0⟩⟩:Gb)=true:=by
  rw [Z3y,h,cond_true]
  show cond (decide (((0:Nat):Int) > 200)) false (cond (((List.replicate (m.Pq.length:Int).toNat 0).length:Int) != (m.Pq.length:Int)) false (([]:List Gs).all fun s=>sprI s (m.Pq.length:Int)))=true
  rw [decide_eq_false (by omega),cond_false,List.length_replicate,Int.toNat_natCast,bne_self_eq_false,cond_false]
  rfl
theorem ek4 {a:List Int} (h:OkB a):(Z9 ((Z4 ((Z2 a).Me)).1)).2=true:=by
  obtain ⟨G,E,S⟩:=Z4k a h
  unfold Z9
  rw [Z52 _ (Z5p S),Z7m (Z5p S),cond_true]
theorem ek5 {a:List Int} (h:OkB a):((((Z7 (Z2 a)).1).length:Int) != 4)=false:=by
  obtain ⟨G,E,S⟩:=Z4k a h
  unfold Z7
  rw [Z46 S,cond_true,Z33];rfl
theorem ek6 {a:List Int} (h:OkB a):(Zj (Z2 a)).2=true:=by
  obtain ⟨G,E,S⟩:=Z4k a h
  unfold Zj
  rw [Z46 S,cond_true]
theorem ek7 {a:List Int} (h:OkB a):((((Zj (Z2 a)).1).length:Int) != (((Z2 a).Sp).length:Int))=false:=by
  obtain ⟨G,E,S⟩:=Z4k a h
  unfold Zj Z1F
  rw [Z46 S,cond_true,X1k (n:=(((Z2 a).Sp).length:Int)) (lo:=Z11 (Z2 a)) (fun k i r=>rfl) _ _ _ (Nat.lt_succ_self _)]
  simp
theorem Z1K {c:List Int} (hc:OkB c):(Z2 c).Me.Pq.length≤64∧(Z2 c).Me.Tr.length≤128∧(Z2 c).Sp.length≤4096∧(Z2 c).We.length≤64∧(∀ t∈(Z2 c).Me.Tr,t.length≤1073741824):=by
  have h:=Z26 c hc
  have h2:=Z7b c hc
  refine ⟨h.1,h.2.1,h2.2.2,?_,fun t ht => ?_⟩
  · show (List.replicate ((Z6 c).2.2.length:Int).toNat 0).length≤64
    rw [List.length_replicate]
    have:=h.1
    omega
  · have q:=(h.tris t ht).1
    omega
def ZU (Y1:(List Int)):Nat:=(fop .add .f32 (fop .add .f32 (((Z7 (Z2 Y1)).1).getD 0 default) (((Z7 (Z2 Y1)).1).getD 1 default)) (((Z7 (Z2 Y1)).1).getD 2 default))
def Zv (Y1:(List Int)):Bool:=(fcmp .neq .f32 ((Z9 (Z2 Y1)).1) (fop .add .f32 (ZU Y1) (((Z7 (Z2 Y1)).1).getD 3 default)))
def Z1b (Y1:(List Int)) (Yj:(List Int)):Nat→Int→(List Gv)→(List Gv)
  | 0,_,_=>default
  | k + 1,Y2,YN=>(cond (decide (Y2 < (((Z2 Y1).Me.Pq).length:Int)))
    (Z1b Y1 Yj k (Y2 + 1) (YN ++ [(Zk Yj 3)]))
    YN)
def Z2V (Y1:(List Int)) (Yj:(List Int)) (r:(List Gv)):Ex × St:=((.exit 0),⟨.sl (Y1.map (cI .u8)) :: .sl (Yj.map (cI .u8)) :: .any :: .any :: .b false :: .ptr 0 0 0 :: .own 1 :: .b ((Z7 (Z2 Y1)).2) :: .f .f32 ((Z9 (Z2 Y1)).1) :: .b ((Z9 (Z2 Y1)).2) :: .ptr 2 0 0 :: .b ((Z4 ((Z2 Y1).Me)).2) :: .f .f32 ((Z9 ((Z4 ((Z2 Y1).Me)).1)).1) :: .b ((Z9 ((Z4 ((Z2 Y1).Me)).1)).2) :: .own 3 :: .ptr 4 0 0 :: an 15 (.sl (Y1.map (cI .u8)) :: .sl (Yj.map (cI .u8)) :: .b (Z1c Y1 Yj) :: .sl (Y1.map (cI .u8)) :: .agg [.own 5, .own 6, .own 7, .f .f32 ((Z2 Y1).Film), .f .f32 ((Z2 Y1).Bend), .own 8, .f .f32 ((Z2 Y1).Fall.X), .f .f32 ((Z2 Y1).Fall.Y), .f .f32 ((Z2 Y1).Fall.Z)] :: .any :: .agg [.own 5, .own 6, .own 7, .f .f32 ((Z2 Y1).Film), .f .f32 ((Z2 Y1).Bend), .own 8, .f .f32 ((Z2 Y1).Fall.X), .f .f32 ((Z2 Y1).Fall.Y), .f .f32 ((Z2 Y1).Fall.Z)] :: .any :: .own 1 :: .b ((Z7 (Z2 Y1)).2) :: .any :: .agg [.own 5, .own 6, .own 7, .f .f32 ((Z2 Y1).Film), .f .f32 ((Z2 Y1).Bend), .own 8, .f .f32 ((Z2 Y1).Fall.X), .f .f32 ((Z2 Y1).Fall.Y), .f .f32 ((Z2 Y1).Fall.Z)] :: .any :: .f .f32 ((Z9 (Z2 Y1)).1) :: .b ((Z9 (Z2 Y1)).2) :: .any :: .ptr 0 0 0 :: .agg [.own 5, .own 6] :: .any :: .agg [.own 9, .own 10, .own 11, .f .f32 ((Z4 ((Z2 Y1).Me)).1.Film), .f .f32 ((Z4 ((Z2 Y1).Me)).1.Bend), .own 12, .f .f32 ((Z4 ((Z2 Y1).Me)).1.Fall.X), .f .f32 ((Z4 ((Z2 Y1).Me)).1.Fall.Y), .f .f32 ((Z4 ((Z2 Y1).Me)).1.Fall.Z)] :: .b ((Z4 ((Z2 Y1).Me)).2) :: .any :: .agg [.own 9, .own 10, .own 11, .f .f32 ((Z4 ((Z2 Y1).Me)).1.Film), .f .f32 ((Z4 ((Z2 Y1).Me)).1.Bend), .own 12, .f .f32 ((Z4 ((Z2 Y1).Me)).1.Fall.X), .f .f32 ((Z4 ((Z2 Y1).Me)).1.Fall.Y), .f .f32 ((Z4 ((Z2 Y1).Me)).1.Fall.Z)] :: .any :: .f .f32 ((Z9 ((Z4 ((Z2 Y1).Me)).1)).1) :: .b ((Z9 ((Z4 ((Z2 Y1).Me)).1)).2) :: .b ((Z7 (Z2 Y1)).2) :: .b (!(Z7 (Z2 Y1)).2) :: .b (!(Z7 (Z2 Y1)).2) :: .b ((Z9 (Z2 Y1)).2) :: .b (!(Z9 (Z2 Y1)).2) :: .b (!(Z9 (Z2 Y1)).2) :: .b (!(Z9 (Z2 Y1)).2) :: .b ((Z4 ((Z2 Y1).Me)).2) :: .b (!(Z4 ((Z2 Y1).Me)).2) :: .b (!(Z4 ((Z2 Y1).Me)).2) :: .b (!(Z4 ((Z2 Y1).Me)).2) :: .b ((Z9 ((Z4 ((Z2 Y1).Me)).1)).2) :: .b (!(Z9 ((Z4 ((Z2 Y1).Me)).1)).2) :: .b (!(Z9 ((Z4 ((Z2 Y1).Me)).1)).2) :: .b (!(Z9 ((Z4 ((Z2 Y1).Me)).1)).2) :: .own 1 :: .i .i64 (((Z7 (Z2 Y1)).1).length:Int) :: .b ((((Z7 (Z2 Y1)).1).length:Int) != 4) :: .b ((((Z7 (Z2 Y1)).1).length:Int) != 4) :: .b ((((Z7 (Z2 Y1)).1).length:Int) != 4) :: .f .f32 ((Z9 (Z2 Y1)).1) :: .own 1 :: .ptr 1 0 0 :: .f .f32 (((Z7 (Z2 Y1)).1).getD 0 default) :: .own 1 :: .ptr 1 1 0 :: .f .f32 (((Z7 (Z2 Y1)).1).getD 1 default) :: .f .f32 (fop .add .f32 (((Z7 (Z2 Y1)).1).getD 0 default) (((Z7 (Z2 Y1)).1).getD 1 default)) :: .own 1 :: .ptr 1 2 0 :: .f .f32 (((Z7 (Z2 Y1)).1).getD 2 default) :: .f .f32 (ZU Y1) :: .own 1 :: .ptr 1 3 0 :: .f .f32 (((Z7 (Z2 Y1)).1).getD 3 default) :: .f .f32 (fop .add .f32 (ZU Y1) (((Z7 (Z2 Y1)).1).getD 3 default)) :: .b (Zv Y1) :: .b (Zv Y1) :: .b (Zv Y1) :: .f .f32 ((Z9 ((Z4 ((Z2 Y1).Me)).1)).1) :: .b (fcmp .neq .f32 ((Z9 ((Z4 ((Z2 Y1).Me)).1)).1) 0) :: .b (fcmp .neq .f32 ((Z9 ((Z4 ((Z2 Y1).Me)).1)).1) 0) :: .b (fcmp .neq .f32 ((Z9 ((Z4 ((Z2 Y1).Me)).1)).1) 0) :: .own 1 :: .ptr 1 0 0 :: .f .f32 (((Z7 (Z2 Y1)).1).getD 0 default) :: .b (fcmp .lss .f32 (((Z7 (Z2 Y1)).1).getD 0 default) 0) :: .b (fcmp .lss .f32 (((Z7 (Z2 Y1)).1).getD 0 default) 0) :: .b (fcmp .lss .f32 (((Z7 (Z2 Y1)).1).getD 0 default) 0) :: .own 1 :: .ptr 1 1 0 :: .f .f32 (((Z7 (Z2 Y1)).1).getD 1 default) :: .b (fcmp .lss .f32 (((Z7 (Z2 Y1)).1).getD 1 default) 0) :: .b (fcmp .lss .f32 (((Z7 (Z2 Y1)).1).getD 1 default) 0) :: .b (fcmp .lss .f32 (((Z7 (Z2 Y1)).1).getD 1 default) 0) :: .own 1 :: .ptr 1 2 0 :: .f .f32 (((Z7 (Z2 Y1)).1).getD 2 default) :: .b (fcmp .lss .f32 (((Z7 (Z2 Y1)).1).getD 2 default) 0) :: .b (fcmp .lss .f32 (((Z7 (Z2 Y1)).1).getD 2 default) 0) :: .b (fcmp .lss .f32 (((Z7 (Z2 Y1)).1).getD 2 default) 0) :: .own 1 :: .ptr 1 3 0 :: .f .f32 (((Z7 (Z2 Y1)).1).getD 3 default) :: .b (fcmp .neq .f32 (((Z7 (Z2 Y1)).1).getD 3 default) 0) :: .b (fcmp .neq .f32 (((Z7 (Z2 Y1)).1).getD 3 default) 0) :: .any :: .sl (Yj.map (cI .u8)) :: .agg [.f .f32 ((Zk Yj 3).X), .f .f32 ((Zk Yj 3).Y), .f .f32 ((Zk Yj 3).Z)] :: .ptr 0 0 0 :: .ptr 0 0 0 :: .own 5 :: an 123 []),[.box 34 [.own 5, .own 6, .own 7, .f .f32 ((Z2 Y1).Film), .f .f32 ((Z2 Y1).Bend), .own 8, .f .f32 ((Z2 Y1).Fall.X), .f .f32 ((Z2 Y1).Fall.Y), .f .f32 ((Z2 Y1).Fall.Z)], .vec 29 1 (((Z7 (Z2 Y1)).1).map (cF .f32)) false, .box 34 [.own 9, .own 10, .own 11, .f .f32 ((Z4 ((Z2 Y1).Me)).1.Film), .f .f32 ((Z4 ((Z2 Y1).Me)).1.Bend), .own 12, .f .f32 ((Z4 ((Z2 Y1).Me)).1.Fall.X), .f .f32 ((Z4 ((Z2 Y1).Me)).1.Fall.Y), .f .f32 ((Z4 ((Z2 Y1).Me)).1.Fall.Z)], .vec 32 3 (r.map Gv.c) false, .box 32 [.f .f32 ((Zk Yj 3).X), .f .f32 ((Zk Yj 3).Y), .f .f32 ((Zk Yj 3).Z)], .vec 32 3 (((Z2 Y1).Me.Pq).map Gv.c) false, .nest 60 (((Z2 Y1).Me.Tr).map fun l=>l.map (cI .i64)) false, .vec 76 4 (((Z2 Y1).Sp).map Gs.c) false, .vec 29 1 (((Z2 Y1).We).map (cF .f32)) false, .vec 32 3 (((Z4 ((Z2 Y1).Me)).1.Me.Pq).map Gv.c) false, .nest 60 (((Z4 ((Z2 Y1).Me)).1.Me.Tr).map fun l=>l.map (cI .i64)) false, .vec 76 4 (((Z4 ((Z2 Y1).Me)).1.Sp).map Gs.c) false, .vec 29 1 (((Z4 ((Z2 Y1).Me)).1.We).map (cF .f32)) false]⟩)
def Z2W (Y1:(List Int)) (Yj:(List Int)) (Y2:Int) (YN:(List Gv)):St:=⟨.sl (Y1.map (cI .u8)) :: .sl (Yj.map (cI .u8)) :: .any :: .any :: .b false :: .ptr 4 0 0 :: .own 5 :: .b ((Z7 (Z2 Y1)).2) :: .f .f32 ((Z9 (Z2 Y1)).1) :: .b ((Z9 (Z2 Y1)).2) :: .ptr 10 0 0 :: .b ((Z4 ((Z2 Y1).Me)).2) :: .f .f32 ((Z9 ((Z4 ((Z2 Y1).Me)).1)).1) :: .b ((Z9 ((Z4 ((Z2 Y1).Me)).1)).2) :: .own 11 :: .ptr 12 0 0 :: an 15 (.sl (Y1.map (cI .u8)) :: .sl (Yj.map (cI .u8)) :: .b (Z1c Y1 Yj) :: .sl (Y1.map (cI .u8)) :: .agg [.own 0, .own 1, .own 2, .f .f32 ((Z2 Y1).Film), .f .f32 ((Z2 Y1).Bend), .own 3, .f .f32 ((Z2 Y1).Fall.X), .f .f32 ((Z2 Y1).Fall.Y), .f .f32 ((Z2 Y1).Fall.Z)] :: .any :: .agg [.own 0, .own 1, .own 2, .f .f32 ((Z2 Y1).Film), .f .f32 ((Z2 Y1).Bend), .own 3, .f .f32 ((Z2 Y1).Fall.X), .f .f32 ((Z2 Y1).Fall.Y), .f .f32 ((Z2 Y1).Fall.Z)] :: .any :: .own 5 :: .b ((Z7 (Z2 Y1)).2) :: .any :: .agg [.own 0, .own 1, .own 2, .f .f32 ((Z2 Y1).Film), .f .f32 ((Z2 Y1).Bend), .own 3, .f .f32 ((Z2 Y1).Fall.X), .f .f32 ((Z2 Y1).Fall.Y), .f .f32 ((Z2 Y1).Fall.Z)] :: .any :: .f .f32 ((Z9 (Z2 Y1)).1) :: .b ((Z9 (Z2 Y1)).2) :: .any :: .ptr 4 0 0 :: .agg [.own 0, .own 1] :: .any :: .agg [.own 6, .own 7, .own 8, .f .f32 ((Z4 ((Z2 Y1).Me)).1.Film), .f .f32 ((Z4 ((Z2 Y1).Me)).1.Bend), .own 9, .f .f32 ((Z4 ((Z2 Y1).Me)).1.Fall.X), .f .f32 ((Z4 ((Z2 Y1).Me)).1.Fall.Y), .f .f32 ((Z4 ((Z2 Y1).Me)).1.Fall.Z)] :: .b ((Z4 ((Z2 Y1).Me)).2) :: .any :: .agg [.own 6, .own 7, .own 8, .f .f32 ((Z4 ((Z2 Y1).Me)).1.Film), .f .f32 ((Z4 ((Z2 Y1).Me)).1.Bend), .own 9, .f .f32 ((Z4 ((Z2 Y1).Me)).1.Fall.X), .f .f32 ((Z4 ((Z2 Y1).Me)).1.Fall.Y), .f .f32 ((Z4 ((Z2 Y1).Me)).1.Fall.Z)] :: .any :: .f .f32 ((Z9 ((Z4 ((Z2 Y1).Me)).1)).1) :: .b ((Z9 ((Z4 ((Z2 Y1).Me)).1)).2) :: .b ((Z7 (Z2 Y1)).2) :: .b (!(Z7 (Z2 Y1)).2) :: .b (!(Z7 (Z2 Y1)).2) :: .b ((Z9 (Z2 Y1)).2) :: .b (!(Z9 (Z2 Y1)).2) :: .b (!(Z9 (Z2 Y1)).2) :: .b (!(Z9 (Z2 Y1)).2) :: .b ((Z4 ((Z2 Y1).Me)).2) :: .b (!(Z4 ((Z2 Y1).Me)).2) :: .b (!(Z4 ((Z2 Y1).Me)).2) :: .b (!(Z4 ((Z2 Y1).Me)).2) :: .b ((Z9 ((Z4 ((Z2 Y1).Me)).1)).2) :: .b (!(Z9 ((Z4 ((Z2 Y1).Me)).1)).2) :: .b (!(Z9 ((Z4 ((Z2 Y1).Me)).1)).2) :: .b (!(Z9 ((Z4 ((Z2 Y1).Me)).1)).2) :: .own 5 :: .i .i64 (((Z7 (Z2 Y1)).1).length:Int) :: .b ((((Z7 (Z2 Y1)).1).length:Int) != 4) :: .b ((((Z7 (Z2 Y1)).1).length:Int) != 4) :: .b ((((Z7 (Z2 Y1)).1).length:Int) != 4) :: .f .f32 ((Z9 (Z2 Y1)).1) :: .own 5 :: .ptr 5 0 0 :: .f .f32 (((Z7 (Z2 Y1)).1).getD 0 default) :: .own 5 :: .ptr 5 1 0 :: .f .f32 (((Z7 (Z2 Y1)).1).getD 1 default) :: .f .f32 (fop .add .f32 (((Z7 (Z2 Y1)).1).getD 0 default) (((Z7 (Z2 Y1)).1).getD 1 default)) :: .own 5 :: .ptr 5 2 0 :: .f .f32 (((Z7 (Z2 Y1)).1).getD 2 default) :: .f .f32 (ZU Y1) :: .own 5 :: .ptr 5 3 0 :: .f .f32 (((Z7 (Z2 Y1)).1).getD 3 default) :: .f .f32 (fop .add .f32 (ZU Y1) (((Z7 (Z2 Y1)).1).getD 3 default)) :: .b (Zv Y1) :: .b (Zv Y1) :: .b (Zv Y1) :: .f .f32 ((Z9 ((Z4 ((Z2 Y1).Me)).1)).1) :: .b (fcmp .neq .f32 ((Z9 ((Z4 ((Z2 Y1).Me)).1)).1) 0) :: .b (fcmp .neq .f32 ((Z9 ((Z4 ((Z2 Y1).Me)).1)).1) 0) :: .b (fcmp .neq .f32 ((Z9 ((Z4 ((Z2 Y1).Me)).1)).1) 0) :: .own 5 :: .ptr 5 0 0 :: .f .f32 (((Z7 (Z2 Y1)).1).getD 0 default) :: .b (fcmp .lss .f32 (((Z7 (Z2 Y1)).1).getD 0 default) 0) :: .b (fcmp .lss .f32 (((Z7 (Z2 Y1)).1).getD 0 default) 0) :: .b (fcmp .lss .f32 (((Z7 (Z2 Y1)).1).getD 0 default) 0) :: .own 5 :: .ptr 5 1 0 :: .f .f32 (((Z7 (Z2 Y1)).1).getD 1 default) :: .b (fcmp .lss .f32 (((Z7 (Z2 Y1)).1).getD 1 default) 0) :: .b (fcmp .lss .f32 (((Z7 (Z2 Y1)).1).getD 1 default) 0) :: .b (fcmp .lss .f32 (((Z7 (Z2 Y1)).1).getD 1 default) 0) :: .own 5 :: .ptr 5 2 0 :: .f .f32 (((Z7 (Z2 Y1)).1).getD 2 default) :: .b (fcmp .lss .f32 (((Z7 (Z2 Y1)).1).getD 2 default) 0) :: .b (fcmp .lss .f32 (((Z7 (Z2 Y1)).1).getD 2 default) 0) :: .b (fcmp .lss .f32 (((Z7 (Z2 Y1)).1).getD 2 default) 0) :: .own 5 :: .ptr 5 3 0 :: .f .f32 (((Z7 (Z2 Y1)).1).getD 3 default) :: .b (fcmp .neq .f32 (((Z7 (Z2 Y1)).1).getD 3 default) 0) :: .b (fcmp .neq .f32 (((Z7 (Z2 Y1)).1).getD 3 default) 0) :: .any :: .sl (Yj.map (cI .u8)) :: .agg [.f .f32 ((Zk Yj 3).X), .f .f32 ((Zk Yj 3).Y), .f .f32 ((Zk Yj 3).Z)] :: .ptr 4 0 0 :: .ptr 4 0 0 :: .own 0 :: .i .i64 (((Z2 Y1).Me.Pq).length:Int) :: .i .i64 Y2 :: an 121 []),[.vec 32 3 (((Z2 Y1).Me.Pq).map Gv.c) false, .nest 60 (((Z2 Y1).Me.Tr).map fun l=>l.map (cI .i64)) false, .vec 76 4 (((Z2 Y1).Sp).map Gs.c) false, .vec 29 1 (((Z2 Y1).We).map (cF .f32)) false, .box 34 [.own 0, .own 1, .own 2, .f .f32 ((Z2 Y1).Film), .f .f32 ((Z2 Y1).Bend), .own 3, .f .f32 ((Z2 Y1).Fall.X), .f .f32 ((Z2 Y1).Fall.Y), .f .f32 ((Z2 Y1).Fall.Z)], .vec 29 1 (((Z7 (Z2 Y1)).1).map (cF .f32)) false, .vec 32 3 (((Z4 ((Z2 Y1).Me)).1.Me.Pq).map Gv.c) false, .nest 60 (((Z4 ((Z2 Y1).Me)).1.Me.Tr).map fun l=>l.map (cI .i64)) false, .vec 76 4 (((Z4 ((Z2 Y1).Me)).1.Sp).map Gs.c) false, .vec 29 1 (((Z4 ((Z2 Y1).Me)).1.We).map (cF .f32)) false, .box 34 [.own 6, .own 7, .own 8, .f .f32 ((Z4 ((Z2 Y1).Me)).1.Film), .f .f32 ((Z4 ((Z2 Y1).Me)).1.Bend), .own 9, .f .f32 ((Z4 ((Z2 Y1).Me)).1.Fall.X), .f .f32 ((Z4 ((Z2 Y1).Me)).1.Fall.Y), .f .f32 ((Z4 ((Z2 Y1).Me)).1.Fall.Z)], .vec 32 3 (YN.map Gv.c) false, .box 32 [.f .f32 ((Zk Yj 3).X), .f .f32 ((Zk Yj 3).Y), .f .f32 ((Zk Yj 3).Z)]]⟩
def Z3V:List Bool:=(mR false [0,2,2,12,15,5,1,1,1,2,1,1,1,2,1,2,1,2,1,1,1,68,1,7,121])
def Z5E:List Bool:=(mR false [0,2,2,12,15,5,1,1,1,2,1,1,1,2,1,2,1,2,1,1,1,68,1,5,123])
set_option maxHeartbeats 1000000 in
theorem Z62 (Y1:(List Int)) (Yj:(List Int)) (hp0:Y1.length≤9223372036854775807) (hp1:Yj.length≤9223372036854775807) (hp2:OkB Y1) (hp3:OkB Yj) (Z87:(Z1c Y1 Yj)=false):∀ (k:Nat) (Y2:Int) (YN:(List Gv)) (Z3W:0≤Y2) (Z3X:(YN.length:Int)=Y2) (hk:((((Z2 Y1).Me.Pq).length:Int) - Y2).toNat < k),Lp prog 0 (sub (X2 f6) [1,1,1,1,1,1,1,1,1,1,0,1,0,0]) (Z2W Y1 Yj Y2 YN) (Z2V Y1 Yj (Z1b Y1 Yj k Y2 YN)).1 (Z2V Y1 Yj (Z1b Y1 Yj k Y2 YN)).2:=by
 intro k
 induction k with
 | zero=>intro Y2 YN Z3W Z3X hk;exact absurd hk (Nat.not_lt_zero _)
 | succ k ih =>
  intro Y2 YN Z3W Z3X hk
  cases Yr:(decide (Y2 < (((Z2 Y1).Me.Pq).length:Int))) with
  | true =>
   have YM:=odt Yr
   have YU:YN.length + ([(Zk Yj 3)]).length≤1073741824:=(by ((obtain ⟨q1,q2,q3,q4,_⟩:=Z1K hp2;(simp only [List.length_append,List.length_cons,List.length_nil];omega))))
   have YR:(-9223372036854775808:Int)≤(Y2 + 1):=(by omega)
   have y_2:(Y2 + 1)≤(9223372036854775807:Int):=(by omega)
   have e:Z1b Y1 Yj (k + 1) Y2 YN=(Z1b Y1 Yj k (Y2 + 1) (YN ++ [(Zk Yj 3)])):=by simp only [Z1b,Yr,cond_true]
   rw [e]
   exact XD E0Ok Zg [] Z3V [0,1,2,3,4,5,6,7,8,9,10,11,12] (⟨.sl (Y1.map (cI .u8)) :: .sl (Yj.map (cI .u8)) :: .any :: .any :: .b false :: .ptr 4 0 0 :: .own 5 :: .b ((Z7 (Z2 Y1)).2) :: .f .f32 ((Z9 (Z2 Y1)).1) :: .b ((Z9 (Z2 Y1)).2) :: .ptr 10 0 0 :: .b ((Z4 ((Z2 Y1).Me)).2) :: .f .f32 ((Z9 ((Z4 ((Z2 Y1).Me)).1)).1) :: .b ((Z9 ((Z4 ((Z2 Y1).Me)).1)).2) :: .own 11 :: .ptr 12 0 0 :: an 15 (.sl (Y1.map (cI .u8)) :: .sl (Yj.map (cI .u8)) :: .b (Z1c Y1 Yj) :: .sl (Y1.map (cI .u8)) :: .agg [.own 0, .own 1, .own 2, .f .f32 ((Z2 Y1).Film), .f .f32 ((Z2 Y1).Bend), .own 3, .f .f32 ((Z2 Y1).Fall.X), .f .f32 ((Z2 Y1).Fall.Y), .f .f32 ((Z2 Y1).Fall.Z)] :: .any :: .agg [.own 0, .own 1, .own 2, .f .f32 ((Z2 Y1).Film), .f .f32 ((Z2 Y1).Bend), .own 3, .f .f32 ((Z2 Y1).Fall.X), .f .f32 ((Z2 Y1).Fall.Y), .f .f32 ((Z2 Y1).Fall.Z)] :: .any :: .own 5 :: .b ((Z7 (Z2 Y1)).2) :: .any :: .agg [.own 0, .own 1, .own 2, .f .f32 ((Z2 Y1).Film), .f .f32 ((Z2 Y1).Bend), .own 3, .f .f32 ((Z2 Y1).Fall.X), .f .f32 ((Z2 Y1).Fall.Y), .f .f32 ((Z2 Y1).Fall.Z)] :: .any :: .f .f32 ((Z9 (Z2 Y1)).1) :: .b ((Z9 (Z2 Y1)).2) :: .any :: .ptr 4 0 0 :: .agg [.own 0, .own 1] :: .any :: .agg [.own 6, .own 7, .own 8, .f .f32 ((Z4 ((Z2 Y1).Me)).1.Film), .f .f32 ((Z4 ((Z2 Y1).Me)).1.Bend), .own 9, .f .f32 ((Z4 ((Z2 Y1).Me)).1.Fall.X), .f .f32 ((Z4 ((Z2 Y1).Me)).1.Fall.Y), .f .f32 ((Z4 ((Z2 Y1).Me)).1.Fall.Z)] :: .b ((Z4 ((Z2 Y1).Me)).2) :: .any :: .agg [.own 6, .own 7, .own 8, .f .f32 ((Z4 ((Z2 Y1).Me)).1.Film), .f .f32 ((Z4 ((Z2 Y1).Me)).1.Bend), .own 9, .f .f32 ((Z4 ((Z2 Y1).Me)).1.Fall.X), .f .f32 ((Z4 ((Z2 Y1).Me)).1.Fall.Y), .f .f32 ((Z4 ((Z2 Y1).Me)).1.Fall.Z)] :: .any :: .f .f32 ((Z9 ((Z4 ((Z2 Y1).Me)).1)).1) :: .b ((Z9 ((Z4 ((Z2 Y1).Me)).1)).2) :: .b ((Z7 (Z2 Y1)).2) :: .b (!(Z7 (Z2 Y1)).2) :: .b (!(Z7 (Z2 Y1)).2) :: .b ((Z9 (Z2 Y1)).2) :: .b (!(Z9 (Z2 Y1)).2) :: .b (!(Z9 (Z2 Y1)).2) :: .b (!(Z9 (Z2 Y1)).2) :: .b ((Z4 ((Z2 Y1).Me)).2) :: .b (!(Z4 ((Z2 Y1).Me)).2) :: .b (!(Z4 ((Z2 Y1).Me)).2) :: .b (!(Z4 ((Z2 Y1).Me)).2) :: .b ((Z9 ((Z4 ((Z2 Y1).Me)).1)).2) :: .b (!(Z9 ((Z4 ((Z2 Y1).Me)).1)).2) :: .b (!(Z9 ((Z4 ((Z2 Y1).Me)).1)).2) :: .b (!(Z9 ((Z4 ((Z2 Y1).Me)).1)).2) :: .own 5 :: .i .i64 (((Z7 (Z2 Y1)).1).length:Int) :: .b ((((Z7 (Z2 Y1)).1).length:Int) != 4) :: .b ((((Z7 (Z2 Y1)).1).length:Int) != 4) :: .b ((((Z7 (Z2 Y1)).1).length:Int) != 4) :: .f .f32 ((Z9 (Z2 Y1)).1) :: .own 5 :: .ptr 5 0 0 :: .f .f32 (((Z7 (Z2 Y1)).1).getD 0 default) :: .own 5 :: .ptr 5 1 0 :: .f .f32 (((Z7 (Z2 Y1)).1).getD 1 default) :: .f .f32 (fop .add .f32 (((Z7 (Z2 Y1)).1).getD 0 default) (((Z7 (Z2 Y1)).1).getD 1 default)) :: .own 5 :: .ptr 5 2 0 :: .f .f32 (((Z7 (Z2 Y1)).1).getD 2 default) :: .f .f32 (ZU Y1) :: .own 5 :: .ptr 5 3 0 :: .f .f32 (((Z7 (Z2 Y1)).1).getD 3 default) :: .f .f32 (fop .add .f32 (ZU Y1) (((Z7 (Z2 Y1)).1).getD 3 default)) :: .b (Zv Y1) :: .b (Zv Y1) :: .b (Zv Y1) :: .f .f32 ((Z9 ((Z4 ((Z2 Y1).Me)).1)).1) :: .b (fcmp .neq .f32 ((Z9 ((Z4 ((Z2 Y1).Me)).1)).1) 0) :: .b (fcmp .neq .f32 ((Z9 ((Z4 ((Z2 Y1).Me)).1)).1) 0) :: .b (fcmp .neq .f32 ((Z9 ((Z4 ((Z2 Y1).Me)).1)).1) 0) :: .own 5 :: .ptr 5 0 0 :: .f .f32 (((Z7 (Z2 Y1)).1).getD 0 default) :: .b (fcmp .lss .f32 (((Z7 (Z2 Y1)).1).getD 0 default) 0) :: .b (fcmp .lss .f32 (((Z7 (Z2 Y1)).1).getD 0 default) 0) :: .b (fcmp .lss .f32 (((Z7 (Z2 Y1)).1).getD 0 default) 0) :: .own 5 :: .ptr 5 1 0 :: .f .f32 (((Z7 (Z2 Y1)).1).getD 1 default) :: .b (fcmp .lss .f32 (((Z7 (Z2 Y1)).1).getD 1 default) 0) :: .b (fcmp .lss .f32 (((Z7 (Z2 Y1)).1).getD 1 default) 0) :: .b (fcmp .lss .f32 (((Z7 (Z2 Y1)).1).getD 1 default) 0) :: .own 5 :: .ptr 5 2 0 :: .f .f32 (((Z7 (Z2 Y1)).1).getD 2 default) :: .b (fcmp .lss .f32 (((Z7 (Z2 Y1)).1).getD 2 default) 0) :: .b (fcmp .lss .f32 (((Z7 (Z2 Y1)).1).getD 2 default) 0) :: .b (fcmp .lss .f32 (((Z7 (Z2 Y1)).1).getD 2 default) 0) :: .own 5 :: .ptr 5 3 0 :: .f .f32 (((Z7 (Z2 Y1)).1).getD 3 default) :: .b (fcmp .neq .f32 (((Z7 (Z2 Y1)).1).getD 3 default) 0) :: .b (fcmp .neq .f32 (((Z7 (Z2 Y1)).1).getD 3 default) 0) :: .any :: .sl (Yj.map (cI .u8)) :: .agg [.f .f32 ((Zk Yj 3).X), .f .f32 ((Zk Yj 3).Y), .f .f32 ((Zk Yj 3).Z)] :: .ptr 4 0 0 :: .ptr 4 0 0 :: .own 0 :: .i .i64 (((Z2 Y1).Me.Pq).length:Int) :: .i .i64 (Y2 + 1) :: an 121 []),[.vec 32 3 (((Z2 Y1).Me.Pq).map Gv.c) false, .nest 60 (((Z2 Y1).Me.Tr).map fun l=>l.map (cI .i64)) false, .vec 76 4 (((Z2 Y1).Sp).map Gs.c) false, .vec 29 1 (((Z2 Y1).We).map (cF .f32)) false, .box 34 [.own 0, .own 1, .own 2, .f .f32 ((Z2 Y1).Film), .f .f32 ((Z2 Y1).Bend), .own 3, .f .f32 ((Z2 Y1).Fall.X), .f .f32 ((Z2 Y1).Fall.Y), .f .f32 ((Z2 Y1).Fall.Z)], .vec 29 1 (((Z7 (Z2 Y1)).1).map (cF .f32)) false, .vec 32 3 (((Z4 ((Z2 Y1).Me)).1.Me.Pq).map Gv.c) false, .nest 60 (((Z4 ((Z2 Y1).Me)).1.Me.Tr).map fun l=>l.map (cI .i64)) false, .vec 76 4 (((Z4 ((Z2 Y1).Me)).1.Sp).map Gs.c) false, .vec 29 1 (((Z4 ((Z2 Y1).Me)).1.We).map (cF .f32)) false, .box 34 [.own 6, .own 7, .own 8, .f .f32 ((Z4 ((Z2 Y1).Me)).1.Film), .f .f32 ((Z4 ((Z2 Y1).Me)).1.Bend), .own 9, .f .f32 ((Z4 ((Z2 Y1).Me)).1.Fall.X), .f .f32 ((Z4 ((Z2 Y1).Me)).1.Fall.Y), .f .f32 ((Z4 ((Z2 Y1).Me)).1.Fall.Z)], .vec 32 3 ((YN.map Gv.c) ++ ([[.f .f32 ((Zk Yj 3).X), .f .f32 ((Zk Yj 3).Y), .f .f32 ((Zk Yj 3).Z)]]:List (List AV))) false, .box 32 [.f .f32 ((Zk Yj 3).X), .f .f32 ((Zk Yj 3).Y), .f .f32 ((Zk Yj 3).Z)]]⟩) (sB Yr<|sC (show (YN.map Gv.c).length + ([[.f .f32 ((Zk Yj 3).X), .f .f32 ((Zk Yj 3).Y), .f .f32 ((Zk Yj 3).Z)]]:List (List AV)).length≤1073741824 from (by simpa using YU))<|sI (Y2 + 1) YR y_2<|sN) (by kernel_rfl) (by simp [Z2W,Gv.c]) (ih (Y2 + 1) (YN ++ [(Zk Yj 3)]) (show 0≤(Y2 + 1) from (by omega)) (show ((YN ++ [(Zk Yj 3)]).length:Int)=(Y2 + 1) from (by ((obtain ⟨q1,q2,q3,q4,_⟩:=Z1K hp2;(simp only [List.length_append,List.length_cons,List.length_nil];omega))))) (by omega))
  | false =>
   have YM:=odf Yr
   have e:Z1b Y1 Yj (k + 1) Y2 YN=YN:=by simp only [Z1b,Yr,cond_false]
   rw [e]
   exact outR (e:=(.exit 0)) E0Ok Zg [] Z5E [4,5,10,11,12,0,1,2,3,6,7,8,9] (sB Yr<|sN) (by kernel_rfl) (by intro h;cases h)
def Zb (Y1:(List Int)) (Yj:(List Int)):(List Gv):=(Z1b Y1 Yj (((((Z2 Y1).Me.Pq).length:Int) - 0).toNat + 1) 0 ([]:List Gv))
theorem Z7E (a p:List Int):(Zb a p).length=(Z2 a).Me.Pq.length:=by
  unfold Zb
  rw [X1k (n:=(((Z2 a).Me.Pq).length:Int)) (lo:=Z1b a p) (fun k i r=>rfl) _ _ _ (Nat.lt_succ_self _)]
  simp
def Z13 (Y1:(List Int)) (Yj:(List Int)):Nat:=(Z2A (fcv .f32 .f64 ((Z9 ((Zc (Z2 Y1) (Zb Y1 Yj) 1065353216).1)).1)) (fcv .f32 .f64 ((Z9 (Z2 Y1)).1)))
def Z2X (Y1:(List Int)) (Y2:Int):Nat:=(fop .mul .f64 (fcv .f32 .f64 ((((Z2 Y1).Sp).getD Y2.toNat default).Stiff)) (fcv .f32 .f64 (fop .sub .f32 (((Zj (Z2 Y1)).1).getD Y2.toNat default) 1065353216)))
def Z2Y (Y1:(List Int)) (Y2:Int):Nat:=(fmax .f64 (fop .mul .f64 (Z2X Y1 Y2) (fcv .f32 .f64 ((((Z2 Y1).Sp).getD Y2.toNat default).Long))) (fneg .f64 (fop .mul .f64 (Z2X Y1 Y2) (fcv .f32 .f64 ((((Z2 Y1).Sp).getD Y2.toNat default).Long)))))
def Z2m (Y1:(List Int)) (Y2:Int):Bool:=(fcmp .gtr .f64 (Z2A (fcv .f32 .f64 (Z32 ((Z1p (Z2 Y1) Y2).1))) (Z2Y Y1 Y2)) 4576918229304087675)
def ZS (Y1:(List Int)) (Yj:(List Int)):Nat→Int→(Unit) ⊕ (Unit)
  | 0,_ => .inl default
  | k + 1,Y2=>(cond (decide (Y2 < (((Z2 Y1).Sp).length:Int)))
    (cond (Z1p (Z2 Y1) Y2).2
      (cond (Z2m Y1 Y2)
        (.inl ())
        (ZS Y1 Yj k (Y2 + 1)))
      (.inl ()))
    (.inr ()))
def Z2n (Y1:(List Int)) (Yj:(List Int)):(Unit) ⊕ (Unit)→Ex × St
  | .inl r=>(.ret,⟨an 4 (.b false :: an 247 []),[]⟩)
  | .inr r=>((.exit 2),⟨.sl (Y1.map (cI .u8)) :: .sl (Yj.map (cI .u8)) :: .any :: .any :: .any :: .ptr 0 0 0 :: .own 1 :: .b ((Z7 (Z2 Y1)).2) :: .f .f32 ((Z9 (Z2 Y1)).1) :: .b ((Z9 (Z2 Y1)).2) :: .ptr 2 0 0 :: .b ((Z4 ((Z2 Y1).Me)).2) :: .f .f32 ((Z9 ((Z4 ((Z2 Y1).Me)).1)).1) :: .b ((Z9 ((Z4 ((Z2 Y1).Me)).1)).2) :: .own 3 :: .ptr 4 0 0 :: .ptr 5 0 0 :: .b ((Zc (Z2 Y1) (Zb Y1 Yj) 1065353216).2) :: .f .f32 ((Z9 ((Zc (Z2 Y1) (Zb Y1 Yj) 1065353216).1)).1) :: .b ((Z9 ((Zc (Z2 Y1) (Zb Y1 Yj) 1065353216).1)).2) :: .own 6 :: .b ((Zj (Z2 Y1)).2) :: an 9 (.sl (Y1.map (cI .u8)) :: .sl (Yj.map (cI .u8)) :: .b (Z1c Y1 Yj) :: .sl (Y1.map (cI .u8)) :: .agg [.own 7, .own 8, .own 9, .f .f32 ((Z2 Y1).Film), .f .f32 ((Z2 Y1).Bend), .own 10, .f .f32 ((Z2 Y1).Fall.X), .f .f32 ((Z2 Y1).Fall.Y), .f .f32 ((Z2 Y1).Fall.Z)] :: .any :: .agg [.own 7, .own 8, .own 9, .f .f32 ((Z2 Y1).Film), .f .f32 ((Z2 Y1).Bend), .own 10, .f .f32 ((Z2 Y1).Fall.X), .f .f32 ((Z2 Y1).Fall.Y), .f .f32 ((Z2 Y1).Fall.Z)] :: .any :: .own 1 :: .b ((Z7 (Z2 Y1)).2) :: .any :: .agg [.own 7, .own 8, .own 9, .f .f32 ((Z2 Y1).Film), .f .f32 ((Z2 Y1).Bend), .own 10, .f .f32 ((Z2 Y1).Fall.X), .f .f32 ((Z2 Y1).Fall.Y), .f .f32 ((Z2 Y1).Fall.Z)] :: .any :: .f .f32 ((Z9 (Z2 Y1)).1) :: .b ((Z9 (Z2 Y1)).2) :: .any :: .ptr 0 0 0 :: .agg [.own 7, .own 8] :: .any :: .agg [.own 11, .own 12, .own 13, .f .f32 ((Z4 ((Z2 Y1).Me)).1.Film), .f .f32 ((Z4 ((Z2 Y1).Me)).1.Bend), .own 14, .f .f32 ((Z4 ((Z2 Y1).Me)).1.Fall.X), .f .f32 ((Z4 ((Z2 Y1).Me)).1.Fall.Y), .f .f32 ((Z4 ((Z2 Y1).Me)).1.Fall.Z)] :: .b ((Z4 ((Z2 Y1).Me)).2) :: .any :: .agg [.own 11, .own 12, .own 13, .f .f32 ((Z4 ((Z2 Y1).Me)).1.Film), .f .f32 ((Z4 ((Z2 Y1).Me)).1.Bend), .own 14, .f .f32 ((Z4 ((Z2 Y1).Me)).1.Fall.X), .f .f32 ((Z4 ((Z2 Y1).Me)).1.Fall.Y), .f .f32 ((Z4 ((Z2 Y1).Me)).1.Fall.Z)] :: .any :: .f .f32 ((Z9 ((Z4 ((Z2 Y1).Me)).1)).1) :: .b ((Z9 ((Z4 ((Z2 Y1).Me)).1)).2) :: .b ((Z7 (Z2 Y1)).2) :: .b (!(Z7 (Z2 Y1)).2) :: .b (!(Z7 (Z2 Y1)).2) :: .b ((Z9 (Z2 Y1)).2) :: .b (!(Z9 (Z2 Y1)).2) :: .b (!(Z9 (Z2 Y1)).2) :: .b (!(Z9 (Z2 Y1)).2) :: .b ((Z4 ((Z2 Y1).Me)).2) :: .b (!(Z4 ((Z2 Y1).Me)).2) :: .b (!(Z4 ((Z2 Y1).Me)).2) :: .b (!(Z4 ((Z2 Y1).Me)).2) :: .b ((Z9 ((Z4 ((Z2 Y1).Me)).1)).2) :: .b (!(Z9 ((Z4 ((Z2 Y1).Me)).1)).2) :: .b (!(Z9 ((Z4 ((Z2 Y1).Me)).1)).2) :: .b (!(Z9 ((Z4 ((Z2 Y1).Me)).1)).2) :: .own 1 :: .i .i64 (((Z7 (Z2 Y1)).1).length:Int) :: .b ((((Z7 (Z2 Y1)).1).length:Int) != 4) :: .b ((((Z7 (Z2 Y1)).1).length:Int) != 4) :: .b ((((Z7 (Z2 Y1)).1).length:Int) != 4) :: .f .f32 ((Z9 (Z2 Y1)).1) :: .own 1 :: .ptr 1 0 0 :: .f .f32 (((Z7 (Z2 Y1)).1).getD 0 default) :: .own 1 :: .ptr 1 1 0 :: .f .f32 (((Z7 (Z2 Y1)).1).getD 1 default) :: .f .f32 (fop .add .f32 (((Z7 (Z2 Y1)).1).getD 0 default) (((Z7 (Z2 Y1)).1).getD 1 default)) :: .own 1 :: .ptr 1 2 0 :: .f .f32 (((Z7 (Z2 Y1)).1).getD 2 default) :: .f .f32 (ZU Y1) :: .own 1 :: .ptr 1 3 0 :: .f .f32 (((Z7 (Z2 Y1)).1).getD 3 default) :: .f .f32 (fop .add .f32 (ZU Y1) (((Z7 (Z2 Y1)).1).getD 3 default)) :: .b (Zv Y1) :: .b (Zv Y1) :: .b (Zv Y1) :: .f .f32 ((Z9 ((Z4 ((Z2 Y1).Me)).1)).1) :: .b (fcmp .neq .f32 ((Z9 ((Z4 ((Z2 Y1).Me)).1)).1) 0) :: .b (fcmp .neq .f32 ((Z9 ((Z4 ((Z2 Y1).Me)).1)).1) 0) :: .b (fcmp .neq .f32 ((Z9 ((Z4 ((Z2 Y1).Me)).1)).1) 0) :: .own 1 :: .ptr 1 0 0 :: .f .f32 (((Z7 (Z2 Y1)).1).getD 0 default) :: .b (fcmp .lss .f32 (((Z7 (Z2 Y1)).1).getD 0 default) 0) :: .b (fcmp .lss .f32 (((Z7 (Z2 Y1)).1).getD 0 default) 0) :: .b (fcmp .lss .f32 (((Z7 (Z2 Y1)).1).getD 0 default) 0) :: .own 1 :: .ptr 1 1 0 :: .f .f32 (((Z7 (Z2 Y1)).1).getD 1 default) :: .b (fcmp .lss .f32 (((Z7 (Z2 Y1)).1).getD 1 default) 0) :: .b (fcmp .lss .f32 (((Z7 (Z2 Y1)).1).getD 1 default) 0) :: .b (fcmp .lss .f32 (((Z7 (Z2 Y1)).1).getD 1 default) 0) :: .own 1 :: .ptr 1 2 0 :: .f .f32 (((Z7 (Z2 Y1)).1).getD 2 default) :: .b (fcmp .lss .f32 (((Z7 (Z2 Y1)).1).getD 2 default) 0) :: .b (fcmp .lss .f32 (((Z7 (Z2 Y1)).1).getD 2 default) 0) :: .b (fcmp .lss .f32 (((Z7 (Z2 Y1)).1).getD 2 default) 0) :: .own 1 :: .ptr 1 3 0 :: .f .f32 (((Z7 (Z2 Y1)).1).getD 3 default) :: .b (fcmp .neq .f32 (((Z7 (Z2 Y1)).1).getD 3 default) 0) :: .b (fcmp .neq .f32 (((Z7 (Z2 Y1)).1).getD 3 default) 0) :: .any :: .sl (Yj.map (cI .u8)) :: .agg [.f .f32 ((Zk Yj 3).X), .f .f32 ((Zk Yj 3).Y), .f .f32 ((Zk Yj 3).Z)] :: .ptr 0 0 0 :: .ptr 0 0 0 :: .own 7 :: an 9 (.agg [.own 7, .own 8, .own 9, .f .f32 ((Z2 Y1).Film), .f .f32 ((Z2 Y1).Bend), .own 10, .f .f32 ((Z2 Y1).Fall.X), .f .f32 ((Z2 Y1).Fall.Y), .f .f32 ((Z2 Y1).Fall.Z)] :: .own 3 :: .any :: .agg [.own 15, .own 16, .own 17, .f .f32 ((Zc (Z2 Y1) (Zb Y1 Yj) 1065353216).1.Film), .f .f32 ((Zc (Z2 Y1) (Zb Y1 Yj) 1065353216).1.Bend), .own 18, .f .f32 ((Zc (Z2 Y1) (Zb Y1 Yj) 1065353216).1.Fall.X), .f .f32 ((Zc (Z2 Y1) (Zb Y1 Yj) 1065353216).1.Fall.Y), .f .f32 ((Zc (Z2 Y1) (Zb Y1 Yj) 1065353216).1.Fall.Z)] :: .b ((Zc (Z2 Y1) (Zb Y1 Yj) 1065353216).2) :: .any :: .agg [.own 15, .own 16, .own 17, .f .f32 ((Zc (Z2 Y1) (Zb Y1 Yj) 1065353216).1.Film), .f .f32 ((Zc (Z2 Y1) (Zb Y1 Yj) 1065353216).1.Bend), .own 18, .f .f32 ((Zc (Z2 Y1) (Zb Y1 Yj) 1065353216).1.Fall.X), .f .f32 ((Zc (Z2 Y1) (Zb Y1 Yj) 1065353216).1.Fall.Y), .f .f32 ((Zc (Z2 Y1) (Zb Y1 Yj) 1065353216).1.Fall.Z)] :: .any :: .f .f32 ((Z9 ((Zc (Z2 Y1) (Zb Y1 Yj) 1065353216).1)).1) :: .b ((Z9 ((Zc (Z2 Y1) (Zb Y1 Yj) 1065353216).1)).2) :: .any :: .agg [.own 7, .own 8, .own 9, .f .f32 ((Z2 Y1).Film), .f .f32 ((Z2 Y1).Bend), .own 10, .f .f32 ((Z2 Y1).Fall.X), .f .f32 ((Z2 Y1).Fall.Y), .f .f32 ((Z2 Y1).Fall.Z)] :: .any :: .own 6 :: .b ((Zj (Z2 Y1)).2) :: .b ((Zc (Z2 Y1) (Zb Y1 Yj) 1065353216).2) :: .b (!(Zc (Z2 Y1) (Zb Y1 Yj) 1065353216).2) :: .b (!(Zc (Z2 Y1) (Zb Y1 Yj) 1065353216).2) :: .b ((Z9 ((Zc (Z2 Y1) (Zb Y1 Yj) 1065353216).1)).2) :: .b (!(Z9 ((Zc (Z2 Y1) (Zb Y1 Yj) 1065353216).1)).2) :: .b (!(Z9 ((Zc (Z2 Y1) (Zb Y1 Yj) 1065353216).1)).2) :: .b (!(Z9 ((Zc (Z2 Y1) (Zb Y1 Yj) 1065353216).1)).2) :: .b ((Zj (Z2 Y1)).2) :: .b (!(Zj (Z2 Y1)).2) :: .b (!(Zj (Z2 Y1)).2) :: .b (!(Zj (Z2 Y1)).2) :: .f .f32 ((Z9 ((Zc (Z2 Y1) (Zb Y1 Yj) 1065353216).1)).1) :: .f .f64 (fcv .f32 .f64 ((Z9 ((Zc (Z2 Y1) (Zb Y1 Yj) 1065353216).1)).1)) :: .f .f32 ((Z9 (Z2 Y1)).1) :: .f .f64 (fcv .f32 .f64 ((Z9 (Z2 Y1)).1)) :: .f .f64 (Z13 Y1 Yj) :: .b (fcmp .gtr .f64 (Z13 Y1 Yj) 4576918229304087675) :: .b (fcmp .gtr .f64 (Z13 Y1 Yj) 4576918229304087675) :: .b (fcmp .gtr .f64 (Z13 Y1 Yj) 4576918229304087675) :: .own 6 :: .i .i64 (((Zj (Z2 Y1)).1).length:Int) :: .ptr 0 0 2 :: .own 9 :: .i .i64 (((Z2 Y1).Sp).length:Int) :: .b ((((Zj (Z2 Y1)).1).length:Int) != (((Z2 Y1).Sp).length:Int)) :: .b ((((Zj (Z2 Y1)).1).length:Int) != (((Z2 Y1).Sp).length:Int)) :: .ptr 0 0 2 :: .own 9 :: an 71 [])),[.box 34 [.own 7, .own 8, .own 9, .f .f32 ((Z2 Y1).Film), .f .f32 ((Z2 Y1).Bend), .own 10, .f .f32 ((Z2 Y1).Fall.X), .f .f32 ((Z2 Y1).Fall.Y), .f .f32 ((Z2 Y1).Fall.Z)], .vec 29 1 (((Z7 (Z2 Y1)).1).map (cF .f32)) false, .box 34 [.own 11, .own 12, .own 13, .f .f32 ((Z4 ((Z2 Y1).Me)).1.Film), .f .f32 ((Z4 ((Z2 Y1).Me)).1.Bend), .own 14, .f .f32 ((Z4 ((Z2 Y1).Me)).1.Fall.X), .f .f32 ((Z4 ((Z2 Y1).Me)).1.Fall.Y), .f .f32 ((Z4 ((Z2 Y1).Me)).1.Fall.Z)], .vec 32 3 ((Zb Y1 Yj).map Gv.c) false, .box 32 [.f .f32 ((Zk Yj 3).X), .f .f32 ((Zk Yj 3).Y), .f .f32 ((Zk Yj 3).Z)], .box 34 [.own 15, .own 16, .own 17, .f .f32 ((Zc (Z2 Y1) (Zb Y1 Yj) 1065353216).1.Film), .f .f32 ((Zc (Z2 Y1) (Zb Y1 Yj) 1065353216).1.Bend), .own 18, .f .f32 ((Zc (Z2 Y1) (Zb Y1 Yj) 1065353216).1.Fall.X), .f .f32 ((Zc (Z2 Y1) (Zb Y1 Yj) 1065353216).1.Fall.Y), .f .f32 ((Zc (Z2 Y1) (Zb Y1 Yj) 1065353216).1.Fall.Z)], .vec 29 1 (((Zj (Z2 Y1)).1).map (cF .f32)) false, .vec 32 3 (((Z2 Y1).Me.Pq).map Gv.c) false, .nest 60 (((Z2 Y1).Me.Tr).map fun l=>l.map (cI .i64)) false, .vec 76 4 (((Z2 Y1).Sp).map Gs.c) false, .vec 29 1 (((Z2 Y1).We).map (cF .f32)) false, .vec 32 3 (((Z4 ((Z2 Y1).Me)).1.Me.Pq).map Gv.c) false, .nest 60 (((Z4 ((Z2 Y1).Me)).1.Me.Tr).map fun l=>l.map (cI .i64)) false, .vec 76 4 (((Z4 ((Z2 Y1).Me)).1.Sp).map Gs.c) false, .vec 29 1 (((Z4 ((Z2 Y1).Me)).1.We).map (cF .f32)) false, .vec 32 3 (((Zc (Z2 Y1) (Zb Y1 Yj) 1065353216).1.Me.Pq).map Gv.c) false, .nest 60 (((Zc (Z2 Y1) (Zb Y1 Yj) 1065353216).1.Me.Tr).map fun l=>l.map (cI .i64)) false, .vec 76 4 (((Zc (Z2 Y1) (Zb Y1 Yj) 1065353216).1.Sp).map Gs.c) false, .vec 29 1 (((Zc (Z2 Y1) (Zb Y1 Yj) 1065353216).1.We).map (cF .f32)) false]⟩)
def Z63 (Y1:(List Int)) (Yj:(List Int)) (Y2:Int):St:=⟨.sl (Y1.map (cI .u8)) :: .sl (Yj.map (cI .u8)) :: .any :: .any :: .any :: .ptr 0 0 0 :: .own 1 :: .b ((Z7 (Z2 Y1)).2) :: .f .f32 ((Z9 (Z2 Y1)).1) :: .b ((Z9 (Z2 Y1)).2) :: .ptr 2 0 0 :: .b ((Z4 ((Z2 Y1).Me)).2) :: .f .f32 ((Z9 ((Z4 ((Z2 Y1).Me)).1)).1) :: .b ((Z9 ((Z4 ((Z2 Y1).Me)).1)).2) :: .own 3 :: .ptr 4 0 0 :: .ptr 17 0 0 :: .b ((Zc (Z2 Y1) (Zb Y1 Yj) 1065353216).2) :: .f .f32 ((Z9 ((Zc (Z2 Y1) (Zb Y1 Yj) 1065353216).1)).1) :: .b ((Z9 ((Zc (Z2 Y1) (Zb Y1 Yj) 1065353216).1)).2) :: .own 18 :: .b ((Zj (Z2 Y1)).2) :: an 9 (.sl (Y1.map (cI .u8)) :: .sl (Yj.map (cI .u8)) :: .b (Z1c Y1 Yj) :: .sl (Y1.map (cI .u8)) :: .agg [.own 5, .own 6, .own 7, .f .f32 ((Z2 Y1).Film), .f .f32 ((Z2 Y1).Bend), .own 8, .f .f32 ((Z2 Y1).Fall.X), .f .f32 ((Z2 Y1).Fall.Y), .f .f32 ((Z2 Y1).Fall.Z)] :: .any :: .agg [.own 5, .own 6, .own 7, .f .f32 ((Z2 Y1).Film), .f .f32 ((Z2 Y1).Bend), .own 8, .f .f32 ((Z2 Y1).Fall.X), .f .f32 ((Z2 Y1).Fall.Y), .f .f32 ((Z2 Y1).Fall.Z)] :: .any :: .own 1 :: .b ((Z7 (Z2 Y1)).2) :: .any :: .agg [.own 5, .own 6, .own 7, .f .f32 ((Z2 Y1).Film), .f .f32 ((Z2 Y1).Bend), .own 8, .f .f32 ((Z2 Y1).Fall.X), .f .f32 ((Z2 Y1).Fall.Y), .f .f32 ((Z2 Y1).Fall.Z)] :: .any :: .f .f32 ((Z9 (Z2 Y1)).1) :: .b ((Z9 (Z2 Y1)).2) :: .any :: .ptr 0 0 0 :: .agg [.own 5, .own 6] :: .any :: .agg [.own 9, .own 10, .own 11, .f .f32 ((Z4 ((Z2 Y1).Me)).1.Film), .f .f32 ((Z4 ((Z2 Y1).Me)).1.Bend), .own 12, .f .f32 ((Z4 ((Z2 Y1).Me)).1.Fall.X), .f .f32 ((Z4 ((Z2 Y1).Me)).1.Fall.Y), .f .f32 ((Z4 ((Z2 Y1).Me)).1.Fall.Z)] :: .b ((Z4 ((Z2 Y1).Me)).2) :: .any :: .agg [.own 9, .own 10, .own 11, .f .f32 ((Z4 ((Z2 Y1).Me)).1.Film), .f .f32 ((Z4 ((Z2 Y1).Me)).1.Bend), .own 12, .f .f32 ((Z4 ((Z2 Y1).Me)).1.Fall.X), .f .f32 ((Z4 ((Z2 Y1).Me)).1.Fall.Y), .f .f32 ((Z4 ((Z2 Y1).Me)).1.Fall.Z)] :: .any :: .f .f32 ((Z9 ((Z4 ((Z2 Y1).Me)).1)).1) :: .b ((Z9 ((Z4 ((Z2 Y1).Me)).1)).2) :: .b ((Z7 (Z2 Y1)).2) :: .b (!(Z7 (Z2 Y1)).2) :: .b (!(Z7 (Z2 Y1)).2) :: .b ((Z9 (Z2 Y1)).2) :: .b (!(Z9 (Z2 Y1)).2) :: .b (!(Z9 (Z2 Y1)).2) :: .b (!(Z9 (Z2 Y1)).2) :: .b ((Z4 ((Z2 Y1).Me)).2) :: .b (!(Z4 ((Z2 Y1).Me)).2) :: .b (!(Z4 ((Z2 Y1).Me)).2) :: .b (!(Z4 ((Z2 Y1).Me)).2) :: .b ((Z9 ((Z4 ((Z2 Y1).Me)).1)).2) :: .b (!(Z9 ((Z4 ((Z2 Y1).Me)).1)).2) :: .b (!(Z9 ((Z4 ((Z2 Y1).Me)).1)).2) :: .b (!(Z9 ((Z4 ((Z2 Y1).Me)).1)).2) :: .own 1 :: .i .i64 (((Z7 (Z2 Y1)).1).length:Int) :: .b ((((Z7 (Z2 Y1)).1).length:Int) != 4) :: .b ((((Z7 (Z2 Y1)).1).length:Int) != 4) :: .b ((((Z7 (Z2 Y1)).1).length:Int) != 4) :: .f .f32 ((Z9 (Z2 Y1)).1) :: .own 1 :: .ptr 1 0 0 :: .f .f32 (((Z7 (Z2 Y1)).1).getD 0 default) :: .own 1 :: .ptr 1 1 0 :: .f .f32 (((Z7 (Z2 Y1)).1).getD 1 default) :: .f .f32 (fop .add .f32 (((Z7 (Z2 Y1)).1).getD 0 default) (((Z7 (Z2 Y1)).1).getD 1 default)) :: .own 1 :: .ptr 1 2 0 :: .f .f32 (((Z7 (Z2 Y1)).1).getD 2 default) :: .f .f32 (ZU Y1) :: .own 1 :: .ptr 1 3 0 :: .f .f32 (((Z7 (Z2 Y1)).1).getD 3 default) :: .f .f32 (fop .add .f32 (ZU Y1) (((Z7 (Z2 Y1)).1).getD 3 default)) :: .b (Zv Y1) :: .b (Zv Y1) :: .b (Zv Y1) :: .f .f32 ((Z9 ((Z4 ((Z2 Y1).Me)).1)).1) :: .b (fcmp .neq .f32 ((Z9 ((Z4 ((Z2 Y1).Me)).1)).1) 0) :: .b (fcmp .neq .f32 ((Z9 ((Z4 ((Z2 Y1).Me)).1)).1) 0) :: .b (fcmp .neq .f32 ((Z9 ((Z4 ((Z2 Y1).Me)).1)).1) 0) :: .own 1 :: .ptr 1 0 0 :: .f .f32 (((Z7 (Z2 Y1)).1).getD 0 default) :: .b (fcmp .lss .f32 (((Z7 (Z2 Y1)).1).getD 0 default) 0) :: .b (fcmp .lss .f32 (((Z7 (Z2 Y1)).1).getD 0 default) 0) :: .b (fcmp .lss .f32 (((Z7 (Z2 Y1)).1).getD 0 default) 0) :: .own 1 :: .ptr 1 1 0 :: .f .f32 (((Z7 (Z2 Y1)).1).getD 1 default) :: .b (fcmp .lss .f32 (((Z7 (Z2 Y1)).1).getD 1 default) 0) :: .b (fcmp .lss .f32 (((Z7 (Z2 Y1)).1).getD 1 default) 0) :: .b (fcmp .lss .f32 (((Z7 (Z2 Y1)).1).getD 1 default) 0) :: .own 1 :: .ptr 1 2 0 :: .f .f32 (((Z7 (Z2 Y1)).1).getD 2 default) :: .b (fcmp .lss .f32 (((Z7 (Z2 Y1)).1).getD 2 default) 0) :: .b (fcmp .lss .f32 (((Z7 (Z2 Y1)).1).getD 2 default) 0) :: .b (fcmp .lss .f32 (((Z7 (Z2 Y1)).1).getD 2 default) 0) :: .own 1 :: .ptr 1 3 0 :: .f .f32 (((Z7 (Z2 Y1)).1).getD 3 default) :: .b (fcmp .neq .f32 (((Z7 (Z2 Y1)).1).getD 3 default) 0) :: .b (fcmp .neq .f32 (((Z7 (Z2 Y1)).1).getD 3 default) 0) :: .any :: .sl (Yj.map (cI .u8)) :: .agg [.f .f32 ((Zk Yj 3).X), .f .f32 ((Zk Yj 3).Y), .f .f32 ((Zk Yj 3).Z)] :: .ptr 0 0 0 :: .ptr 0 0 0 :: .own 5 :: an 9 (.agg [.own 5, .own 6, .own 7, .f .f32 ((Z2 Y1).Film), .f .f32 ((Z2 Y1).Bend), .own 8, .f .f32 ((Z2 Y1).Fall.X), .f .f32 ((Z2 Y1).Fall.Y), .f .f32 ((Z2 Y1).Fall.Z)] :: .own 3 :: .any :: .agg [.own 13, .own 14, .own 15, .f .f32 ((Zc (Z2 Y1) (Zb Y1 Yj) 1065353216).1.Film), .f .f32 ((Zc (Z2 Y1) (Zb Y1 Yj) 1065353216).1.Bend), .own 16, .f .f32 ((Zc (Z2 Y1) (Zb Y1 Yj) 1065353216).1.Fall.X), .f .f32 ((Zc (Z2 Y1) (Zb Y1 Yj) 1065353216).1.Fall.Y), .f .f32 ((Zc (Z2 Y1) (Zb Y1 Yj) 1065353216).1.Fall.Z)] :: .b ((Zc (Z2 Y1) (Zb Y1 Yj) 1065353216).2) :: .any :: .agg [.own 13, .own 14, .own 15, .f .f32 ((Zc (Z2 Y1) (Zb Y1 Yj) 1065353216).1.Film), .f .f32 ((Zc (Z2 Y1) (Zb Y1 Yj) 1065353216).1.Bend), .own 16, .f .f32 ((Zc (Z2 Y1) (Zb Y1 Yj) 1065353216).1.Fall.X), .f .f32 ((Zc (Z2 Y1) (Zb Y1 Yj) 1065353216).1.Fall.Y), .f .f32 ((Zc (Z2 Y1) (Zb Y1 Yj) 1065353216).1.Fall.Z)] :: .any :: .f .f32 ((Z9 ((Zc (Z2 Y1) (Zb Y1 Yj) 1065353216).1)).1) :: .b ((Z9 ((Zc (Z2 Y1) (Zb Y1 Yj) 1065353216).1)).2) :: .any :: .agg [.own 5, .own 6, .own 7, .f .f32 ((Z2 Y1).Film), .f .f32 ((Z2 Y1).Bend), .own 8, .f .f32 ((Z2 Y1).Fall.X), .f .f32 ((Z2 Y1).Fall.Y), .f .f32 ((Z2 Y1).Fall.Z)] :: .any :: .own 18 :: .b ((Zj (Z2 Y1)).2) :: .b ((Zc (Z2 Y1) (Zb Y1 Yj) 1065353216).2) :: .b (!(Zc (Z2 Y1) (Zb Y1 Yj) 1065353216).2) :: .b (!(Zc (Z2 Y1) (Zb Y1 Yj) 1065353216).2) :: .b ((Z9 ((Zc (Z2 Y1) (Zb Y1 Yj) 1065353216).1)).2) :: .b (!(Z9 ((Zc (Z2 Y1) (Zb Y1 Yj) 1065353216).1)).2) :: .b (!(Z9 ((Zc (Z2 Y1) (Zb Y1 Yj) 1065353216).1)).2) :: .b (!(Z9 ((Zc (Z2 Y1) (Zb Y1 Yj) 1065353216).1)).2) :: .b ((Zj (Z2 Y1)).2) :: .b (!(Zj (Z2 Y1)).2) :: .b (!(Zj (Z2 Y1)).2) :: .b (!(Zj (Z2 Y1)).2) :: .f .f32 ((Z9 ((Zc (Z2 Y1) (Zb Y1 Yj) 1065353216).1)).1) :: .f .f64 (fcv .f32 .f64 ((Z9 ((Zc (Z2 Y1) (Zb Y1 Yj) 1065353216).1)).1)) :: .f .f32 ((Z9 (Z2 Y1)).1) :: .f .f64 (fcv .f32 .f64 ((Z9 (Z2 Y1)).1)) :: .f .f64 (Z13 Y1 Yj) :: .b (fcmp .gtr .f64 (Z13 Y1 Yj) 4576918229304087675) :: .b (fcmp .gtr .f64 (Z13 Y1 Yj) 4576918229304087675) :: .b (fcmp .gtr .f64 (Z13 Y1 Yj) 4576918229304087675) :: .own 18 :: .i .i64 (((Zj (Z2 Y1)).1).length:Int) :: .ptr 0 0 2 :: .own 7 :: .i .i64 (((Z2 Y1).Sp).length:Int) :: .b ((((Zj (Z2 Y1)).1).length:Int) != (((Z2 Y1).Sp).length:Int)) :: .b ((((Zj (Z2 Y1)).1).length:Int) != (((Z2 Y1).Sp).length:Int)) :: .ptr 0 0 2 :: .own 7 :: .i .i64 (((Z2 Y1).Sp).length:Int) :: .i .i64 Y2 :: an 69 [])),[.box 34 [.own 5, .own 6, .own 7, .f .f32 ((Z2 Y1).Film), .f .f32 ((Z2 Y1).Bend), .own 8, .f .f32 ((Z2 Y1).Fall.X), .f .f32 ((Z2 Y1).Fall.Y), .f .f32 ((Z2 Y1).Fall.Z)], .vec 29 1 (((Z7 (Z2 Y1)).1).map (cF .f32)) false, .box 34 [.own 9, .own 10, .own 11, .f .f32 ((Z4 ((Z2 Y1).Me)).1.Film), .f .f32 ((Z4 ((Z2 Y1).Me)).1.Bend), .own 12, .f .f32 ((Z4 ((Z2 Y1).Me)).1.Fall.X), .f .f32 ((Z4 ((Z2 Y1).Me)).1.Fall.Y), .f .f32 ((Z4 ((Z2 Y1).Me)).1.Fall.Z)], .vec 32 3 ((Zb Y1 Yj).map Gv.c) false, .box 32 [.f .f32 ((Zk Yj 3).X), .f .f32 ((Zk Yj 3).Y), .f .f32 ((Zk Yj 3).Z)], .vec 32 3 (((Z2 Y1).Me.Pq).map Gv.c) false, .nest 60 (((Z2 Y1).Me.Tr).map fun l=>l.map (cI .i64)) false, .vec 76 4 (((Z2 Y1).Sp).map Gs.c) false, .vec 29 1 (((Z2 Y1).We).map (cF .f32)) false, .vec 32 3 (((Z4 ((Z2 Y1).Me)).1.Me.Pq).map Gv.c) false, .nest 60 (((Z4 ((Z2 Y1).Me)).1.Me.Tr).map fun l=>l.map (cI .i64)) false, .vec 76 4 (((Z4 ((Z2 Y1).Me)).1.Sp).map Gs.c) false, .vec 29 1 (((Z4 ((Z2 Y1).Me)).1.We).map (cF .f32)) false, .vec 32 3 (((Zc (Z2 Y1) (Zb Y1 Yj) 1065353216).1.Me.Pq).map Gv.c) false, .nest 60 (((Zc (Z2 Y1) (Zb Y1 Yj) 1065353216).1.Me.Tr).map fun l=>l.map (cI .i64)) false, .vec 76 4 (((Zc (Z2 Y1) (Zb Y1 Yj) 1065353216).1.Sp).map Gs.c) false, .vec 29 1 (((Zc (Z2 Y1) (Zb Y1 Yj) 1065353216).1.We).map (cF .f32)) false, .box 34 [.own 13, .own 14, .own 15, .f .f32 ((Zc (Z2 Y1) (Zb Y1 Yj) 1065353216).1.Film), .f .f32 ((Zc (Z2 Y1) (Zb Y1 Yj) 1065353216).1.Bend), .own 16, .f .f32 ((Zc (Z2 Y1) (Zb Y1 Yj) 1065353216).1.Fall.X), .f .f32 ((Zc (Z2 Y1) (Zb Y1 Yj) 1065353216).1.Fall.Y), .f .f32 ((Zc (Z2 Y1) (Zb Y1 Yj) 1065353216).1.Fall.Z)], .vec 29 1 (((Zj (Z2 Y1)).1).map (cF .f32)) false]⟩
def Z2G:List Bool:=(mR false [0,2,3,17,9,5,1,1,1,2,1,1,1,2,1,2,1,2,1,1,1,68,1,5,9,2,1,2,1,1,1,2,1,1,1,32,69])
def Z5F:List Bool:=(mR false [0,2,3,17,9,5,1,1,1,2,1,1,1,2,1,2,1,2,1,1,1,68,1,5,9,2,1,2,1,1,1,2,1,1,1,30,71])
set_option maxHeartbeats 1000000 in
theorem Z4t (Y1:(List Int)) (Yj:(List Int)) (hp0:Y1.length≤9223372036854775807) (hp1:Yj.length≤9223372036854775807) (hp2:OkB Y1) (hp3:OkB Yj) (Z88:(Z1c Y1 Yj)=false):∀ (k:Nat) (Y2:Int) (Z3Y:0≤Y2) (hk:((((Z2 Y1).Sp).length:Int) - Y2).toNat < k),Lp prog 0 (sub (X2 f6) [1,1,1,1,1,1,1,1,1,1,1,1,1,1,1,0,1,0,0]) (Z63 Y1 Yj Y2) (Z2n Y1 Yj (ZS Y1 Yj k Y2)).1 (Z2n Y1 Yj (ZS Y1 Yj k Y2)).2:=by
 intro k
 induction k with
 | zero=>intro Y2 Z3Y hk;exact absurd hk (Nat.not_lt_zero _)
 | succ k ih =>
  intro Y2 Z3Y hk
  cases Yr:(decide (Y2 < (((Z2 Y1).Sp).length:Int))) with
  | true =>
   have YM:=odt Yr
   have YU:(0:Int)≤Y2:=(by with_reducible assumption)
   have YR:Y2 < (((Z2 Y1).Sp).length:Int):=(by with_reducible assumption)
   have y_2:Y2.toNat < ((Z2 Y1).Sp).length:=(by omega)
   have YV:(Z2 Y1).Me.Pq.length≤1073741824:=(by obtain ⟨q1,q2,q3,q4,_⟩:=Z1K hp2;omega)
   have y_4:(Z2 Y1).Me.Tr.length≤1073741824:=(by obtain ⟨q1,q2,q3,q4,_⟩:=Z1K hp2;omega)
   have y_5:∀ t∈(Z2 Y1).Me.Tr,t.length≤1073741824:=(by obtain ⟨q1,q2,q3,q4,_⟩:=Z1K hp2;omega)
   have y_6:(Z2 Y1).Sp.length≤1073741824:=(by obtain ⟨q1,q2,q3,q4,_⟩:=Z1K hp2;omega)
   have y_7:(Z2 Y1).We.length≤1073741824:=(by obtain ⟨q1,q2,q3,q4,_⟩:=Z1K hp2;omega)
   have y_8:Y2 < (((Zj (Z2 Y1)).1).length:Int):=(by ((have q9:=bne_eq_false_iff_eq.1 (ek7 hp2);omega)))
   have y_9:Y2.toNat < ((Zj (Z2 Y1)).1).length:=(by omega)
   have p {a C} (s:Scr a C):=sB Yr<|sX Gs.c ((Z2 Y1).Sp) Y2 YU YR<|sV Gs.c ((Z2 Y1).Sp) Y2.toNat y_2<|sF (Fn.castA (args':=[.agg [.sl (((Z2 Y1).Me.Pq).map Gv.c), .sl ((((Z2 Y1).Me.Tr).map fun l=>l.map (cI .i64)).map fun l => [.sl l]), .sl (((Z2 Y1).Sp).map Gs.c), .f .f32 ((Z2 Y1).Film), .f .f32 ((Z2 Y1).Bend), .sl (((Z2 Y1).We).map (cF .f32)), .f .f32 ((Z2 Y1).Fall.X), .f .f32 ((Z2 Y1).Fall.Y), .f .f32 ((Z2 Y1).Fall.Z)], .i .i64 Y2]) (Z7T (Z2 Y1) Y2 YV y_4 y_5 y_6 y_7) (by simp [cL,Function.comp_def];done))<|sK [13,13]<|sC (X1M ((((Z2 Y1).Sp).getD Y2.toNat default).Stiff))<|sX (cF .f32) ((Zj (Z2 Y1)).1) Y2 YU y_8<|sV (cF .f32) ((Zj (Z2 Y1)).1) Y2.toNat y_9<|sC (X1M (fop .sub .f32 (((Zj (Z2 Y1)).1).getD Y2.toNat default) 1065353216))<|sC (X1M ((((Z2 Y1).Sp).getD Y2.toNat default).Long))<|s
   cases YB:(Z1p (Z2 Y1) Y2).2 with
   | true =>
    have q {a C} (s:Scr a C):=p (sB' YB<|sB' YB<|sF (Z7U ((Z1p (Z2 Y1) Y2).1))<|sB' YB<|sC (X1M (Z32 ((Z1p (Z2 Y1) Y2).1)))<|sB' YB<|sB' YB<|sB' YB<|sB' YB<|sB' YB<|sF (Z66 (fcv .f32 .f64 (Z32 ((Z1p (Z2 Y1) Y2).1))) (Z2Y Y1 Y2))<|sB' YB<|sB' YB<|s)
    clear p
    cases YQ:(Z2m Y1 Y2) with
    | true =>
     have e:ZS Y1 Yj (k + 1) Y2=(.inl ()):=by simp only [ZS,Yr,YB,YQ,cond_true]
     rw [e]
     exact outR (e := .ret) E0Ok Zg [] (mR false [4,1,247]) [] (q (sB YQ<|sN)) (by kernel_rfl) (by intro h;cases h)
    | false =>
     have Y1l:(-9223372036854775808:Int)≤(Y2 + 1):=by clear q;exact (by omega)
     have Y1o:(Y2 + 1)≤(9223372036854775807:Int):=by clear q;exact (by omega)
     have e:ZS Y1 Yj (k + 1) Y2=(ZS Y1 Yj k (Y2 + 1)):=by simp only [ZS,Yr,YB,YQ,cond_true,cond_false]
     rw [e]
     exact X1r E0Ok Zg [] Z2G [0,1,2,3,4,5,6,7,8,9,10,11,12,13,14,15,16,17,18] (ih (Y2 + 1) (show 0≤(Y2 + 1) from (by omega)) (by omega)) (q (sB YQ<|sI (Y2 + 1) Y1l Y1o<|sN)) (by kernel_rfl)
   | false =>
    have e:ZS Y1 Yj (k + 1) Y2=(.inl ()):=by simp only [ZS,Yr,YB,cond_true,cond_false]
    rw [e]
    exact outR (e := .ret) E0Ok Zg [] (mR false [4,1,247]) [] (p (sB' YB<|sB' YB<|sB' YB<|sB' YB<|sB' YB<|sB' YB<|sB' YB<|sB' YB<|sB' YB<|sB' YB<|sB (show true=true from rfl)<|sN)) (by kernel_rfl) (by intro h;cases h)
  | false =>
   have YM:=odf Yr
   have e:ZS Y1 Yj (k + 1) Y2=(.inr ()):=by simp only [ZS,Yr,cond_false]
   rw [e]
   exact outR (e:=(.exit 2)) E0Ok Zg [] Z5F [0,1,2,3,4,17,18,5,6,7,8,9,10,11,12,13,14,15,16] (sB Yr<|sN) (by kernel_rfl) (by intro h;cases h)
end Go.Ab
