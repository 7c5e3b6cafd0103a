/- The functions of this seat as plain Lean, and that the program's are these. Printed by a program of the prover's own. -/
import Derived.Test.YtoibkmljibnjnaaB5
set_option linter.unusedVariables false
set_option linter.unusedSimpArgs false
set_option maxRecDepth 100000
namespace Go.Ab
open Go.RowKit Go.Proofs.Try
structure VE where
  x:FE
  y:FE
  z:FE
instance:Inhabited VE:=⟨⟨.lit 0 0, .lit 0 0, .lit 0 0⟩⟩
def VE.ev (ρ:Nat→Nat) (v:VE):Gv:=⟨v.x.ev ρ,v.y.ev ρ,v.z.ev ρ⟩
def sAdd (a b:VE):VE:=⟨.add a.x b.x, .add a.y b.y, .add a.z b.z⟩
def Z8E (a b:VE):VE:=⟨.sub a.x b.x, .sub a.y b.y, .sub a.z b.z⟩
def sMul (a:VE) (e:FE):VE:=⟨.mul a.x e, .mul a.y e, .mul a.z e⟩
def Z76 (a b:VE):VE:=⟨.sub (.mul a.y b.z) (.mul a.z b.y), .sub (.mul a.z b.x) (.mul a.x b.z), .sub (.mul a.x b.y) (.mul a.y b.x)⟩
def Z77 (a b:VE):FE := .add (.add (.mul a.x b.x) (.mul a.y b.y)) (.mul a.z b.z)
def sVol (P:List VE) (T:List (List Int)):FE:=T.foldl (fun s t => .add s (.div (Z77 (P.getD (t.getD 0 default).toNat default) (Z76 (P.getD (t.getD 1 default).toNat default) (P.getD (t.getD 2 default).toNat default))) 1086324736 6)) (.lit 0 0)
def sSum (l:List VE):VE:=l.foldl sAdd default
def vars (n:Nat):List VE:=(List.range n).map fun i=>⟨.var (3 * i), .var (3 * i + 1), .var (3 * i + 2)⟩
def bdOf (b:Nat):Bd:=if b=0 then ⟨-536870912,536870912,0⟩ else if b=1073741824 then ⟨1610612736,2684354560,0⟩ else if b=3221225472 then ⟨-2684354560,-1610612736,0⟩ else if b=1068827891 then ⟨981629184,2055371136,0⟩ else ⟨-2055371136,-981629184,0⟩
def crd (l:List Gv) (i:Nat):Nat:=if i % 3=0 then (l.getD (i / 3) default).X else if i % 3=1 then (l.getD (i / 3) default).Y else (l.getD (i / 3) default).Z
theorem Z7D (ρ:Nat→Nat) (l:List VE) (i:Nat):(l.map (VE.ev ρ)).getD i default=(l.getD i default).ev ρ:=by
  rw [List.getD_eq_getElem?_getD,List.getD_eq_getElem?_getD,List.getElem?_map]
  cases l[i]? <;> rfl
theorem Z65 (ps:List Gv):(vars ps.length).map (VE.ev (crd ps))=ps:=by
  apply List.ext_getElem?
  intro i
  unfold vars
  rw [List.map_map,List.getElem?_map]
  by_cases hi:i < ps.length
  · rw [List.getElem?_range hi,List.getElem?_eq_getElem hi]
    show some (⟨crd ps (3 * i),crd ps (3 * i + 1),crd ps (3 * i + 2)⟩:Gv)=_
    unfold crd
    rw [if_pos (by omega),if_neg (by omega),if_pos (by omega),if_neg (by omega),if_neg (by omega),show 3 * i / 3=i from by omega,show (3 * i + 1) / 3=i from by omega,show (3 * i + 2) / 3=i from by omega,List.getD_eq_getElem?_getD,List.getElem?_eq_getElem hi]
    rfl
  · rw [List.getElem?_eq_none (by simpa using hi),List.getElem?_eq_none (by omega)];rfl
theorem Z86 (ρ:Nat→Nat) (l:List VE):Z1I (l.map (VE.ev ρ))=(sSum l).ev ρ:=by
  have h:Z1A (l.map (VE.ev ρ))=(l.map (VE.ev ρ)).foldl (fun s v=>((ZC ⟨s.1,s.2.1,s.2.2⟩ v).X,(ZC ⟨s.1,s.2.1,s.2.2⟩ v).Y,(ZC ⟨s.1,s.2.1,s.2.2⟩ v).Z)) (0,0,0) :=
    X5Q (lo:=fun k s i=>Z1w (l.map (VE.ev ρ)) k i s.1 s.2.1 s.2.2) (fun k s i=>rfl) (0,0,0)
  have h2:∀ (l:List VE) (a:VE),(l.map (VE.ev ρ)).foldl (fun s v=>((ZC ⟨s.1,s.2.1,s.2.2⟩ v).X,(ZC ⟨s.1,s.2.1,s.2.2⟩ v).Y,(ZC ⟨s.1,s.2.1,s.2.2⟩ v).Z)) ((a.ev ρ).X,(a.ev ρ).Y,(a.ev ρ).Z)=(((l.foldl sAdd a).ev ρ).X,((l.foldl sAdd a).ev ρ).Y,((l.foldl sAdd a).ev ρ).Z):=by
    intro l
    induction l with
    | nil=>intro a;rfl
    | cons b l ih=>intro a;exact ih (sAdd a b)
  unfold Z1I
  have h2:=h2 l default
  rw [show ((0,0,0):Nat × Nat × Nat)=(((default:VE).ev ρ).X,((default:VE).ev ρ).Y,((default:VE).ev ρ).Z) from rfl,h2] at h
  rw [h];rfl
theorem Z6q (ρ:Nat→Nat) (P:List VE) (T:List (List Int)):Zp ⟨P.map (VE.ev ρ),T⟩=(sVol P T).ev ρ:=by
  have h:Z2c ⟨P.map (VE.ev ρ),T⟩=T.foldl (fun s t=>fop .add .f32 s (fop .quo .f32 (Z1W ((P.map (VE.ev ρ)).getD (t.getD 0 default).toNat default) (Z2g ((P.map (VE.ev ρ)).getD (t.getD 1 default).toNat default) ((P.map (VE.ev ρ)).getD (t.getD 2 default).toNat default))) 1086324736)) 0 :=
    X5Q (a:=T) (lo:=fun k s i=>Z1e ⟨P.map (VE.ev ρ),T⟩ k s i) (fun k s i=>rfl) 0
  have h2:∀ (T:List (List Int)) (e:FE),T.foldl (fun s t=>fop .add .f32 s (fop .quo .f32 (Z1W ((P.map (VE.ev ρ)).getD (t.getD 0 default).toNat default) (Z2g ((P.map (VE.ev ρ)).getD (t.getD 1 default).toNat default) ((P.map (VE.ev ρ)).getD (t.getD 2 default).toNat default))) 1086324736)) (e.ev ρ)=(T.foldl (fun s t => .add s (.div (Z77 (P.getD (t.getD 0 default).toNat default) (Z76 (P.getD (t.getD 1 default).toNat default) (P.getD (t.getD 2 default).toNat default))) 1086324736 6)) e).ev ρ:=by
    intro T
    induction T with
    | nil=>intro e;rfl
    | cons t T ih =>
      intro e
      rw [List.foldl_cons,List.foldl_cons,← ih]
      simp only [Z7D]
      rfl
  unfold Zp
  rw [h]
  exact h2 T (.lit 0 0)
def dw (x:Int):Nat:=fop .quo .f32 (X4 .f32 (IntKind.wrap .i64 (x - 4))) 1090519040
def okC (b:Nat) (x:Nat):Bool:=match vl (Ieee.single.read (fop .add .f32 b (dw (x:Int)))) with
  | some q=>decide (rq (bdOf b).lo≤q) && decide (q≤rq (bdOf b).hi)
  | none=>false
def Z3E (e:FE) (β:Nat→Bd) (n:Int):Bool:=match e.an β with
  | some b=>decide (b.e≤n)
  | none=>false
def okBd (e:FE) (β:Nat→Bd) (n m:Int):Bool:=match e.an β with
  | some b=>decide (b.e≤n) && decide (mx b≤m)
  | none=>false
def At (ρ:Nat→Nat) (η:Nat→Rat) (β:Nat→Bd):Prop:=∀ i,Vl .f32 (ρ i) (η i)∧rq (β i).lo≤η i∧η i≤rq (β i).hi
theorem Z66 {ρ:Nat→Nat} {η:Nat→Rat} {β:Nat→Bd} (h:At ρ η β) {e:FE} {n:Int} (hc:Z3E e β n=true):∃ q,Vl .f32 (e.ev ρ) q∧Nr q (e.xv η) (rq n):=by
  unfold Z3E at hc
  split at hc
  · rename_i b hb
    obtain ⟨_,_,_,q,V,N⟩:=anOk h hb
    have:=Xr (odt hc)
    unfold Nr at N
    exact ⟨q,V,by unfold Nr;grind⟩
  · cases hc
theorem Z78 {ρ:Nat→Nat} {η:Nat→Rat} {β:Nat→Bd} (h:At ρ η β) {e:FE} {n m:Int} (hc:okBd e β n m=true):(∃ q,Vl .f32 (e.ev ρ) q∧Nr q (e.xv η) (rq n))∧-rq m≤e.xv η∧e.xv η≤rq m:=by
  unfold okBd at hc
  split at hc
  · rename_i b hb
    rw [Bool.and_eq_true] at hc
    obtain ⟨_,b1,b2,q,V,N⟩:=anOk h hb
    have h1:=Xr (odt hc.1)
    have h2:=Xr (odt hc.2)
    have h3:=X2o b1 b2
    unfold Nr at N
    exact ⟨⟨q,V,by unfold Nr;grind⟩,by grind,by grind⟩
  · cases hc
def Mv (b v:Gv):Prop:=∃ x y z:Nat,x < 9∧y < 9∧z < 9∧v=⟨fop .add .f32 b.X (dw (x:Int)),fop .add .f32 b.Y (dw (y:Int)),fop .add .f32 b.Z (dw (z:Int))⟩
theorem Z79 {l:List Gv} {i:Nat} {v:Gv} (h:i < l.length):(l.set i v).getD i default=v:=by
  rw [List.getD_eq_getElem?_getD,List.getElem?_set_self h];rfl
theorem Z6J {l:List Gv} {i j:Nat} {v:Gv} (h:i≠j):(l.set i v).getD j default=l.getD j default:=by
  rw [List.getD_eq_getElem?_getD,List.getElem?_set_ne h,← List.getD_eq_getElem?_getD]
theorem Z6V (a:List Int) (ha:OkB a) (m:Gm) (hn:m.Pq.length≤1000):∀ (k:Nat) (i s1 s2:Int) (l:List Gv),0≤i→i≤(l.length:Int)→0≤s1→s1≤6 * i→((l.length:Int) - i).toNat < k→l.length=m.Pq.length →
    (∀ j,j < i.toNat→Mv (m.Pq.getD j default) (l.getD j default))→(∀ j,i.toNat≤j→l.getD j default=m.Pq.getD j default)→∀ j,j < m.Pq.length→Mv (m.Pq.getD j default) ((ZO a m k i s1 s2 l).2.2.getD j default):=by
  intro k
  induction k with
  | zero=>intro i s1 s2 l _ _ _ _ hk;exact absurd hk (Nat.not_lt_zero _)
  | succ k ih =>
    intro i s1 s2 l h0 hil hs1 hs2 hk hl hd hr j hj
    rw [ZO]
    by_cases hi:i < (l.length:Int)
    · rw [decide_eq_true hi,cond_true]
      have q1:=Z4p (⟨(Z5 a).code,s1,s2⟩:Gl00Src) 9 ⟨hs1,by show s1≤_;omega⟩
      have b1:=Z5Z (⟨(Z5 a).code,s1,s2⟩:Gl00Src) 9 ha hs1 (by omega) (by omega)
      generalize Z4 (⟨(Z5 a).code,s1,s2⟩:Gl00Src) 9=r1 at *
      have q1:s1≤r1.2.1∧r1.2.1≤s1 + 2:=q1
      have q2:=Z4p (⟨(Z5 a).code,r1.2.1,r1.2.2⟩:Gl00Src) 9 ⟨by show 0≤r1.2.1;omega,by show r1.2.1≤_;omega⟩
      have b2:=Z5Z (⟨(Z5 a).code,r1.2.1,r1.2.2⟩:Gl00Src) 9 ha (by show 0≤r1.2.1;omega) (by omega) (by omega)
      generalize Z4 (⟨(Z5 a).code,r1.2.1,r1.2.2⟩:Gl00Src) 9=r2 at *
      have q2:r1.2.1≤r2.2.1∧r2.2.1≤r1.2.1 + 2:=q2
      have q3:=Z4p (⟨(Z5 a).code,r2.2.1,r2.2.2⟩:Gl00Src) 9 ⟨by show 0≤r2.2.1;omega,by show r2.2.1≤_;omega⟩
      have b3:=Z5Z (⟨(Z5 a).code,r2.2.1,r2.2.2⟩:Gl00Src) 9 ha (by show 0≤r2.2.1;omega) (by omega) (by omega)
      generalize Z4 (⟨(Z5 a).code,r2.2.1,r2.2.2⟩:Gl00Src) 9=r3 at *
      have q3:r2.2.1≤r3.2.1∧r3.2.1≤r2.2.1 + 2:=q3
      refine ih (i + 1) _ _ _ (by omega) (by rw [List.length_set];omega) (by omega) (by omega) (by rw [List.length_set];omega) (by rw [List.length_set];exact hl) ?_ ?_ j hj
      · intro j' hj'
        by_cases hji:j'=i.toNat
        · subst hji
          have e:l.getD i.toNat default=m.Pq.getD i.toNat default:=hr _ (Nat.le_refl _)
          rw [Z79 (by omega),e]
          refine ⟨r1.1.toNat,r2.1.toNat,r3.1.toNat,by omega,by omega,by omega,?_⟩
          rw [Int.toNat_of_nonneg b1.1,Int.toNat_of_nonneg b2.1,Int.toNat_of_nonneg b3.1]
          rfl
        · rw [Z6J (fun h=>hji h.symm)]
          exact hd j' (by omega)
      · intro j' hj'
        rw [Z6J (by omega)]
        exact hr j' (by omega)
    · rw [decide_eq_false hi,cond_false]
      exact hd j (by omega)
theorem Z7j (a:List Int) (ha:OkB a) (m:Gm) (hn:m.Pq.length≤1000) {j:Nat} (hj:j < m.Pq.length):Mv (m.Pq.getD j default) ((Zf a m).Pq.getD j default) :=
  Z6V a ha m hn _ 0 _ _ _ (Int.le_refl 0) (by omega) (Int.le_refl 0) (Int.le_refl 0) (by omega) rfl (fun j h=>absurd h (Nat.not_lt_zero _)) (fun j _=>rfl) j hj
theorem Z7p {ρ:Nat→Nat} {β:Nat→Bd} (h:∀ i,∃ q,Vl .f32 (ρ i) q∧rq (β i).lo≤q∧q≤rq (β i).hi):At ρ (fun i=>(vl (Ieee.single.read (ρ i))).getD 0) β:=by
  intro i
  obtain ⟨q,V,h1,h2⟩:=h i
  have V':vl (Ieee.single.read (ρ i))=some q:=V
  simp only
  rw [V']
  exact ⟨V,h1,h2⟩
theorem Z7E {b x:Nat} (h:okC b x=true):∃ q,Vl .f32 (fop .add .f32 b (dw (x:Int))) q∧rq (bdOf b).lo≤q∧q≤rq (bdOf b).hi:=by
  unfold okC at h
  split at h
  · rename_i q hq
    rw [Bool.and_eq_true] at h
    exact ⟨q,hq,odt h.1,odt h.2⟩
  · cases h
def one':Iv:=⟨1073741824,1073741824⟩
def kI (k:Int):Iv:=⟨k * 1073741824,k * 1073741824⟩
def logS (u:Iv) (k:Int) (q:Iv):Option Iv:=match iquo one' (kI k) with
  | some c=>match imul u q with
    | some m=>iadd c m
    | none=>none
  | none=>none
def expT (t:Iv) (k:Int) (p:Iv):Option Iv:=match imul t p with
  | some m=>match iquo m (kI k) with
    | some c=>iadd one' c
    | none=>none
  | none=>none
def logQ (u:Iv):Nat→Iv→Option Iv
  | 0,q=>some q
  | j + 1,q=>match logS u (2 * ((j + 1:Nat):Int) - 1) q with
    | some r=>logQ u j r
    | none=>none
def expP (t:Iv):Nat→Iv→Option Iv
  | 0,p=>some p
  | j + 1,p=>match expT t ((j + 1:Nat):Int) p with
    | some r=>expP t j r
    | none=>none
def expS:Nat→Iv→Option Iv
  | 0,p=>some p
  | j + 1,p=>match imul p p with
    | some r=>expS j r
    | none=>none
def logI (Y:Iv):Option Iv:=match isub Y one',iadd Y one' with
  | some a,some b=>match iquo a b with
    | some s=>match imul s s with
      | some u=>cond (decide (-2≤u.lo) && decide (u.hi≤107374182)) (match logQ u 4 ⟨0,1288490188⟩ with
        | some q=>match imul s q with
          | some m=>imul (kI 2) m
          | none=>none
        | none=>none) none
      | none=>none
    | none=>none
  | _,_=>none
def ln2I:Iv:=⟨744261117,744261118⟩
def expI (m:Iv) (e:Int):Option Iv:=match imul (kI e) ln2I with
  | some n=>match iadd m n with
    | some l=>match inar l with
      | some l=>match X7r l with
        | some x=>match iquo x (kI 256) with
          | some t=>cond (decide (-21474836≤t.lo) && decide (t.hi≤21474836)) (match expP t 3 ⟨1052266987,1095216661⟩ with
            | some p=>match expS 8 p with
              | some z=>inar z
              | none=>none
            | none=>none) none
          | none=>none
        | none=>none
      | none=>none
    | none=>none
  | none=>none
def YI (j:Nat):Iv:=⟨(j:Int) * 4194304,((j:Int) + 1) * 4194304⟩
def chI (Y m:Iv) (i:Nat):Bool:=match expI m ((i:Int) - 7) with
  | some s=>decide (0 < s.lo) && (decide (994 * Y.hi * 2 ^ i * 1152921504606846976≤128000 * (s.lo * s.lo * s.lo)) && decide (128000 * (s.hi * s.hi * s.hi)≤1006 * Y.lo * 2 ^ i * 1152921504606846976))
  | none=>false
def chY (Y:Iv):Bool:=match logI Y with
  | some m=>(List.range 12).all fun i=>chI Y m i
  | none=>false
def chJ (j:Nat):Bool:=chY (YI j)
set_option maxHeartbeats 1000000 in
theorem In.sub {w:Nat} {I J:Iv} (h:In w I) (h1:J.lo≤I.lo) (h2:I.hi≤J.hi):In w J:=by
  obtain ⟨q,V,a,b⟩:=h
  have:=Xr h1
  have:=Xr h2
  exact ⟨q,V,by grind,by grind⟩
theorem rq_k (k:Int):rq (k * 1073741824)=(k:Rat):=by
  unfold rq
  rw [Rat.intCast_mul]
  have e:((1073741824:Int):Rat)=1073741824:=by decide +kernel
  rw [e];grind
theorem Z5k:In 4607182418800017408 one':=⟨1,cOne,by show rq 1073741824≤1;unfold rq;decide +kernel,by show 1≤rq 1073741824;unfold rq;decide +kernel⟩
theorem Z87:In 4611686018427387904 (kI 2):=⟨2,cTwo,by show rq (2 * 1073741824)≤2;unfold rq;decide +kernel,by show 2≤rq (2 * 1073741824);unfold rq;decide +kernel⟩
theorem Z7F:In 4643211215818981376 (kI 256):=⟨256,c256,by show rq (256 * 1073741824)≤256;unfold rq;decide +kernel,by show 256≤rq (256 * 1073741824);unfold rq;decide +kernel⟩
theorem Z88:In 4604418534313441775 ln2I:=⟨_,cLn2,by show rq 744261117≤_;unfold rq;decide +kernel,by show _≤rq 744261118;unfold rq;decide +kernel⟩
theorem Z6W (k:Int) (h1:-600≤k) (h2:k≤600):In (X4 .f64 k) (kI k):=⟨k,X4E k h1 h2,by show rq (k * 1073741824)≤_;rw [rq_k];exact Rat.le_refl,by show _≤rq (k * 1073741824);rw [rq_k];exact Rat.le_refl⟩
def I0:Iv:=⟨0,1288490188⟩
def U0:Iv:=⟨-2,107374182⟩
def P0:Iv:=⟨1052266987,1095216661⟩
def T0:Iv:=⟨-21474836,21474836⟩
theorem Z6K {u q:Nat} {U Q R:Iv} {k:Int} (hu:In u U) (hq:In q Q) (h1:-600≤k) (h2:k≤600) (h:logS U k Q=some R):In (fop .add .f64 (fop .quo .f64 4607182418800017408 (X4 .f64 k)) (fop .mul .f64 u q)) R:=by
  unfold logS at h
  split at h
  · rename_i c hc
    split at h
    · rename_i m hm
      exact X6e (X6f Z5k (Z6W k h1 h2) hc) (X3H hu hq hm) h
    · cases h
  · cases h
theorem Z6L {t p:Nat} {T Q R:Iv} {k:Int} (ht:In t T) (hp:In p Q) (h1:-600≤k) (h2:k≤600) (h:expT T k Q=some R):In (fop .add .f64 4607182418800017408 (fop .quo .f64 (fop .mul .f64 t p) (X4 .f64 k))) R:=by
  unfold expT at h
  split at h
  · rename_i m hm
    split at h
    · rename_i c hc
      exact X6e Z5k (X6f (X3H ht hp hm) (Z6W k h1 h2) hc) h
    · cases h
  · cases h
def subB (o:Option Iv) (J:Iv):Bool:=match o with
  | some I=>decide (J.lo≤I.lo) && decide (I.hi≤J.hi)
  | none=>false
theorem Z6r {o:Option Iv} {J:Iv} (h:subB o J=true):∃ I,o=some I∧J.lo≤I.lo∧I.hi≤J.hi:=by
  unfold subB at h
  split at h
  · rename_i I
    rw [Bool.and_eq_true] at h
    exact ⟨I,rfl,odt h.1,odt h.2⟩
  · cases h
theorem Z7G:((List.range 9).all fun d=>subB (logS U0 (2 * ((d + 5:Nat):Int) - 1) I0) I0)=true:=by decide +kernel
theorem Z7H:((List.range 9).all fun d=>subB (expT T0 ((d + 4:Nat):Int) P0) P0)=true:=by decide +kernel
theorem Z6X {y:Nat} (hu:In (fop .mul .f64 (fop .quo .f64 (fop .sub .f64 ((Ze y).1) 4607182418800017408) (fop .add .f64 ((Ze y).1) 4607182418800017408)) (fop .quo .f64 (fop .sub .f64 ((Ze y).1) 4607182418800017408) (fop .add .f64 ((Ze y).1) 4607182418800017408))) U0):∀ (d n w:Nat),d≤9→4 + d < n→In w I0→∃ n' w',4 < n'∧In w' I0∧ZS y n w (2 * ((d + 4:Nat):Int) - 1)=ZS y n' w' (2 * ((4:Nat):Int) - 1):=by
  intro d
  induction d with
  | zero=>intro n w _ hn hw;exact ⟨n,w,hn,hw,rfl⟩
  | succ d ih =>
    intro n w hd hn hw
    obtain ⟨n,rfl⟩:∃ k,n=k + 1:=⟨n - 1,by omega⟩
    obtain ⟨I,e,i1,i2⟩:=Z6r (List.all_eq_true.1 Z7G d (List.mem_range.2 (by omega)))
    have hs:=(Z6K hu hw (by omega) (by omega) e).sub i1 i2
    obtain ⟨n',w',a,b,c⟩:=ih n _ (by omega) (by omega) hs
    refine ⟨n',w',a,b,?_⟩
    rw [ZS,decide_eq_true (by omega),cond_true,← c]
    congr 1
    omega
theorem Z7I {y:Nat} {U:Iv} (hu:In (fop .mul .f64 (fop .quo .f64 (fop .sub .f64 ((Ze y).1) 4607182418800017408) (fop .add .f64 ((Ze y).1) 4607182418800017408)) (fop .quo .f64 (fop .sub .f64 ((Ze y).1) 4607182418800017408) (fop .add .f64 ((Ze y).1) 4607182418800017408))) U):∀ (j n w:Nat) (Q R:Iv),j≤13→j < n→In w Q→logQ U j Q=some R→In (ZS y n w (2 * (j:Int) - 1)) R:=by
  intro j
  induction j with
  | zero =>
    intro n w Q R _ hn hw h
    obtain ⟨n,rfl⟩:∃ k,n=k + 1:=⟨n - 1,by omega⟩
    rw [ZS,decide_eq_false (by omega),cond_false]
    cases h;exact hw
  | succ j ih =>
    intro n w Q R hj hn hw h
    obtain ⟨n,rfl⟩:∃ k,n=k + 1:=⟨n - 1,by omega⟩
    rw [ZS,decide_eq_true (by omega),cond_true,show 2 * ((j + 1:Nat):Int) - 1 - 2=2 * (j:Int) - 1 from by omega]
    have h:(match logS U (2 * ((j + 1:Nat):Int) - 1) Q with | some r=>logQ U j r | none=>none)=some R:=h
    split at h
    · rename_i r hr
      exact ih n _ r R (by omega) (by omega) (Z6K hu hw (by omega) (by omega) hr) h
    · cases h
theorem Z6Y {y:Nat} (ht:In (fop .quo .f64 y 4643211215818981376) T0):∀ (d n w:Nat),d≤9→3 + d < n→In w P0→∃ n' w',3 < n'∧In w' P0∧ZT y n w ((d + 3:Nat):Int)=ZT y n' w' ((3:Nat):Int):=by
  intro d
  induction d with
  | zero=>intro n w _ hn hw;exact ⟨n,w,hn,hw,rfl⟩
  | succ d ih =>
    intro n w hd hn hw
    obtain ⟨n,rfl⟩:∃ k,n=k + 1:=⟨n - 1,by omega⟩
    obtain ⟨I,e,i1,i2⟩:=Z6r (List.all_eq_true.1 Z7H d (List.mem_range.2 (by omega)))
    have hs:=(Z6L ht hw (by omega) (by omega) e).sub i1 i2
    obtain ⟨n',w',a,b,c⟩:=ih n _ (by omega) (by omega) hs
    refine ⟨n',w',a,b,?_⟩
    rw [ZT,decide_eq_true (by omega),cond_true,← c]
    congr 1
    omega
theorem Z7J {y:Nat} {T:Iv} (ht:In (fop .quo .f64 y 4643211215818981376) T):∀ (j n w:Nat) (Q R:Iv),j≤12→j < n→In w Q→expP T j Q=some R→In (ZT y n w (j:Int)) R:=by
  intro j
  induction j with
  | zero =>
    intro n w Q R _ hn hw h
    obtain ⟨n,rfl⟩:∃ k,n=k + 1:=⟨n - 1,by omega⟩
    rw [ZT,decide_eq_false (by omega),cond_false]
    cases h;exact hw
  | succ j ih =>
    intro n w Q R hj hn hw h
    obtain ⟨n,rfl⟩:∃ k,n=k + 1:=⟨n - 1,by omega⟩
    rw [ZT,decide_eq_true (by omega),cond_true,show ((j + 1:Nat):Int) - 1=(j:Int) from by omega]
    have h:(match expT T ((j + 1:Nat):Int) Q with | some r=>expP T j r | none=>none)=some R:=h
    split at h
    · rename_i r hr
      exact ih n _ r R (by omega) (by omega) (Z6L ht hw (by omega) (by omega) hr) h
    · cases h
theorem Z7K (y:Nat):∀ (j n w:Nat) (Q R:Iv),j≤8→j < n→In w Q→expS j Q=some R→In (Z1b y n w (8 - (j:Int))) R:=by
  intro j
  induction j with
  | zero =>
    intro n w Q R _ hn hw h
    obtain ⟨n,rfl⟩:∃ k,n=k + 1:=⟨n - 1,by omega⟩
    rw [Z1b,decide_eq_false (by omega),cond_false]
    cases h;exact hw
  | succ j ih =>
    intro n w Q R hj hn hw h
    obtain ⟨n,rfl⟩:∃ k,n=k + 1:=⟨n - 1,by omega⟩
    rw [Z1b,decide_eq_true (by omega),cond_true,show 8 - ((j + 1:Nat):Int) + 1=8 - (j:Int) from by omega]
    unfold expS at h
    split at h
    · rename_i r hr
      exact ih n _ r R (by omega) (by omega) (X3H hw hw hr) h
    · cases h
theorem Z6s {x:Nat} {v:Rat} (hv:Vl .f32 x v):ZE x=true:=by
  have z:Vl .f32 0 0:=by unfold Vl;decide +kernel
  unfold ZE
  rw [eqlV (X5O hv) z];rfl
theorem Z67 {x:Nat} {v:Rat} (hv:Vl .f32 x v) (h:0 < v):Zl x=fcv .f64 .f32 (Z1k (fcv .f32 .f64 x))∧Nw (fcv .f32 .f64 x)∧800≤fld (fcv .f32 .f64 x)∧fld (fcv .f32 .f64 x)≤1200:=by
  have z:Vl .f32 0 0:=by unfold Vl;decide +kernel
  have n2:fcmp .neq .f32 x x=false:=by
    have e:fcmp .neq .f32 x x=!(fcmp .eql .f32 x x):=rfl
    rw [e,eqlV hv hv,decide_eq_true rfl];rfl
  have i3:=Z6s hv
  have a0:fcmp .eql .f32 x 0=false:=by rw [eqlV hv z];exact decide_eq_false (by grind)
  have a1:fcmp .lss .f32 x 0=false:=by rw [lssV hv z];exact decide_eq_false (by grind)
  refine ⟨by unfold Zl;rw [a0,cond_false,a1,cond_false,n2,cond_false,i3,cond_true],?_⟩
  exact X4d (X2j a0 a1 i3) i3
theorem Z7L {t:Nat} {v:Rat} (ht:Vl .f32 t v) (h:0 < v):ZE (ZW (fop .quo .f32 (Zl t) 1077936128))=true:=by
  obtain ⟨e,a,b,c⟩:=Z67 ht h
  obtain ⟨r,r1,r2,r3⟩:=Z4D _ a b c
  rw [← Z2K _ a b c] at r1
  obtain ⟨q,q1,q2,q3⟩:=X2X r1 r2 r3
  rw [← e] at q1
  obtain ⟨x,x1,x2,x3⟩:=X8D q1 q2 q3
  obtain ⟨w1,z,z1,z2,z3⟩:=Z3Z (XI x1) x2 x3
  unfold ZW Z1Z
  rw [Z4R (.inl ⟨x,x1,x2,x3⟩),w1]
  obtain ⟨y,y1,-⟩:=X3d z1 (B:=50000000000000000000000000000000) (by grind) (by grind) (by decide +kernel)
  exact Z6s y1
theorem Z7k {y:Nat} {a:Rat} (hw:Nw y) (g:1023≤fld y) (hv:Vl .f64 y a):Vl .f64 (y - 4503599627370496) (a / 2):=by
  obtain ⟨w1,w2⟩:=X1y hw g
  have h1:=X1K hw
  have h2:=X1K w1
  have ea:=X10 h1 hv
  rw [w2,show (y - 4503599627370496) % 4503599627370496=y % 4503599627370496 from by have:=hw.1;omega] at h2
  have ee:(-1074 + ((fld y - 1:Nat):Int))=(-1074 + ((fld y - 1 - 1:Nat):Int)) + 1:=by omega
  rw [ee,X9,Rat.zpow_one] at ea
  have e2:a / 2=((4503599627370496 + y % 4503599627370496:Nat):Rat) * (2:Rat)^(-1074 + ((fld y - 1 - 1:Nat):Int)):=by rw [← ea];grind
  rw [e2];exact h2
theorem Z7M {y:Nat} {a:Rat} (hw:Nw y) (g:fld y≤1022) (hv:Vl .f64 y a):Vl .f64 (y + 4503599627370496) (a * 2):=by
  obtain ⟨w1,w2⟩:=X2u hw g
  have h1:=X1K hw
  have h2:=X1K w1
  have ea:=X10 h1 hv
  have hf:1≤fld y:=by unfold fld;have:=hw.1;omega
  rw [w2,show (y + 4503599627370496) % 4503599627370496=y % 4503599627370496 from by omega] at h2
  have ee:(-1074 + ((fld y + 1 - 1:Nat):Int))=(-1074 + ((fld y - 1:Nat):Int)) + 1:=by omega
  rw [ee,X9,Rat.zpow_one] at h2
  have e2:a * 2=((4503599627370496 + y % 4503599627370496:Nat):Rat) * ((2:Rat)^(-1074 + ((fld y - 1:Nat):Int)) * 2):=by rw [← ea];grind
  rw [e2];exact h2
theorem Z6M (e:Int):(2:Rat)^(e + 1)=(2:Rat)^e * 2:=by rw [X9,Rat.zpow_one]
theorem lv1 (y0:Nat):∀ (k y:Nat) (e:Int) (a:Rat),fld y < k→Nw y→Vl .f64 y a→∃ a',Vl .f64 (ZK y0 k y e).1 a'∧a' < 3 / 2∧a' * (2:Rat)^(ZK y0 k y e).2=a * (2:Rat)^e:=by
  intro k
  induction k with
  | zero=>intro y e a hk;exact absurd hk (Nat.not_lt_zero _)
  | succ k ih =>
    intro y e a hk hw hv
    rw [ZK]
    cases h:fcmp .geq .f64 y 4609434218613702656 with
    | false =>
      rw [cond_false]
      have h':=h
      rw [geqV hv c150] at h'
      have h':=odf h'
      exact ⟨a,hv,by grind,rfl⟩
    | true =>
      have g:=X1Y hw h
      have w:=X1y hw g
      rw [cond_true,X1X hw (by omega)]
      obtain ⟨a',h1,h2,h3⟩:=ih (y - 4503599627370496) (e + 1) (a / 2) (by omega) w.1 (Z7k hw g hv)
      refine ⟨a',h1,h2,?_⟩
      rw [h3,Z6M];grind
theorem lv2 (y0:Nat):∀ (k y:Nat) (e:Int) (a:Rat),1023 - fld y < k→Nw y→fld y≤1023→Vl .f64 y a→a < 3 / 2→∃ a',Vl .f64 (ZP y0 k y e).1 a'∧3 / 4≤a'∧a' < 3 / 2∧a' * (2:Rat)^(ZP y0 k y e).2=a * (2:Rat)^e:=by
  intro k
  induction k with
  | zero=>intro y e a hk;exact absurd hk (Nat.not_lt_zero _)
  | succ k ih =>
    intro y e a hk hw hl hv ha
    rw [ZP]
    cases h:fcmp .lss .f64 y 4604930618986332160 with
    | false =>
      rw [cond_false]
      have h':=h
      rw [lssV hv c075] at h'
      have h':=odf h'
      exact ⟨a,hv,by grind,ha,rfl⟩
    | true =>
      have g:=X2i hw h
      have w:=X2u hw g
      have h':=h
      rw [lssV hv c075] at h'
      have h':=odt h'
      rw [cond_true,X2V hw (by omega)]
      obtain ⟨a',h1,h2,h3,h4⟩:=ih (y + 4503599627370496) (e - 1) (a * 2) (by omega) w.1 (by omega) (Z7M hw g hv) (by grind)
      refine ⟨a',h1,h2,h3,?_⟩
      have hz:(2:Rat)^e=(2:Rat)^(e - 1) * 2:=by rw [← Z6M];congr 1;omega
      rw [h4,hz];grind
theorem Z8F {y:Nat} {v:Rat} (hw:Nw y) (hv:Vl .f64 y v):∃ a,Vl .f64 (Ze y).1 a∧3 / 4≤a∧a < 3 / 2∧a * (2:Rat)^(Ze y).2=v:=by
  obtain ⟨b1,b2,b3⟩:=Z62 y hw
  obtain ⟨a,h1,h2,h3⟩:=lv1 y (fld y + 1) y 0 v (Nat.lt_succ_self _) hw hv
  obtain ⟨a',g1,g2,g3,g4⟩:=lv2 y (1023 - fld (Zu y).1 + 1) (Zu y).1 (Zu y).2 a (Nat.lt_succ_self _) b1 b3 h1 h2
  refine ⟨a',g1,g2,g3,?_⟩
  have h3:a * (2:Rat)^(Zu y).2=v * (2:Rat)^(0:Int):=h3
  rw [h3] at g4
  have z:(2:Rat)^(0:Int)=1:=by decide +kernel
  rw [z,Rat.mul_one] at g4
  exact g4
theorem Z8G {y:Nat} {Y M:Iv} (hY:In (Ze y).1 Y) (h:logI Y=some M):In (fop .mul .f64 4611686018427387904 (fop .mul .f64 (fop .quo .f64 (fop .sub .f64 ((Ze y).1) 4607182418800017408) (fop .add .f64 ((Ze y).1) 4607182418800017408)) (Z1z y))) M:=by
  unfold logI at h
  split at h
  · rename_i a b ha hb
    split at h
    · rename_i s hs
      split at h
      · rename_i u hu
        have qs:=X6f (Xb3 hY Z5k ha) (X6e hY Z5k hb) hs
        have qu:=X3H qs qs hu
        cases hc:(decide (-2≤u.lo) && decide (u.hi≤107374182)) with
        | false=>rw [hc] at h;cases h
        | true =>
          rw [hc,cond_true] at h
          rw [Bool.and_eq_true] at hc
          split at h
          · rename_i q hq
            split at h
            · rename_i m hm
              have z:In 0 I0:=⟨0,by unfold Vl;decide +kernel,by show rq 0≤0;unfold rq;decide +kernel,by show 0≤rq 1288490188;unfold rq;decide +kernel⟩
              obtain ⟨n',w',n1,n2,n3⟩:=Z6X (y:=y) (qu.sub (J:=U0) (odt hc.1) (odt hc.2)) 9 ((25 + 1:Int).toNat + y + 1) 0 (by omega) (by omega) z
              have r:=Z7I (y:=y) qu 4 n' w' _ _ (by omega) n1 n2 hq
              rw [← n3] at r
              exact X3H Z87 (X3H qs r hm) h
            · cases h
          · cases h
      · cases h
    · cases h
  · cases h
theorem Z8H {M S:Iv} {w:Nat} {e:Int} (he:-600≤e) (he2:e≤600) (hm:In w M) (hx:X1E (fop .quo .f32 (fcv .f64 .f32 (fop .add .f64 w (fop .mul .f64 (X4 .f64 e) 4604418534313441775))) 1077936128))
    (h:expI M e=some S):In32 (ZW (fop .quo .f32 (fcv .f64 .f32 (fop .add .f64 w (fop .mul .f64 (X4 .f64 e) 4604418534313441775))) 1077936128)) S:=by
  unfold expI at h
  split at h
  · rename_i n hn
    split at h
    · rename_i l hl
      split at h
      · rename_i l2 hl2
        split at h
        · rename_i x1 hx1
          split at h
          · rename_i t ht
            cases hc:(decide (-21474836≤t.lo) && decide (t.hi≤21474836)) with
            | false=>rw [hc] at h;cases h
            | true =>
              rw [hc,cond_true] at h
              rw [Bool.and_eq_true] at hc
              split at h
              · rename_i p hp
                split at h
                · rename_i z hz
                  have q1:=Xa0 (X6e hm (X3H (Z6W e he he2) Z88 hn) hl) hl2
                  have q2:=Xaq q1 hx1
                  generalize hX:fop .quo .f32 (fcv .f64 .f32 (fop .add .f64 w (fop .mul .f64 (X4 .f64 e) 4604418534313441775))) 1077936128=X at *
                  have q3:=X6f (XaO q2) Z7F ht
                  have one0:In 4607182418800017408 P0:=Z5k.sub (by decide) (by decide)
                  obtain ⟨n',w',n1,n2,n3⟩:=Z6Y (y:=fcv .f32 .f64 X) (q3.sub (J:=T0) (odt hc.1) (odt hc.2)) 9 ((12:Int).toNat + fcv .f32 .f64 X + 1) 4607182418800017408 (by omega) (by omega) one0
                  have r:=Z7J (y:=fcv .f32 .f64 X) q3 3 n' w' _ _ (by omega) n1 n2 hp
                  rw [← n3] at r
                  have r2:=Z7K (fcv .f32 .f64 X) 8 ((8 - 0:Int).toNat + fcv .f32 .f64 X + 1) _ _ _ (by omega) (by omega) r hz
                  have hE:Z1n (fcv .f32 .f64 X)=Z1J (fcv .f32 .f64 X):=by
                    rw [Z4R hx]
                    obtain ⟨xq,xv,-,-⟩:=q2
                    rcases hx with ⟨r',g1,g2,g3⟩ | g | g | g
                    · exact (Z3Z (XI g1) g2 g3).1
                    · exfalso;rw [g] at xv;unfold Vl at xv;have hn:vl (FloatKind.f32.format.read 2139095040)=none:=(by decide +kernel);rw [hn] at xv;cases xv
                    · exfalso;rw [g] at xv;unfold Vl at xv;have hn:vl (FloatKind.f32.format.read 4286578688)=none:=(by decide +kernel);rw [hn] at xv;cases xv
                    · exfalso;rw [g] at xv;unfold Vl at xv;have hn:vl (FloatKind.f32.format.read (Xn .f32))=none:=(by decide +kernel);rw [hn] at xv;cases xv
                  unfold ZW Z1Z
                  rw [hE]
                  exact Xa0 r2 h
                · cases h
              · cases h
          · cases h
        · cases h
      · cases h
    · cases h
  · cases h
theorem Z8I (x:Rat) (h0:0≤x):∀ N:Nat,x < (N:Rat)→∃ j:Nat,j < N∧(j:Rat)≤x∧x < ((j + 1:Nat):Rat):=by
  intro N
  induction N with
  | zero=>intro h;exfalso;have:((0:Nat):Rat)=0:=rfl;rw [this] at h;grind
  | succ N ih =>
    intro h
    by_cases hN:x < (N:Rat)
    · obtain ⟨j,h1,h2,h3⟩:=ih hN
      exact ⟨j,by omega,h2,h3⟩
    · exact ⟨N,by omega,by grind,h⟩
theorem rq_Y (j:Int):rq (j * 4194304)=(j:Rat) / 256:=by
  unfold rq
  rw [Rat.intCast_mul]
  have e:((4194304:Int):Rat)=4194304:=by decide +kernel
  rw [e];grind
theorem Z6c {a b:Rat} (h0:0≤a) (h:a≤b):a * a * a≤b * b * b:=by
  have h1:=X19 h0 h
  have h2:=Rat.mul_le_mul_of_nonneg_right h1 h0
  have h3:=Rat.mul_le_mul_of_nonneg_left h (X56 b)
  grind
theorem zp_nat' (i:Nat):(2:Rat)^((i:Int) - 7)=((2 ^ i:Nat):Rat) / 128:=by
  rw [show (i:Int) - 7=(i:Int) + (-7) from rfl,X9,XB]
  have:(2:Rat)^(-7:Int)=1 / 128:=by decide +kernel
  rw [this];grind
theorem Z68 (a:Int):rq a * rq a * rq a=((a * a * a:Int):Rat) / 1237940039285380274899124224:=by
  unfold rq
  rw [Rat.intCast_mul,Rat.intCast_mul]
  generalize ((a:Int):Rat)=A
  have e:A / 1073741824 * (A / 1073741824) * (A / 1073741824)=A * A * A / 1073741824 / 1073741824 / 1073741824:=by grind
  rw [e];grind
theorem Z6Z {t:Nat} {v:Rat} (ht:Vl .f32 t v) (h:0 < v):X1E (fop .quo .f32 (Zl t) 1077936128):=by
  obtain ⟨e,a,b,c⟩:=Z67 ht h
  obtain ⟨r,r1,r2,r3⟩:=Z4D _ a b c
  rw [← Z2K _ a b c] at r1
  obtain ⟨q,q1,q2,q3⟩:=X2X r1 r2 r3
  rw [← e] at q1
  exact .inl (X8D q1 q2 q3)
theorem Z7N {Y:Iv} {i:Nat} (hi:i < 12) (h:chY Y=true):∃ m s,logI Y=some m∧expI m ((i:Int) - 7)=some s∧0 < s.lo∧994 * Y.hi * 2 ^ i * 1152921504606846976≤128000 * (s.lo * s.lo * s.lo)∧128000 * (s.hi * s.hi * s.hi)≤1006 * Y.lo * 2 ^ i * 1152921504606846976:=by
  unfold chY at h
  split at h
  · rename_i m hm
    have h2:=List.all_eq_true.1 h i (List.mem_range.2 hi)
    unfold chI at h2
    split at h2
    · rename_i s hs
      simp only [Bool.and_eq_true,decide_eq_true_eq] at h2
      exact ⟨m,s,hm,hs,h2⟩
    · cases h2
  · cases h
theorem Z89 {a τ σ:Rat} {Y:Iv} {i:Nat} {s:Iv} (s0:0 < s.lo) (s1:994 * Y.hi * 2 ^ i * 1152921504606846976≤128000 * (s.lo * s.lo * s.lo)) (hY:a≤rq Y.hi) (ha:a * (((2 ^ i:Nat):Rat) / 128)=τ) (t1:rq s.lo≤σ):994 / 1000 * τ≤σ * σ * σ:=by
  have Z0:(0:Rat)≤((2 ^ i:Nat):Rat):=Rat.natCast_nonneg
  have c60:((1152921504606846976:Int):Rat)=1152921504606846976:=by decide +kernel
  have c994:((994:Int):Rat)=994:=by decide +kernel
  have c128:((128000:Int):Rat)=128000:=by decide +kernel
  have c2i:((2 ^ i:Int):Rat)=((2 ^ i:Nat):Rat):=by rw [← Rat.intCast_natCast,Int.natCast_pow];rfl
  have g:=Z6c (Rat.le_of_lt (X42 s0)) t1
  have hl:=Z68 s.lo
  generalize s.lo * s.lo * s.lo=c at *
  generalize Y.hi=H at *
  have q1:=Rat.intCast_le_intCast.2 s1
  have y2:=Rat.mul_le_mul_of_nonneg_right hY Z0
  unfold rq at y2
  rw [Rat.intCast_mul 128000,Rat.intCast_mul (994 * H * 2 ^ i),Rat.intCast_mul (994 * H),Rat.intCast_mul 994,c60,c994,c128,c2i] at q1
  refine Rat.le_trans ?_ g
  rw [hl,← ha]
  generalize ((c:Int):Rat)=C at *
  generalize ((H:Int):Rat)=G at *
  generalize ((2 ^ i:Nat):Rat)=Z at *
  grind
theorem Z8a {a τ σ:Rat} {Y:Iv} {i:Nat} {s:Iv} (σ0:0≤σ) (s2:128000 * (s.hi * s.hi * s.hi)≤1006 * Y.lo * 2 ^ i * 1152921504606846976) (hY:rq Y.lo≤a) (ha:a * (((2 ^ i:Nat):Rat) / 128)=τ) (t2:σ≤rq s.hi):σ * σ * σ≤1006 / 1000 * τ:=by
  have Z0:(0:Rat)≤((2 ^ i:Nat):Rat):=Rat.natCast_nonneg
  have c60:((1152921504606846976:Int):Rat)=1152921504606846976:=by decide +kernel
  have c1006:((1006:Int):Rat)=1006:=by decide +kernel
  have c128:((128000:Int):Rat)=128000:=by decide +kernel
  have c2i:((2 ^ i:Int):Rat)=((2 ^ i:Nat):Rat):=by rw [← Rat.intCast_natCast,Int.natCast_pow];rfl
  have g:=Z6c σ0 t2
  have hl:=Z68 s.hi
  generalize s.hi * s.hi * s.hi=c at *
  generalize Y.lo=H at *
  have q1:=Rat.intCast_le_intCast.2 s2
  have y2:=Rat.mul_le_mul_of_nonneg_right hY Z0
  unfold rq at y2
  rw [Rat.intCast_mul 128000,Rat.intCast_mul (1006 * H * 2 ^ i),Rat.intCast_mul (1006 * H),Rat.intCast_mul 1006,c60,c1006,c128,c2i] at q1
  refine Rat.le_trans g ?_
  rw [hl,← ha]
  generalize ((c:Int):Rat)=C at *
  generalize ((H:Int):Rat)=G at *
  generalize ((2 ^ i:Nat):Rat)=Z at *
  grind
theorem Z8J {t:Nat} {τ:Rat} (ht:Vl .f32 t τ) (h1:1 / 170≤τ) (h2:τ≤17) (tab:∀ j,192≤j→j < 384→chJ j=true) :
    ∃ σ,Vl .f32 (ZW (fop .quo .f32 (Zl t) 1077936128)) σ∧0 < σ∧994 / 1000 * τ≤σ * σ * σ∧σ * σ * σ≤1006 / 1000 * τ:=by
  obtain ⟨el,n1,n2,n3⟩:=Z67 ht (by grind)
  obtain ⟨a,va,a1,a2,a3⟩:=Z8F n1 (XI ht)
  have en:=Z2K _ n1 n2 n3
  generalize hy:fcv .f32 .f64 t=y at *
  have hp:=Xd (Ze y).2
  have lo:-8 < (Ze y).2:=by
    refine X6a ?_
    have e8:(2:Rat)^(-8:Int)=1 / 256:=by decide +kernel
    rw [e8]
    generalize (2:Rat)^(Ze y).2=z at *
    have:=Rat.mul_lt_mul_of_pos_right a2 hp
    grind
  have hi:(Ze y).2 < 5:=by
    refine X6a ?_
    have e5:(2:Rat)^(5:Int)=32:=by decide +kernel
    rw [e5]
    generalize (2:Rat)^(Ze y).2=z at *
    have:=Rat.mul_le_mul_of_nonneg_right a1 (Rat.le_of_lt hp)
    grind
  obtain ⟨i,hi1⟩:∃ i:Nat,(Ze y).2=(i:Int) - 7:=⟨((Ze y).2 + 7).toNat,by omega⟩
  obtain ⟨j,j1,j2,j3⟩:=Z8I (a * 256) (by grind) 384 (by have:((384:Nat):Rat)=384:=rfl;rw [this];grind)
  have hj:192≤j:=by
    refine Nat.not_lt.1 fun hl => ?_
    have h:((j + 1:Nat):Rat)≤((192:Nat):Rat):=X41 (by omega)
    have e:((192:Nat):Rat)=192:=rfl
    rw [e] at h
    grind
  have hY:In (Ze y).1 (YI j):=by
    refine ⟨a,va,?_,?_⟩
    · show rq ((j:Int) * 4194304)≤a
      rw [rq_Y,Rat.intCast_natCast];grind
    · show a≤rq (((j:Int) + 1) * 4194304)
      rw [rq_Y,show (j:Int) + 1=((j + 1:Nat):Int) from rfl,Rat.intCast_natCast];grind
  obtain ⟨m,s,hm,hs,s0,s1,s2⟩:=Z7N (Y:=YI j) (i:=i) (by omega) (by have q:=tab j hj j1;unfold chJ at q;exact q)
  have hm2:=Z8G hY hm
  have hx:X1E (fop .quo .f32 (Zl t) 1077936128):=Z6Z ht (by grind)
  rw [el,en,hi1] at hx ⊢
  rw [hi1,zp_nat'] at a3
  obtain ⟨σ,vs,t1,t2⟩:=Z8H (by omega) (by omega) hm2 hx hs
  have hYl:rq (YI j).lo≤a∧a≤rq (YI j).hi:=hY.elim fun q hq=>by rw [X10 va hq.1];exact hq.2
  have σ0:0 < σ:=by have:=X42 s0;grind
  exact ⟨σ,vs,σ0,Z89 s0 s1 hYl.2 a3 t1,Z8a (Rat.le_of_lt σ0) s2 hYl.1 a3 t2⟩
def Z2z (P:List VE) (c:VE) (s:FE):List VE:=P.map fun v=>sAdd c (sMul (Z8E v c) s)
def sCen (P:List VE) (r:FE):VE:=sMul (sSum P) r
def cV (n:Nat):VE:=⟨.var (3 * n), .var (3 * n + 1), .var (3 * n + 2)⟩
def bv (l:List Gv) (L H S:Int) (i:Nat):Bd:=if i < 3 * l.length then bdOf (crd l i) else if i < 3 * l.length + 3 then ⟨L,H,0⟩ else ⟨0,S,0⟩
def cubS (w:Nat):Int:=([1077309102,1357324414,1553748588,1710121600,1842172649,1957600551,2060818172,2154618201,2240893232,2320992097,2395913990,2466422141,2533114256,2596468194,2656872710,2714648825]:List Int).getD w 0
def okG (b:Nat) (x:Nat):Bool:=match vl (Ieee.single.read (fop .add .f32 b (dw (x:Int)))) with
  | some q=>decide (((q * 16777216).num:Rat)=q * 16777216)
  | none=>false
def inB (e:FE) (β:Nat→Bd) (L H:Int):Bool:=match e.an β with
  | some b=>decide (L≤b.lo - b.e) && decide (b.hi + b.e≤H)
  | none=>false
def grB (e:FE) (β:Nat→Bd):Bool:=match e.gr β with
  | some s=>decide (s≤120)
  | none=>false
def idB (P:List VE) (T:List (List Int)) (c:VE) (σ:FE):Bool :=
  let a:=(sVol (Z2z P c σ) T).py
  let q:=psc (-1) (FE.mul (.mul σ σ) (.mul σ (sVol P T))).py
  (padd (a.length + q.length) a q).isEmpty
def psd (δ:Rat) (p:Py):Py:=cond (δ.num == 0) [] (psc δ p)
theorem Z7O (η:Nat→Rat) (δ:Rat) (p:Py):pden η (psd δ p)=δ * pden η p:=by
  unfold psd
  cases h:(δ.num == 0) with
  | true =>
    have hz:δ=0:=Rat.num_eq_zero.1 (eq_of_beq h)
    rw [cond_true,hz]
    show (0:Rat)=0 * _
    grind
  | false=>rw [cond_false];exact X2N η δ p
def cdB (P:List VE) (r σ:FE) (δ:Rat) (β:Nat→Bd) (f:VE→FE):Bool :=
  let b:=f (sMul (sSum (Z2z P (sCen P r) σ)) r)
  let c:=f (sCen P r)
  Z3E b β 60000 && (okBd c β 20000 3221225472 && (let p:=psc (-(1 + δ)) c.py;let q:=psd δ (FE.mul σ c).py;let s:=padd (b.py.length + p.length) b.py p;(padd (s.length + q.length) s q).isEmpty))
theorem Z8b (ρ:Nat→Nat) (a:VE) (e:FE):ZX (a.ev ρ) (e.ev ρ)=(sMul a e).ev ρ:=rfl
theorem Z6N (ρ:Nat→Nat) (P:List VE) (c:VE) (s:FE):((P.map (VE.ev ρ)).map fun v=>ZG v (c.ev ρ) (s.ev ρ))=(Z2z P c s).map (VE.ev ρ):=by
  unfold Z2z
  rw [List.map_map,List.map_map]
  rfl
theorem Z6t (ρ:Nat→Nat) (P:List VE) (T:List (List Int)) (r:FE) (hv:Zm ⟨P.map (VE.ev ρ),T⟩=true) (hn:P.length≠0) (hr:fop .quo .f32 1065353216 (X4 .f32 (P.length:Int))=r.ev ρ):Zj ⟨P.map (VE.ev ρ),T⟩=((sCen P r).ev ρ,true):=by
  unfold Zj
  rw [hv,cond_true,show (((P.map (VE.ev ρ)).length:Int) == 0)=false from by rw [beq_eq_false_iff_ne,List.length_map];omega,cond_false,Z86,List.length_map,hr,Z8b]
  rfl
structure VOk (M:Gm) (rw_:Nat) (rv L H:Int):Prop where
  n0:M.Pq.length≠0
  n1:M.Pq.length≤18
  valid:Zm M=true
  hr:fop .quo .f32 1065353216 (X4 .f32 (M.Pq.length:Int))=rw_
  tab:∀ i,i < 3 * M.Pq.length→∀ x,x < 9→okC (crd M.Pq i) x=true∧okG (crd M.Pq i) x=true
  vol:okBd (sVol (vars M.Pq.length) M.Tr) (bv M.Pq 0 0 0) 135000 90194313216=true
  vol3:Z3E (sVol (vars M.Pq.length) M.Tr) (bv M.Pq L H (cubS 15)) 135000=true
  gr:grB (sVol (vars M.Pq.length) M.Tr) (bv M.Pq 0 0 0)=true
  cen:(inB (sCen (vars M.Pq.length) (.lit rw_ rv)).x (bv M.Pq 0 0 0) L H && (inB (sCen (vars M.Pq.length) (.lit rw_ rv)).y (bv M.Pq 0 0 0) L H && inB (sCen (vars M.Pq.length) (.lit rw_ rv)).z (bv M.Pq 0 0 0) L H))=true
  keep:∀ w,w < 16→Z3E (sVol (Z2z (vars M.Pq.length) (cV M.Pq.length) (.var (3 * M.Pq.length + 3))) M.Tr) (bv M.Pq L H (cubS w)) (((w:Int) + 1) * 1395864)=true
  idp:idB (vars M.Pq.length) M.Tr (cV M.Pq.length) (.var (3 * M.Pq.length + 3))=true
  del:-(1 / 1000000)≤rq (rv * (M.Pq.length:Int)) - 1∧rq (rv * (M.Pq.length:Int)) - 1≤1 / 1000000
  cdx:cdB (vars M.Pq.length) (.lit rw_ rv) (.var (3 * M.Pq.length + 3)) (rq (rv * (M.Pq.length:Int)) - 1) (bv M.Pq L H (cubS 15)) VE.x=true
  cdy:cdB (vars M.Pq.length) (.lit rw_ rv) (.var (3 * M.Pq.length + 3)) (rq (rv * (M.Pq.length:Int)) - 1) (bv M.Pq L H (cubS 15)) VE.y=true
  cdz:cdB (vars M.Pq.length) (.lit rw_ rv) (.var (3 * M.Pq.length + 3)) (rq (rv * (M.Pq.length:Int)) - 1) (bv M.Pq L H (cubS 15)) VE.z=true
theorem Z6u {ρ:Nat→Nat} {η:Nat→Rat} {β:Nat→Bd} (h:At ρ η β) {e:FE} {L H:Int} (hc:inB e β L H=true):∃ q,Vl .f32 (e.ev ρ) q∧rq L≤q∧q≤rq H:=by
  unfold inB at hc
  split at hc
  · rename_i b hb
    rw [Bool.and_eq_true] at hc
    obtain ⟨_,b1,b2,q,V,N⟩:=anOk h hb
    have h1:=Xr (odt hc.1)
    have h2:=Xr (odt hc.2)
    rw [X1g] at h1
    rw [Xe] at h2
    unfold Nr at N
    exact ⟨q,V,by grind,by grind⟩
  · cases hc
theorem Z8c {ρ:Nat→Nat} {η:Nat→Rat} {β:Nat→Bd} (h:At ρ η β) (hg:∀ i,Gr 24 (η i)) {e:FE} {n m:Int} (hb:okBd e β n m=true) (hc:grB e β=true) {q:Rat} (hq:Vl .f32 (e.ev ρ) q):Gr 120 q:=by
  unfold okBd at hb
  split at hb
  · rename_i b hb2
    unfold grB at hc
    split at hc
    · rename_i s hs
      exact (grOk h hg hb2 hs (odt hc) hq).mono (odt hc)
    · cases hc
  · cases hb
def Crd (M:Gm) (ps:List Gv):Prop:=∀ i,i < 3 * M.Pq.length→∃ q,Vl .f32 (crd ps i) q∧rq (bdOf (crd M.Pq i)).lo≤q∧q≤rq (bdOf (crd M.Pq i)).hi∧Gr 24 q
theorem Z6O {l:List Gv} {i:Nat} (h:3 * l.length≤i):crd l i=0:=by
  unfold crd
  have hd:l.getD (i / 3) default=default:=by
    rw [List.getD_eq_getElem?_getD,List.getElem?_eq_none (by omega)];rfl
  rw [hd]
  split
  · rfl
  · split<;>rfl
theorem Z5U {l m:List Gv} {i:Nat} (h:i < 3 * l.length):crd (l ++ m) i=crd l i:=by
  unfold crd
  have hd:(l ++ m).getD (i / 3) default=l.getD (i / 3) default:=by
    rw [List.getD_eq_getElem?_getD,List.getElem?_append_left (by omega),← List.getD_eq_getElem?_getD]
  rw [hd]
theorem z_vl:Vl .f32 0 0:=by unfold Vl;decide +kernel
theorem Z7l {M:Gm} {ps:List Gv} (hl:ps.length=M.Pq.length) (hc:Crd M ps):∃ η,At (crd ps) η (bv M.Pq 0 0 0)∧∀ i,Gr 24 (η i):=by
  have key:∀ i,∃ q,Vl .f32 (crd ps i) q∧rq (bv M.Pq 0 0 0 i).lo≤q∧q≤rq (bv M.Pq 0 0 0 i).hi∧Gr 24 q:=by
    intro i
    unfold bv
    by_cases hi:i < 3 * M.Pq.length
    · rw [if_pos hi];exact hc i hi
    · rw [if_neg hi,Z6O (by omega)]
      refine ⟨0,z_vl,?_,?_,X5t _⟩<;>split<;>rw [rq_0]<;>exact Rat.le_refl
  refine ⟨_,Z7p fun i => ?_,fun i => ?_⟩
  · obtain ⟨q,a,b,c,_⟩:=key i;exact ⟨q,a,b,c⟩
  · obtain ⟨q,a,b,c,d⟩:=key i
    have V':vl (Ieee.single.read (crd ps i))=some q:=a
    rw [V'];exact d
theorem Z7P {M:Gm} {ps:List Gv} (hl:ps.length=M.Pq.length) (hc:Crd M ps) {c:Gv} {σw:Nat} {L H S:Int} {σ cx cy cz:Rat} (hS:0≤S) (hx:Vl .f32 c.X cx∧rq L≤cx∧cx≤rq H) (hy:Vl .f32 c.Y cy∧rq L≤cy∧cy≤rq H) (hz:Vl .f32 c.Z cz∧rq L≤cz∧cz≤rq H) (hσ:Vl .f32 σw σ∧0≤σ∧σ≤rq S) :
    ∃ η,At (crd (ps ++ [c,⟨σw,0,0⟩])) η (bv M.Pq L H S)∧η (3 * M.Pq.length + 3)=σ∧(crd (ps ++ [c,⟨σw,0,0⟩]) (3 * M.Pq.length)=c.X∧crd (ps ++ [c,⟨σw,0,0⟩]) (3 * M.Pq.length + 1)=c.Y∧crd (ps ++ [c,⟨σw,0,0⟩]) (3 * M.Pq.length + 2)=c.Z)∧crd (ps ++ [c,⟨σw,0,0⟩]) (3 * M.Pq.length + 3)=σw:=by
  have hS':=X2F hS
  have g1:(ps ++ [c,⟨σw,0,0⟩]).getD ps.length default=c:=by
    rw [List.getD_eq_getElem?_getD,List.getElem?_append_right (Nat.le_refl _),Nat.sub_self];rfl
  have g2:(ps ++ [c,⟨σw,0,0⟩]).getD (ps.length + 1) default=⟨σw,0,0⟩:=by
    rw [List.getD_eq_getElem?_getD,List.getElem?_append_right (by omega),show ps.length + 1 - ps.length=1 from by omega];rfl
  have e3:crd (ps ++ [c,⟨σw,0,0⟩]) (3 * ps.length + 3)=σw:=by
    unfold crd
    rw [if_pos (by omega),show (3 * ps.length + 3) / 3=ps.length + 1 from by omega,g2]
  have key:∀ i,∃ q,Vl .f32 (crd (ps ++ [c,⟨σw,0,0⟩]) i) q∧rq (bv M.Pq L H S i).lo≤q∧q≤rq (bv M.Pq L H S i).hi:=by
    intro i
    unfold bv
    by_cases hi:i < 3 * M.Pq.length
    · rw [if_pos hi,Z5U (by omega)]
      obtain ⟨q,a,b,d,_⟩:=hc i hi;exact ⟨q,a,b,d⟩
    · rw [if_neg hi]
      by_cases h2:i < 3 * M.Pq.length + 3
      · rw [if_pos h2]
        have hj:i=3 * ps.length∨i=3 * ps.length + 1∨i=3 * ps.length + 2:=by omega
        rcases hj with rfl | rfl | rfl
        · refine ⟨cx,?_,hx.2.1,hx.2.2⟩
          unfold crd
          rw [if_pos (by omega),show 3 * ps.length / 3=ps.length from by omega,g1];exact hx.1
        · refine ⟨cy,?_,hy.2.1,hy.2.2⟩
          unfold crd
          rw [if_neg (by omega),if_pos (by omega),show (3 * ps.length + 1) / 3=ps.length from by omega,g1];exact hy.1
        · refine ⟨cz,?_,hz.2.1,hz.2.2⟩
          unfold crd
          rw [if_neg (by omega),if_neg (by omega),show (3 * ps.length + 2) / 3=ps.length from by omega,g1];exact hz.1
      · rw [if_neg h2]
        by_cases h3:i=3 * ps.length + 3
        · subst h3;rw [e3];exact ⟨σ,hσ.1,by show rq 0≤σ;rw [rq_0];exact hσ.2.1,hσ.2.2⟩
        · refine ⟨0,?_,by show rq 0≤0;rw [rq_0];exact Rat.le_refl,hS'⟩
          have:crd (ps ++ [c,⟨σw,0,0⟩]) i=0:=by
            by_cases h4:3 * (ps.length + 2)≤i
            · exact Z6O (by rw [List.length_append];exact h4)
            · unfold crd
              rw [show i / 3=ps.length + 1 from by omega,g2,if_neg (by omega)]
              split<;>rfl
          rw [this];exact z_vl
  refine ⟨_,Z7p key,?_,⟨?_,?_,?_⟩,by rw [← hl];exact e3⟩
  rotate_left
  · rw [← hl];unfold crd;rw [if_pos (by omega),show 3 * ps.length / 3=ps.length from by omega,g1]
  · rw [← hl];unfold crd;rw [if_neg (by omega),if_pos (by omega),show (3 * ps.length + 1) / 3=ps.length from by omega,g1]
  · rw [← hl];unfold crd;rw [if_neg (by omega),if_neg (by omega),show (3 * ps.length + 2) / 3=ps.length from by omega,g1]
  have:vl (Ieee.single.read (crd (ps ++ [c,⟨σw,0,0⟩]) (3 * M.Pq.length + 3)))=some σ:=by rw [← hl,e3];exact hσ.1
  rw [this];rfl
theorem Z8d {η:Nat→Rat} {P:List VE} {T:List (List Int)} {c:VE} {σ:FE} (h:idB P T c σ=true):(sVol (Z2z P c σ) T).xv η=σ.xv η * σ.xv η * (σ.xv η * (sVol P T).xv η):=by
  have z:=congrArg (pden η) (List.isEmpty_iff.1 h)
  rw [X1P,X2N,X1L,X1L] at z
  have z:_=(0:Rat):=z
  have e:(FE.mul (.mul σ σ) (.mul σ (sVol P T))).xv η=σ.xv η * σ.xv η * (σ.xv η * (sVol P T).xv η):=rfl
  rw [e] at z
  grind
theorem Z6v {ρ:Nat→Nat} {η:Nat→Rat} {β:Nat→Bd} (h:At ρ η β) {P:List VE} {r σ:FE} {δ:Rat} {f:VE→FE} (hd:-(1 / 1000000)≤δ∧δ≤1 / 1000000) (hσ:0≤σ.xv η∧σ.xv η≤3) (hc:cdB P r σ δ β f=true) :
    ∃ a b,Vl .f32 ((f (sCen P r)).ev ρ) a∧Vl .f32 ((f (sMul (sSum (Z2z P (sCen P r) σ)) r)).ev ρ) b∧Nr b a (1 / 8000)∧-4≤a∧a≤4:=by
  unfold cdB at hc
  simp only [Bool.and_eq_true] at hc
  obtain ⟨h1,h2,h3⟩:=hc
  obtain ⟨b,Vb,Nb⟩:=Z66 h h1
  obtain ⟨⟨a,Va,Na⟩,c1,c2⟩:=Z78 h h2
  have z:=congrArg (pden η) (List.isEmpty_iff.1 h3)
  rw [X1P,X1P,Z7O,X2N,X1L,X1L,X1L] at z
  have z:_=(0:Rat):=z
  have e:(FE.mul σ (f (sCen P r))).xv η=σ.xv η * (f (sCen P r)).xv η:=rfl
  rw [e] at z
  have e1:rq 60000≤6 / 100000:=by unfold rq;decide +kernel
  have e2:rq 20000≤2 / 100000:=by unfold rq;decide +kernel
  have e3:rq 3221225472=3:=by unfold rq;decide +kernel
  rw [e3] at c1 c2
  have m1:=mul_le_mul' (a:=δ) (b:=(f (sCen P r)).xv η) (A:=1 / 1000000) (B:=3) hd.1 hd.2 c1 c2
  have m2:=mul_le_mul' (a:=σ.xv η) (b:=(f (sCen P r)).xv η) (A:=3) (B:=3) (by grind) hσ.2 c1 c2
  have m3:=mul_le_mul' (a:=δ) (b:=σ.xv η * (f (sCen P r)).xv η) (A:=1 / 1000000) (B:=9) hd.1 hd.2 (by grind) (by grind)
  unfold Nr at *
  refine ⟨a,b,Va,Vb,?_,by grind,by grind⟩
  generalize (f (sMul (sSum (Z2z P (sCen P r) σ)) r)).xv η=B at *
  generalize (f (sCen P r)).xv η=C at *
  generalize σ.xv η * C=D at *
  grind
theorem Z6w {n:Nat} (h:n < 16):Vl .f32 (wtw (n + 1)) (((n:Rat) + 1) / 2)∧Zn (wtw (n + 1))=true:=by
  have h1:((List.range 16).all fun n=>decide (vl (Ieee.single.read (wtw (n + 1)))=some (((n:Rat) + 1) / 2)) && Zn (wtw (n + 1)))=true:=by decide +kernel
  have q:=List.all_eq_true.1 h1 n (List.mem_range.2 h)
  rw [Bool.and_eq_true] at q
  have k:vl (Ieee.single.read (wtw (n + 1)))=some (((n:Rat) + 1) / 2):=odt q.1
  exact ⟨k,q.2⟩
theorem n_bd {n:Nat} (h:n < 16):(0:Rat)≤(n:Rat)∧(n:Rat)≤15:=by
  have h1:((n:Nat):Rat)≤((15:Nat):Rat):=X41 (by omega)
  have e:((15:Nat):Rat)=15:=rfl
  rw [e] at h1
  exact ⟨Rat.natCast_nonneg,h1⟩
theorem Z7Q:((List.range 16).all fun w=>decide (0≤cubS w) && (decide (cubS w≤cubS 15) && (decide (cubS w≤3221225472) && decide (10090 * ((w:Int) + 1) * 1237940039285380274899124224≤10000 * (cubS w * cubS w * cubS w)))))=true:=by decide +kernel
theorem Z7a {w:Nat} (h:w < 16):0≤cubS w∧cubS w≤cubS 15∧cubS w≤3221225472∧1009 / 1000 * ((w:Rat) + 1)≤rq (cubS w) * rq (cubS w) * rq (cubS w):=by
  have q:=List.all_eq_true.1 Z7Q w (List.mem_range.2 h)
  simp only [Bool.and_eq_true,decide_eq_true_eq] at q
  refine ⟨q.1,q.2.1,q.2.2.1,?_⟩
  rw [Z68]
  have k:=Rat.intCast_le_intCast.2 q.2.2.2
  generalize cubS w * cubS w * cubS w=c at *
  rw [Rat.intCast_mul 10000,Rat.intCast_mul (10090 * ((w:Int) + 1)),Rat.intCast_mul 10090,Rat.intCast_add,Rat.intCast_natCast] at k
  have e1:((10000:Int):Rat)=10000:=by decide +kernel
  have e2:((10090:Int):Rat)=10090:=by decide +kernel
  have e3:((1237940039285380274899124224:Int):Rat)=1237940039285380274899124224:=by decide +kernel
  have e4:((1:Int):Rat)=1:=rfl
  rw [e1,e2,e3,e4] at k
  grind
theorem Z7R {a b:Rat} (h0:0≤b) (h:a * a * a≤b * b * b):a≤b:=by
  refine Rat.not_lt.1 fun hl => ?_
  have h1:=Rat.mul_lt_mul_of_pos_right hl (show 0 < a by grind)
  have h2:=Rat.mul_le_mul_of_nonneg_left (Rat.le_of_lt hl) h0
  have h3:b * b < a * a:=by grind
  have h4:=Rat.mul_lt_mul_of_pos_right h3 (show 0 < a by grind)
  have h5:=Rat.mul_le_mul_of_nonneg_left (Rat.le_of_lt hl) (X56 b)
  grind
theorem Z6P {W V:Rat} (hW1:1 / 2≤W) (hW2:W≤8) (hV:0 < V) (hV2:V≤169 / 2) {v w:Nat} (hv:Vl .f32 v V) (hw:Vl .f32 w W) (hg:Gr 120 V):∃ τ z,Vl .f32 (fop .quo .f32 w v) τ∧z * V=W∧1 / 169≤z∧0 < τ∧z - z / 4000000≤τ∧τ≤z + z / 4000000:=by
  have hz:W / V * V=W:=by rw [Rat.div_def,Rat.mul_assoc,Rat.inv_mul_cancel V (by grind),Rat.mul_one]
  generalize W / V=z at hz
  have mulc:∀ {a b:Rat},a * V≤b * V→a≤b:=fun {a b} hab=>by
    refine Rat.not_lt.1 fun hl => ?_
    have:=Rat.mul_lt_mul_of_pos_right hl hV
    grind
  have hz1:1 / 169≤z:=mulc (by rw [hz];grind)
  have h120:=(X7s hg (by grind)).resolve_right (fun h=>by have:=Xd (-((120:Nat):Int));grind)
  have e120:(2:Rat)^(-((120:Nat):Int))=1 / 1329227995784915872903807060280344576:=by decide +kernel
  rw [e120] at h120
  have hz2:z≤10633823966279326983230456482242756608:=by
    refine mulc ?_
    rw [hz]
    have:=Rat.mul_le_mul_of_nonneg_left h120 (show (0:Rat)≤10633823966279326983230456482242756608 by decide +kernel)
    have e:(10633823966279326983230456482242756608:Rat) * (1 / 1329227995784915872903807060280344576)=8:=by decide +kernel
    grind
  have tp:(2:Rat) * 10633823966279326983230456482242756608 < (2:Rat)^(topE .f32):=by decide +kernel
  obtain ⟨τ,T,N⟩:=quoV hw hv (by grind) (B:=z) hz (by grind) (by grind) (by grind)
  have u:uK .f32=1 / 16777216:=rfl
  have t:=X3F .f32
  unfold Nr at N
  rw [u] at N
  exact ⟨τ,z,T,hz,hz1,by grind,by grind,by grind⟩
theorem Z7m {a b:Gv} {ax ay az bx by_ bz:Rat} (h1:Vl .f32 a.X ax) (h2:Vl .f32 a.Y ay) (h3:Vl .f32 a.Z az) (k1:Vl .f32 b.X bx) (k2:Vl .f32 b.Y by_) (k3:Vl .f32 b.Z bz) (d1:Nr bx ax (1 / 8000)) (d2:Nr by_ ay (1 / 8000)) (d3:Nr bz az (1 / 8000)) :
    fcmp .gtr .f64 (Z2h a b) 4576918229304087675=false:=by
  have u:uK .f32=1 / 16777216:=rfl
  have t:=X3F .f32
  have tp:(1:Rat) < (2:Rat)^(topE .f32):=by decide +kernel
  unfold Nr at d1 d2 d3
  obtain ⟨x,X,NX⟩:=subV h1 k1 (B:=1) (by grind) (by grind) (by grind)
  obtain ⟨y,Y,NY⟩:=subV h2 k2 (B:=1) (by grind) (by grind) (by grind)
  obtain ⟨z,Z,NZ⟩:=subV h3 k3 (B:=1) (by grind) (by grind) (by grind)
  unfold Nr at NX NY NZ
  rw [u] at NX NY NZ
  obtain ⟨s,V,s0,s1⟩:=X9i X Y Z (D:=7 / 25000) (by decide +kernel) (by grind) (by grind) (by grind) (by grind) (by grind) (by grind)
  obtain ⟨Q,W,-,g1,-⟩:=Xb1 V s0 (by have e2:(7 / 25000:Rat) * (7 / 25000)=49 / 625000000:=(by decide +kernel);grind)
  have hW:Vl .f32 (Z2M (ZU a b)) Q:=W
  have hc:Vl .f64 4576918229304087675 (5764607523034235 / 576460752303423488):=by unfold Vl;decide +kernel
  unfold Z2h
  rw [gtrV (XI hW) hc]
  apply decide_eq_false
  intro hl
  have t0:=X9e
  have t1:tR≤1 / 100000000:=by decide +kernel
  have e0:(9 / 1000:Rat)≤5764607523034235 / 576460752303423488:=by decide +kernel
  have h2:=g1 (by grind)
  have h3:=X19 (a:=8 / 1000) (b:=Q - tR) (by decide +kernel) (by grind)
  have e1:(8 / 1000:Rat) * (8 / 1000)=64 / 1000000:=by decide +kernel
  have e2:(7 / 25000:Rat) * (7 / 25000)=49 / 625000000:=by decide +kernel
  grind
theorem Z8e {n w:Nat} {N W:Rat} (hn:Vl .f32 n N) (hw:Vl .f32 w W) (hW1:1 / 2≤W) (hW2:W≤8) (h1:W - 98 / 10000 * W≤N) (h2:N≤W + 98 / 10000 * W) :
    fcmp .gtr .f64 (Z1F (fcv .f32 .f64 n) (fcv .f32 .f64 w)) (fop .mul .f64 4576918229304087675 (fcv .f32 .f64 w))=false:=by
  have u:uK .f64=1 / 9007199254740992:=rfl
  have t:=X3F .f64
  have tp:(1000:Rat) < (2:Rat)^(topE .f64):=by decide +kernel
  have hc:Vl .f64 4576918229304087675 (5764607523034235 / 576460752303423488):=by unfold Vl;decide +kernel
  have hcw:5764607523034235 / 576460752303423488 * W≤1:=by grind
  have hcw0:0≤5764607523034235 / 576460752303423488 * W:=by grind
  obtain ⟨c,C,NC⟩:=mulV hc (XI hw) (B:=1) (by grind) (by grind) (by grind)
  obtain ⟨x,X,NX⟩:=subV (XI hn) (XI hw) (B:=1) (by grind) (by grind) (by grind)
  obtain ⟨y,Y,NY⟩:=subV (XI hw) (XI hn) (B:=1) (by grind) (by grind) (by grind)
  unfold Nr at NC NX NY
  rw [u] at NC NX NY
  obtain ⟨g,G,hg,-,-⟩:=Xb2 X Y
  unfold Z1F
  rw [gtrV G C]
  apply decide_eq_false
  intro hl
  rcases hg with rfl | rfl<;>grind
theorem vm1 {x:Rat} (h:0≤x∧x≤15):1 / 2≤(x + 1) / 2∧(x + 1) / 2≤8:=by grind
theorem vm2 {V x:Rat} (h1:x≤84) (h2:V≤x + rq 135000):V≤169 / 2:=by
  have ev1:rq 135000≤13 / 100000:=by unfold rq;decide +kernel
  grind
theorem vm3 {V:Rat} (h:1 / 2 < V):0 < V:=by grind
theorem vm4 {x z V:Rat} (h0:0≤x) (h1:z * V=(x + 1) / 2) (h:1 / 2 < V):z≤x + 1:=by
  refine Rat.not_lt.1 fun hz => ?_
  have:=Rat.mul_lt_mul_of_pos_right hz (show 0 < V by grind)
  have:=Rat.mul_le_mul_of_nonneg_left (Rat.le_of_lt h) (show 0≤x + 1 by grind)
  grind
theorem vm5 {x z τ:Rat} (hx:x≤15) (h1:1 / 169≤z) (h2:z≤x + 1) (h3:z - z / 4000000≤τ) (h4:τ≤z + z / 4000000):1 / 170≤τ∧τ≤17:=by grind
theorem vm6 {x z τ c:Rat} (h0:1 / 169≤z) (h2:z≤x + 1) (h4:τ≤z + z / 4000000) (h5:c≤1006 / 1000 * τ):c≤1009 / 1000 * (x + 1):=by grind
theorem vm7 {x V z X τ c e N:Rat} (h0:0≤x∧x≤15) (h:1 / 2 < V) (h1:z * V=(x + 1) / 2) (hz:1 / 169≤z) (nV:X - rq 135000≤V∧V≤X + rq 135000) (t3:z - z / 4000000≤τ) (t4:τ≤z + z / 4000000) (s3:994 / 1000 * τ≤c) (s4:c≤1006 / 1000 * τ)
    (he:e=26 / 10000 * ((x + 1) / 2)) (hN:c * X - e≤N∧N≤c * X + e):(x + 1) / 2 - 98 / 10000 * ((x + 1) / 2)≤N∧N≤(x + 1) / 2 + 98 / 10000 * ((x + 1) / 2):=by
  have ev1:rq 135000≤13 / 100000:=by unfold rq;decide +kernel
  have X1:V - V * (26 / 100000)≤X:=by grind
  have X2:X≤V + V * (26 / 100000):=by grind
  have X0:0≤X:=by grind
  have a1:=Rat.mul_le_mul_of_nonneg_left X1 (show 0≤z by grind)
  have a2:=Rat.mul_le_mul_of_nonneg_left X2 (show 0≤z by grind)
  have b1:=Rat.mul_le_mul_of_nonneg_right (show 994 / 1000 * (z - z / 4000000)≤c by grind) X0
  have b2:=Rat.mul_le_mul_of_nonneg_right (show c≤1006 / 1000 * (z + z / 4000000) by grind) X0
  have e1:z * (V - V * (26 / 100000))=z * V - z * V * (26 / 100000):=by grind
  have e2:z * (V + V * (26 / 100000))=z * V + z * V * (26 / 100000):=by grind
  have e3:994 / 1000 * (z - z / 4000000) * X=994 / 1000 * (z * X - z * X / 4000000):=by grind
  have e4:1006 / 1000 * (z + z / 4000000) * X=1006 / 1000 * (z * X + z * X / 4000000):=by grind
  rw [e1,h1] at a1
  rw [e2,h1] at a2
  rw [e3] at b1
  rw [e4] at b2
  generalize z * X=y at *
  generalize c * X=d at *
  grind
theorem Z7b (w:Nat):rq (((w:Int) + 1) * 1395864)≤26 / 10000 * (((w:Rat) + 1) / 2):=by
  unfold rq
  rw [Rat.intCast_mul,Rat.intCast_add,Rat.intCast_natCast]
  have e1:((1395864:Int):Rat)=1395864:=by decide +kernel
  have e4:((1:Int):Rat)=1:=rfl
  rw [e1,e4]
  have h:(0:Rat)≤(w:Rat):=Rat.natCast_nonneg
  grind
theorem Z69 {M:Gm} {rw_:Nat} {rv L H:Int} (hM:VOk M rw_ rv L H) {ps:List Gv} (hl:ps.length=M.Pq.length) (hc:Crd M ps):∃ V X,Vl .f32 (Zp ⟨ps,M.Tr⟩) V∧Gr 120 V∧X - rq 135000≤V∧V≤X + rq 135000∧X≤84∧(∃ η,At (crd ps) η (bv M.Pq 0 0 0)∧X=(sVol (vars M.Pq.length) M.Tr).xv η∧∀ i,i < 3 * M.Pq.length→Vl .f32 (crd ps i) (η i)):=by
  obtain ⟨η,A,G⟩:=Z7l hl hc
  have hps:(vars M.Pq.length).map (VE.ev (crd ps))=ps:=by rw [← hl];exact Z65 ps
  have hvolw:Zp ⟨ps,M.Tr⟩=(sVol (vars M.Pq.length) M.Tr).ev (crd ps):=by
    have h:=Z6q (crd ps) (vars M.Pq.length) M.Tr
    rw [hps] at h;exact h
  obtain ⟨⟨V,vV,nV⟩,x1,x2⟩:=Z78 A hM.vol
  have gV:=Z8c A G hM.vol hM.gr vV
  have ev2:rq 90194313216=84:=by unfold rq;decide +kernel
  rw [ev2] at x2
  exact ⟨V,_,by rw [hvolw];exact vV,gV,nV.1,nV.2,x2,η,A,rfl,fun i _=>(A i).1⟩
theorem Z3Y (n:Nat):(vars n).length=n:=by unfold vars;rw [List.length_map,List.length_range]
theorem Z6Q {M:Gm} {rw_:Nat} {rv L H:Int} (hM:VOk M rw_ rv L H) {ps:List Gv} (hl:ps.length=M.Pq.length) (hv0:Zm ⟨ps,M.Tr⟩=true):Zj ⟨ps,M.Tr⟩=((sCen (vars M.Pq.length) (.lit rw_ rv)).ev (crd ps),true):=by
  have hps:(vars M.Pq.length).map (VE.ev (crd ps))=ps:=by rw [← hl];exact Z65 ps
  have h:=Z6t (crd ps) (vars M.Pq.length) M.Tr (.lit rw_ rv) (by rw [hps];exact hv0) (by rw [Z3Y];exact hM.n0) (by rw [Z3Y];exact hM.hr)
  rw [hps] at h;exact h
theorem Z7n (g f:Bool) (p:Gm) (h:g=true→f=true):((cond true (cond true (cond g (cond f (p,true) (⟨[],[]⟩,false)) (⟨[],[]⟩,false)) (⟨[],[]⟩,false)) ((⟨[],[]⟩,false):Gm × Bool)).2 == g)=true:=by
  cases g with
  | false=>rfl
  | true=>rw [h rfl];rfl
theorem Z7S {M:Gm} {rw_:Nat} {rv L H:Int} (hM:VOk M rw_ rv L H) {ps:List Gv} (hl:ps.length=M.Pq.length) (hc:Crd M ps) {w:Nat} (hw:w < 16):((Zh ⟨ps,M.Tr⟩ (wtw (w + 1))).2 == fcmp .gtr .f32 (Zp ⟨ps,M.Tr⟩) 0)=true:=by
  have hv0:Zm ⟨ps,M.Tr⟩=true:=(Z40 (m:=⟨ps,M.Tr⟩) (m':=M) hl rfl).trans hM.valid
  obtain ⟨wv,wo⟩:=Z6w hw
  obtain ⟨V,X,vV,gV,n1,n2,x2,-⟩:=Z69 hM hl hc
  have hcen:(Zj ⟨ps,M.Tr⟩).2=true:=by rw [Z6Q hM hl hv0]
  have hover:Zn (Zp ⟨ps,M.Tr⟩)=fcmp .gtr .f32 (Zp ⟨ps,M.Tr⟩) 0:=by
    unfold Zn
    rw [Z6s vV,cond_true]
  have hg0:fcmp .gtr .f32 (Zp ⟨ps,M.Tr⟩) 0=decide (0 < V):=gtrV vV z_vl
  have hk:=Z6I ⟨ps,M.Tr⟩ (wtw (w + 1)) hv0
  have hf:fcmp .gtr .f32 (Zp ⟨ps,M.Tr⟩) 0=true→ZE (scN ⟨ps,M.Tr⟩ (wtw (w + 1)))=true:=fun hg=>by
    rw [hg0] at hg
    have hp:=odt hg
    have wn:=vm1 (n_bd hw)
    obtain ⟨τ,z,t1,-,-,t2,-⟩:=Z6P wn.1 wn.2 hp (vm2 x2 n2) vV wv gV
    unfold scN
    exact Z7L t1 t2
  rw [hcen,wo,hover] at hk
  rw [hk]
  exact Z7n _ _ _ hf
theorem Z8f {M:Gm} {rw_:Nat} {rv L H:Int} (hM:VOk M rw_ rv L H) {ps:List Gv} (hl:ps.length=M.Pq.length) (hc:Crd M ps) {w:Nat} (hw:w < 16) (tab:∀ j,192≤j→j < 384→chJ j=true)
    (h5:fcmp .gtr .f64 (fcv .f32 .f64 (Zp ⟨ps,M.Tr⟩)) 4602678819172646912=true):∃ σ,Vl .f32 (scN ⟨ps,M.Tr⟩ (wtw (w + 1))) σ∧0 < σ∧σ≤rq (cubS w)∧∀ X N:Rat,(∃ V,Vl .f32 (Zp ⟨ps,M.Tr⟩) V∧X - rq 135000≤V∧V≤X + rq 135000)→Nr N (σ * σ * σ * X) (26 / 10000 * (((w:Rat) + 1) / 2))→((w:Rat) + 1) / 2 - 98 / 10000 * (((w:Rat) + 1) / 2)≤N∧N≤((w:Rat) + 1) / 2 + 98 / 10000 * (((w:Rat) + 1) / 2):=by
  obtain ⟨wv,wo⟩:=Z6w hw
  obtain ⟨V,X,vV,gV,n1,n2,x2,-⟩:=Z69 hM hl hc
  have c05:Vl .f64 4602678819172646912 (1 / 2):=by unfold Vl;decide +kernel
  rw [gtrV (XI vV) c05] at h5
  have h5:=odt h5
  have wn:=vm1 (n_bd hw)
  obtain ⟨τ,z,t1,z1,z2,t2,t3,t4⟩:=Z6P wn.1 wn.2 (vm3 h5) (vm2 x2 n2) vV wv gV
  have z3:=vm4 (n_bd hw).1 z1 h5
  have t5:=vm5 (n_bd hw).2 z2 z3 t3 t4
  obtain ⟨σ,s1,s2,s3,s4⟩:=Z8J t1 t5.1 t5.2 tab
  obtain ⟨k1,k2,k3,k4⟩:=Z7a hw
  refine ⟨σ,by unfold scN;exact s1,s2,Z7R (X2F k1) (Rat.le_trans (vm6 z2 z3 t4 s4) k4),?_⟩
  rintro X' N ⟨V',vV',m1,m2⟩ hN
  have:=X10 vV vV'
  subst this
  exact vm7 (n_bd hw) h5 z1 z2 ⟨m1,m2⟩ t3 t4 s3 s4 rfl hN
theorem Z7T {ρ:Nat→Nat} {η:Nat→Rat} {l:List Gv} {L H S S':Int} (h:At ρ η (bv l L H S)) (hS:S≤S'):At ρ η (bv l L H S'):=by
  intro i
  have hr:=Xr hS
  obtain ⟨a,b,c⟩:=h i
  refine ⟨a,?_⟩
  unfold bv at b c ⊢
  by_cases h1:i < 3 * l.length
  · rw [if_pos h1] at b c ⊢;exact ⟨b,c⟩
  · rw [if_neg h1] at b c ⊢
    by_cases h2:i < 3 * l.length + 3
    · rw [if_pos h2] at b c ⊢;exact ⟨b,c⟩
    · rw [if_neg h2] at b c ⊢;exact ⟨b,Rat.le_trans c hr⟩
theorem Z7c (ps m:List Gv):(vars ps.length).map (VE.ev (crd (ps ++ m)))=ps:=by
  refine Eq.trans ?_ (Z65 ps)
  apply List.map_congr_left
  intro v hv
  unfold vars at hv
  obtain ⟨i,hi,rfl⟩:=List.mem_map.1 hv
  have hi:=List.mem_range.1 hi
  show (⟨crd (ps ++ m) (3 * i),crd (ps ++ m) (3 * i + 1),crd (ps ++ m) (3 * i + 2)⟩:Gv)=⟨crd ps (3 * i),crd ps (3 * i + 1),crd ps (3 * i + 2)⟩
  rw [Z5U (by omega),Z5U (by omega),Z5U (by omega)]
theorem Z6x (P:List VE) (c:VE) (s:FE):(Z2z P c s).length=P.length:=by unfold Z2z;exact List.length_map _
theorem Z7U {M:Gm} {rw_:Nat} {rv L H:Int} (hM:VOk M rw_ rv L H) {ps:List Gv} (hl:ps.length=M.Pq.length) (hc:Crd M ps) {w:Nat} (hw:w < 16) (tab:∀ j,192≤j→j < 384→chJ j=true)
    (h2:(Zh ⟨ps,M.Tr⟩ (wtw (w + 1))).2=true) (h5:fcmp .gtr .f64 (fcv .f32 .f64 (Zp ⟨ps,M.Tr⟩)) 4602678819172646912=true) :
    fcmp .gtr .f64 (Z1F (fcv .f32 .f64 (Zp (Zh ⟨ps,M.Tr⟩ (wtw (w + 1))).1)) (fcv .f32 .f64 (wtw (w + 1)))) (fop .mul .f64 4576918229304087675 (fcv .f32 .f64 (wtw (w + 1))))=false
    ∧ fcmp .gtr .f64 (Z2h (Zj ⟨ps,M.Tr⟩).1 (Zj (Zh ⟨ps,M.Tr⟩ (wtw (w + 1))).1).1) 4576918229304087675=false:=by
  have hv0:Zm ⟨ps,M.Tr⟩=true:=(Z40 (m:=⟨ps,M.Tr⟩) (m':=M) hl rfl).trans hM.valid
  obtain ⟨wv,wo⟩:=Z6w hw
  obtain ⟨σ,s1,s2,s3,s4⟩:=Z8f hM hl hc hw tab h5
  have hcen:=Z6Q hM hl hv0
  have hk:=Z6p hv0 h2
  have hkv:=(Z4n hv0 h2).1
  rw [hcen] at hk
  obtain ⟨V,X,vV,-,-,-,-,η0,A0,-,-⟩:=Z69 hM hl hc
  have hcb:=hM.cen
  rw [Bool.and_eq_true,Bool.and_eq_true] at hcb
  obtain ⟨cx,X1,X2,X3⟩:=Z6u A0 hcb.1
  obtain ⟨cy,Y1,Y2,Y3⟩:=Z6u A0 hcb.2.1
  obtain ⟨cz,Z1,Z2,Z3⟩:=Z6u A0 hcb.2.2
  obtain ⟨k1,k2,k3,k4⟩:=Z7a hw
  generalize scN ⟨ps,M.Tr⟩ (wtw (w + 1))=sw at *
  obtain ⟨η,A,e1,⟨e2,e3,e4⟩,e5⟩:=Z7P (M:=M) (c:=(sCen (vars M.Pq.length) (.lit rw_ rv)).ev (crd ps)) hl hc (S:=cubS w) k1 ⟨X1,X2,X3⟩ ⟨Y1,Y2,Y3⟩ ⟨Z1,Z2,Z3⟩ ⟨s1,Rat.le_of_lt s2,s3⟩
  have A3:=Z7T A k2
  have hps:(vars M.Pq.length).map (VE.ev (crd (ps ++ [(sCen (vars M.Pq.length) (.lit rw_ rv)).ev (crd ps),⟨sw,0,0⟩])))=ps:=by rw [← hl];exact Z7c _ _
  have hce:(sCen (vars M.Pq.length) (.lit rw_ rv)).ev (crd (ps ++ [(sCen (vars M.Pq.length) (.lit rw_ rv)).ev (crd ps),⟨sw,0,0⟩]))=(sCen (vars M.Pq.length) (.lit rw_ rv)).ev (crd ps):=by
    have h1:=Z6t (crd (ps ++ [(sCen (vars M.Pq.length) (.lit rw_ rv)).ev (crd ps),⟨sw,0,0⟩])) (vars M.Pq.length) M.Tr (.lit rw_ rv) (by rw [hps];exact hv0) (by rw [Z3Y];exact hM.n0) (by rw [Z3Y];exact hM.hr)
    rw [hps,hcen] at h1
    exact (Prod.mk.inj h1).1.symm
  have hcv:(cV M.Pq.length).ev (crd (ps ++ [(sCen (vars M.Pq.length) (.lit rw_ rv)).ev (crd ps),⟨sw,0,0⟩]))=(sCen (vars M.Pq.length) (.lit rw_ rv)).ev (crd ps):=by
    show (⟨crd _ (3 * M.Pq.length),crd _ (3 * M.Pq.length + 1),crd _ (3 * M.Pq.length + 2)⟩:Gv)=_
    rw [e2,e3,e4]
  have hsw:(FE.var (3 * M.Pq.length + 3)).ev (crd (ps ++ [(sCen (vars M.Pq.length) (.lit rw_ rv)).ev (crd ps),⟨sw,0,0⟩]))=sw:=e5
  generalize (crd (ps ++ [(sCen (vars M.Pq.length) (.lit rw_ rv)).ev (crd ps),⟨sw,0,0⟩]))=ρ at *
  have kp1:(Zh ⟨ps,M.Tr⟩ (wtw (w + 1))).1=⟨(Z2z (vars M.Pq.length) (cV M.Pq.length) (.var (3 * M.Pq.length + 3))).map (VE.ev ρ),M.Tr⟩:=by
    rw [hk,← Z6N,hps,hcv,hsw]
  have kp2:(Zh ⟨ps,M.Tr⟩ (wtw (w + 1))).1=⟨(Z2z (vars M.Pq.length) (sCen (vars M.Pq.length) (.lit rw_ rv)) (.var (3 * M.Pq.length + 3))).map (VE.ev ρ),M.Tr⟩:=by
    rw [hk,← Z6N,hps,hce,hsw]
  refine ⟨?_,?_⟩
  · obtain ⟨N,vN,nN⟩:=Z66 A (hM.keep w hw)
    have hx:=Z8d (η:=η) hM.idp
    have ex:(FE.var (3 * M.Pq.length + 3)).xv η=σ:=e1
    rw [ex] at hx
    obtain ⟨V',vV',nV'⟩:=Z66 A3 hM.vol3
    have hvw:(sVol (vars M.Pq.length) M.Tr).ev ρ=Zp ⟨ps,M.Tr⟩:=by
      rw [← Z6q,hps]
    rw [hvw] at vV'
    unfold Nr at nV'
    have hl:=Z7b w
    have hN:=s4 ((sVol (vars M.Pq.length) M.Tr).xv η) N ⟨V',vV',nV'.1,nV'.2⟩ (by
      rw [hx] at nN
      unfold Nr at nN ⊢
      have ea:σ * σ * (σ * (sVol (vars M.Pq.length) M.Tr).xv η)=σ * σ * σ * (sVol (vars M.Pq.length) M.Tr).xv η:=by rw [Rat.mul_assoc (σ * σ) σ]
      rw [ea] at nN
      exact ⟨Rat.le_trans (by rw [Rat.sub_eq_add_neg,Rat.sub_eq_add_neg];exact Rat.add_le_add_left.2 (Rat.neg_le_neg hl)) nN.1,Rat.le_trans nN.2 (Rat.add_le_add_left.2 hl)⟩)
    rw [kp1,Z6q]
    have wn:=vm1 (n_bd hw)
    exact Z8e vN wv wn.1 wn.2 hN.1 hN.2
  · have hσ3:0≤(FE.var (3 * M.Pq.length + 3)).xv η∧(FE.var (3 * M.Pq.length + 3)).xv η≤3:=by
      have ex:(FE.var (3 * M.Pq.length + 3)).xv η=σ:=e1
      rw [ex]
      have q:=Xr k3
      have eq3:rq 3221225472=3:=by unfold rq;decide +kernel
      rw [eq3] at q
      exact ⟨Rat.le_of_lt s2,Rat.le_trans s3 q⟩
    obtain ⟨ax,bx,x1,x2,x3,-,-⟩:=Z6v A3 hM.del hσ3 hM.cdx
    obtain ⟨ay,by_,y1,y2,y3,-,-⟩:=Z6v A3 hM.del hσ3 hM.cdy
    obtain ⟨az,bz,z1,z2,z3,-,-⟩:=Z6v A3 hM.del hσ3 hM.cdz
    rw [kp2] at hkv ⊢
    have hc2:=Z6t ρ (Z2z (vars M.Pq.length) (sCen (vars M.Pq.length) (.lit rw_ rv)) (.var (3 * M.Pq.length + 3))) M.Tr (.lit rw_ rv) hkv (by rw [Z6x,Z3Y];exact hM.n0) (by rw [Z6x,Z3Y];exact hM.hr)
    rw [hc2,hcen,← hce]
    exact Z7m x1 y1 z1 x2 y2 z2 x3 y3 z3
set_option maxHeartbeats 1000000 in
theorem Z7V {b x:Nat} (h:okG b x=true):∃ q,Vl .f32 (fop .add .f32 b (dw (x:Int))) q∧Gr 24 q:=by
  unfold okG at h
  split at h
  · rename_i q hq
    have e:=odt h
    have z:(2:Rat)^((24:Nat):Int)=16777216:=by decide +kernel
    exact ⟨q,hq,_,by rw [z];exact e.symm⟩
  · cases h
theorem Z7d {M:Gm} {rw_:Nat} {rv L H:Int} (hM:VOk M rw_ rv L H) (a:List Int) (ha:OkB a):Crd M (Zf a M).Pq:=by
  intro i hi
  have hn:=hM.n1
  have hj:i / 3 < M.Pq.length:=by omega
  obtain ⟨x,y,z,hx,hy,hz,e⟩:=Z7j a ha M (by omega) hj
  have t:=hM.tab i hi
  have key:∀ {b x:Nat},okC b x=true∧okG b x=true→∃ q,Vl .f32 (fop .add .f32 b (dw (x:Int))) q∧rq (bdOf b).lo≤q∧q≤rq (bdOf b).hi∧Gr 24 q:=fun {b x} h=>by
    obtain ⟨q,v1,v2,v3⟩:=Z7E h.1
    obtain ⟨q',w1,w2⟩:=Z7V h.2
    have:=X10 v1 w1
    subst this
    exact ⟨q,v1,v2,v3,w2⟩
  unfold crd at t ⊢
  rw [e]
  by_cases c1:i % 3=0
  · simp only [if_pos c1] at t ⊢;exact key (t x hx)
  · by_cases c2:i % 3=1
    · simp only [if_neg c1,if_pos c2] at t ⊢;exact key (t y hy)
    · simp only [if_neg c1,if_neg c2] at t ⊢;exact key (t z hz)
theorem Z8g:((List.range 24).all fun i=>(List.range 9).all fun x=>okC (crd gmB.Pq i) x && okG (crd gmB.Pq i) x)=true:=by decide +kernel
theorem Z8h:(okBd (sVol (vars 8) gmB.Tr) (bv gmB.Pq 0 0 0) 135000 90194313216 && (Z3E (sVol (vars 8) gmB.Tr) (bv gmB.Pq 536869912 1610613736 (cubS 15)) 135000 && grB (sVol (vars 8) gmB.Tr) (bv gmB.Pq 0 0 0)))=true:=by decide +kernel
theorem Z8i:(inB (sCen (vars 8) (.lit 1040187392 134217728)).x (bv gmB.Pq 0 0 0) 536869912 1610613736 && (inB (sCen (vars 8) (.lit 1040187392 134217728)).y (bv gmB.Pq 0 0 0) 536869912 1610613736 && inB (sCen (vars 8) (.lit 1040187392 134217728)).z (bv gmB.Pq 0 0 0) 536869912 1610613736))=true:=by decide +kernel
theorem Z8K:((List.range 16).all fun w=>Z3E (sVol (Z2z (vars 8) (cV 8) (.var 27)) gmB.Tr) (bv gmB.Pq 536869912 1610613736 (cubS w)) (((w:Int) + 1) * 1395864))=true:=by decide +kernel
theorem Z8L:idB (vars 8) gmB.Tr (cV 8) (.var 27)=true:=by decide +kernel
theorem Z8M:-(1 / 1000000)≤(rq (134217728 * (8:Int)) - 1)∧(rq (134217728 * (8:Int)) - 1)≤1 / 1000000:=by unfold rq;decide +kernel
theorem Z8j:cdB (vars 8) (.lit 1040187392 134217728) (.var 27) (rq (134217728 * (8:Int)) - 1) (bv gmB.Pq 536869912 1610613736 (cubS 15)) VE.x=true:=by decide +kernel
theorem Z8k:cdB (vars 8) (.lit 1040187392 134217728) (.var 27) (rq (134217728 * (8:Int)) - 1) (bv gmB.Pq 536869912 1610613736 (cubS 15)) VE.y=true:=by decide +kernel
theorem Z8l:cdB (vars 8) (.lit 1040187392 134217728) (.var 27) (rq (134217728 * (8:Int)) - 1) (bv gmB.Pq 536869912 1610613736 (cubS 15)) VE.z=true:=by decide +kernel
theorem Z8N:VOk gmB 1040187392 134217728 536869912 1610613736:=by
  have h1:=Z8h
  rw [Bool.and_eq_true,Bool.and_eq_true] at h1
  have hv:=Z2O
  refine ⟨by decide,by decide,by first | exact hv.1 | exact hv.2.1 | exact hv.2.2,by decide +kernel,?_,h1.1,h1.2.1,h1.2.2,Z8i,?_,Z8L,Z8M,Z8j,Z8k,Z8l⟩
  · intro i hi x hx
    have q:=List.all_eq_true.1 (List.all_eq_true.1 Z8g i (List.mem_range.2 hi)) x (List.mem_range.2 hx)
    rw [Bool.and_eq_true] at q;exact q
  · intro w hw
    exact List.all_eq_true.1 Z8K w (List.mem_range.2 hw)
theorem Z8m:((List.range 18).all fun i=>(List.range 9).all fun x=>okC (crd gm0.Pq i) x && okG (crd gm0.Pq i) x)=true:=by decide +kernel
theorem Z8n:(okBd (sVol (vars 6) gm0.Tr) (bv gm0.Pq 0 0 0) 135000 90194313216 && (Z3E (sVol (vars 6) gm0.Tr) (bv gm0.Pq (-536871912) 536871912 (cubS 15)) 135000 && grB (sVol (vars 6) gm0.Tr) (bv gm0.Pq 0 0 0)))=true:=by decide +kernel
theorem Z8o:(inB (sCen (vars 6) (.lit 1042983595 178956976)).x (bv gm0.Pq 0 0 0) (-536871912) 536871912 && (inB (sCen (vars 6) (.lit 1042983595 178956976)).y (bv gm0.Pq 0 0 0) (-536871912) 536871912 && inB (sCen (vars 6) (.lit 1042983595 178956976)).z (bv gm0.Pq 0 0 0) (-536871912) 536871912))=true:=by decide +kernel
theorem Z8O:((List.range 16).all fun w=>Z3E (sVol (Z2z (vars 6) (cV 6) (.var 21)) gm0.Tr) (bv gm0.Pq (-536871912) 536871912 (cubS w)) (((w:Int) + 1) * 1395864))=true:=by decide +kernel
theorem Z8P:idB (vars 6) gm0.Tr (cV 6) (.var 21)=true:=by decide +kernel
theorem Z8Q:-(1 / 1000000)≤(rq (178956976 * (6:Int)) - 1)∧(rq (178956976 * (6:Int)) - 1)≤1 / 1000000:=by unfold rq;decide +kernel
theorem Z8p:cdB (vars 6) (.lit 1042983595 178956976) (.var 21) (rq (178956976 * (6:Int)) - 1) (bv gm0.Pq (-536871912) 536871912 (cubS 15)) VE.x=true:=by decide +kernel
theorem Z8q:cdB (vars 6) (.lit 1042983595 178956976) (.var 21) (rq (178956976 * (6:Int)) - 1) (bv gm0.Pq (-536871912) 536871912 (cubS 15)) VE.y=true:=by decide +kernel
theorem Z8r:cdB (vars 6) (.lit 1042983595 178956976) (.var 21) (rq (178956976 * (6:Int)) - 1) (bv gm0.Pq (-536871912) 536871912 (cubS 15)) VE.z=true:=by decide +kernel
theorem Z8R:VOk gm0 1042983595 178956976 (-536871912) 536871912:=by
  have h1:=Z8n
  rw [Bool.and_eq_true,Bool.and_eq_true] at h1
  have hv:=Z2O
  refine ⟨by decide,by decide,by first | exact hv.1 | exact hv.2.1 | exact hv.2.2,by decide +kernel,?_,h1.1,h1.2.1,h1.2.2,Z8o,?_,Z8P,Z8Q,Z8p,Z8q,Z8r⟩
  · intro i hi x hx
    have q:=List.all_eq_true.1 (List.all_eq_true.1 Z8m i (List.mem_range.2 hi)) x (List.mem_range.2 hx)
    rw [Bool.and_eq_true] at q;exact q
  · intro w hw
    exact List.all_eq_true.1 Z8O w (List.mem_range.2 hw)
theorem Z8s:((List.range 54).all fun i=>(List.range 9).all fun x=>okC (crd gm1.Pq i) x && okG (crd gm1.Pq i) x)=true:=by decide +kernel
theorem Z8t:(okBd (sVol (vars 18) gm1.Tr) (bv gm1.Pq 0 0 0) 135000 90194313216 && (Z3E (sVol (vars 18) gm1.Tr) (bv gm1.Pq (-536871912) 536871912 (cubS 15)) 135000 && grB (sVol (vars 18) gm1.Tr) (bv gm1.Pq 0 0 0)))=true:=by decide +kernel
theorem Z8u:(inB (sCen (vars 18) (.lit 1029934649 59652324)).x (bv gm1.Pq 0 0 0) (-536871912) 536871912 && (inB (sCen (vars 18) (.lit 1029934649 59652324)).y (bv gm1.Pq 0 0 0) (-536871912) 536871912 && inB (sCen (vars 18) (.lit 1029934649 59652324)).z (bv gm1.Pq 0 0 0) (-536871912) 536871912))=true:=by decide +kernel
theorem Z8S:((List.range 16).all fun w=>Z3E (sVol (Z2z (vars 18) (cV 18) (.var 57)) gm1.Tr) (bv gm1.Pq (-536871912) 536871912 (cubS w)) (((w:Int) + 1) * 1395864))=true:=by decide +kernel
theorem Z8T:idB (vars 18) gm1.Tr (cV 18) (.var 57)=true:=by decide +kernel
theorem Z8U:-(1 / 1000000)≤(rq (59652324 * (18:Int)) - 1)∧(rq (59652324 * (18:Int)) - 1)≤1 / 1000000:=by unfold rq;decide +kernel
theorem Z8v:cdB (vars 18) (.lit 1029934649 59652324) (.var 57) (rq (59652324 * (18:Int)) - 1) (bv gm1.Pq (-536871912) 536871912 (cubS 15)) VE.x=true:=by decide +kernel
theorem Z8w:cdB (vars 18) (.lit 1029934649 59652324) (.var 57) (rq (59652324 * (18:Int)) - 1) (bv gm1.Pq (-536871912) 536871912 (cubS 15)) VE.y=true:=by decide +kernel
theorem Z8x:cdB (vars 18) (.lit 1029934649 59652324) (.var 57) (rq (59652324 * (18:Int)) - 1) (bv gm1.Pq (-536871912) 536871912 (cubS 15)) VE.z=true:=by decide +kernel
theorem Z8V:VOk gm1 1029934649 59652324 (-536871912) 536871912:=by
  have h1:=Z8t
  rw [Bool.and_eq_true,Bool.and_eq_true] at h1
  have hv:=Z2O
  refine ⟨by decide,by decide,by first | exact hv.1 | exact hv.2.1 | exact hv.2.2,by decide +kernel,?_,h1.1,h1.2.1,h1.2.2,Z8u,?_,Z8T,Z8U,Z8v,Z8w,Z8x⟩
  · intro i hi x hx
    have q:=List.all_eq_true.1 (List.all_eq_true.1 Z8s i (List.mem_range.2 hi)) x (List.mem_range.2 hx)
    rw [Bool.and_eq_true] at q;exact q
  · intro w hw
    exact List.all_eq_true.1 Z8S w (List.mem_range.2 hw)
theorem Z8W:((List.range 16).all fun j=>chJ (192 + j))=true:=by decide +kernel
theorem Z8X:((List.range 16).all fun j=>chJ (208 + j))=true:=by decide +kernel
theorem Z8Y:((List.range 16).all fun j=>chJ (224 + j))=true:=by decide +kernel
theorem Z8Z:((List.range 16).all fun j=>chJ (240 + j))=true:=by decide +kernel
theorem Z90:((List.range 16).all fun j=>chJ (256 + j))=true:=by decide +kernel
theorem Z91:((List.range 16).all fun j=>chJ (272 + j))=true:=by decide +kernel
theorem Z92:((List.range 16).all fun j=>chJ (288 + j))=true:=by decide +kernel
theorem Z93:((List.range 16).all fun j=>chJ (304 + j))=true:=by decide +kernel
theorem Z94:((List.range 16).all fun j=>chJ (320 + j))=true:=by decide +kernel
theorem Z95:((List.range 16).all fun j=>chJ (336 + j))=true:=by decide +kernel
theorem Z8y:((List.range 16).all fun j=>chJ (352 + j))=true:=by decide +kernel
theorem Z8z:((List.range 16).all fun j=>chJ (368 + j))=true:=by decide +kernel
theorem chj {j:Nat} (h1:192≤j) (h2:j < 384):chJ j=true:=by
  have hq:∀ b:Nat,((List.range 16).all fun j=>chJ (b + j))=true→b≤j→j < b + 16→chJ j=true:=fun b hb l1 l2=>by
    have q:=List.all_eq_true.1 hb (j - b) (List.mem_range.2 (by omega))
    rw [show b + (j - b)=j from by omega] at q;exact q
  have hc:(192≤j∧j < 208)∨(208≤j∧j < 224)∨(224≤j∧j < 240)∨(240≤j∧j < 256)∨(256≤j∧j < 272)∨(272≤j∧j < 288)∨(288≤j∧j < 304)∨(304≤j∧j < 320)∨(320≤j∧j < 336)∨(336≤j∧j < 352)∨(352≤j∧j < 368)∨(368≤j∧j < 384):=by omega
  rcases hc with h | h | h | h | h | h | h | h | h | h | h | h
  · exact hq 192 Z8W h.1 h.2
  · exact hq 208 Z8X h.1 h.2
  · exact hq 224 Z8Y h.1 h.2
  · exact hq 240 Z8Z h.1 h.2
  · exact hq 256 Z90 h.1 h.2
  · exact hq 272 Z91 h.1 h.2
  · exact hq 288 Z92 h.1 h.2
  · exact hq 304 Z93 h.1 h.2
  · exact hq 320 Z94 h.1 h.2
  · exact hq 336 Z95 h.1 h.2
  · exact hq 352 Z8y h.1 h.2
  · exact hq 368 Z8z h.1 h.2
structure VFin (m:Gm) (W:Nat):Prop where
  two:((Zh m W).2 == fcmp .gtr .f32 (Zg m).1 0)=true
  vol:(Zh m W).2=true→fcmp .gtr .f64 (fcv .f32 .f64 (Zg m).1) 4602678819172646912=true →
    fcmp .gtr .f64 (Z1F (fcv .f32 .f64 (Zg (Zh m W).1).1) (fcv .f32 .f64 W)) (fop .mul .f64 4576918229304087675 (fcv .f32 .f64 W))=false
    ∧ fcmp .gtr .f64 (Z2h (Zj m).1 (Zj (Zh m W).1).1) 4576918229304087675=false
theorem Z4z {m:Gm} (h:Zm m=true):(Zg m).1=Zp m:=by
  unfold Zg;rw [h,cond_true]
theorem vfin {M:Gm} {rw_:Nat} {rv L H:Int} (hM:VOk M rw_ rv L H) {a b:List Int} (ha:OkB a) (hb:OkB b) (e:Zb (IntKind.wrap .i64 (2 + Z6 b 0 3))=M):VFin (Zf a (Zb (IntKind.wrap .i64 (2 + Z6 b 0 3)))) (WT b):=by
  obtain ⟨w,hw,ew⟩:=Z6U hb
  have hv:=Z5j a hb
  rw [e] at hv ⊢
  rw [ew]
  have hl:(Zf a M).Pq.length=M.Pq.length:=Z5i a M
  have hc:=Z7d hM a ha
  have hm:Zf a M=⟨(Zf a M).Pq,M.Tr⟩:=rfl
  generalize (Zf a M).Pq=ps at *
  rw [hm] at hv ⊢
  refine ⟨?_,fun h1 h2 => ?_⟩
  · rw [Z4z hv];exact Z7S hM hl hc hw
  · rw [Z4z hv] at h2
    rw [Z4z (Z4n hv h1).1]
    exact Z7U hM hl hc hw (fun j=>chj) h1 h2
theorem Z59 (a b:List Int) (h:a.length≤9223372036854775807) (h':b.length≤9223372036854775807) (b0:a.length≤9223372036854775807∧∀ x∈a,(Lit.int .u8 x).wf=true) (b1:b.length≤9223372036854775807∧∀ x∈b,(Lit.int .u8 x).wf=true):Z1i a b=true:=by
  have ha:=X59 b0.2
  have hb:=X59 b1.2
  have q:=Z5T hb
  have hf:VFin (Zf a (Zb (IntKind.wrap .i64 (2 + Z6 b 0 3)))) (WT b):=by
    rcases Z4T q.1 q.2 with e | e | e
    · exact vfin Z8N ha hb e
    · exact vfin Z8R ha hb e
    · exact vfin Z8V ha hb e
  have e11:Z15 b=true:=by
    have q:=(ke hb).2
    unfold WT at q
    unfold Z15
    exact q
  have n1:Z2m a b=false:=by
    have q:=hf.two
    unfold WT at q
    unfold Z2m Zi
    rw [q];rfl
  have hv:=hf.vol
  unfold WT at hv
  unfold Z1i
  cases Z1U a b with
  | true=>rfl
  | false =>
    rw [cond_false,n1,cond_false]
    cases h2:(Zi a b).2 with
    | false=>rw [cond_false];exact e11
    | true =>
      rw [cond_true]
      cases h3:Z2n a b with
      | true =>
        unfold Zi at h2
        unfold Z2n at h3
        have k:=hv h2 h3
        have n4:Z2o a b=false:=by
          unfold Z2o Z3V Zi
          exact k.1
        have n5:fcmp .gtr .f64 (Z1C a b) 4576918229304087675=false:=by
          unfold Z1C Zi
          exact k.2
        rw [cond_true,n4,cond_false,n5,cond_false];exact e11
      | false =>
        rw [cond_false]
        cases fcmp .gtr .f64 (Z1C a b) 4576918229304087675 with
        | true=>rw [cond_true];exact e11
        | false=>rw [cond_false];exact e11
end Go.Ab
