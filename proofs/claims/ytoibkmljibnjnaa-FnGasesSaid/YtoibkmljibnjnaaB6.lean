/- The functions of this seat as plain Lean, and that the program's are these. Printed by a program of the prover's own. -/
import Derived.Test.YtoibkmljibnjnaaB5
set_option linter.unusedVariables false
set_option linter.unusedSimpArgs false
set_option maxRecDepth 100000
namespace Go.Ab
open Go.RowKit Go.Proofs.Try
structure VE where
  x:FE
  y:FE
  z:FE
instance:Inhabited VE:=⟨⟨.lit 0 0, .lit 0 0, .lit 0 0⟩⟩
def VE.ev (ρ:Nat→Nat) (v:VE):Gv:=⟨v.x.ev ρ,v.y.ev ρ,v.z.ev ρ⟩
def sAdd (a b:VE):VE:=⟨.add a.x b.x, .add a.y b.y, .add a.z b.z⟩
def Z6I (a b:VE):VE:=⟨.sub a.x b.x, .sub a.y b.y, .sub a.z b.z⟩
def sMul (a:VE) (e:FE):VE:=⟨.mul a.x e, .mul a.y e, .mul a.z e⟩
def Z5s (a b:VE):VE:=⟨.sub (.mul a.y b.z) (.mul a.z b.y), .sub (.mul a.z b.x) (.mul a.x b.z), .sub (.mul a.x b.y) (.mul a.y b.x)⟩
def Z4m (a b:VE):FE := .add (.add (.mul a.x b.x) (.mul a.y b.y)) (.mul a.z b.z)
def sixE:FE := .lit 1042983595 178956976
def Z5E (P:List VE) (t:List Int):VE:=Z5s (Z6I (P.getD (t.getD 1 default).toNat default) (P.getD (t.getD 0 default).toNat default)) (Z6I (P.getD (t.getD 2 default).toNat default) (P.getD (t.getD 0 default).toNat default))
def sGas (P:List VE) (T:List (List Int)):List VE:=T.foldl (fun o t=>t.foldl (fun o q=>o.set q.toNat (sAdd (o.getD q.toNat default) (sMul (Z5E P t) sixE))) o) (List.replicate P.length default)
def sVol (P:List VE) (T:List (List Int)):FE:=T.foldl (fun s t => .add s (.div (Z4m (P.getD (t.getD 0 default).toNat default) (Z5s (P.getD (t.getD 1 default).toNat default) (P.getD (t.getD 2 default).toNat default))) 1086324736 6)) (.lit 0 0)
def sSum (l:List VE):VE:=l.foldl sAdd default
def sTor (P F:List VE):VE:=sSum ((List.range P.length).map fun j=>Z5s (P.getD j default) (F.getD j default))
def vars (n:Nat):List VE:=(List.range n).map fun i=>⟨.var (3 * i), .var (3 * i + 1), .var (3 * i + 2)⟩
def bdOf (b:Nat):Bd:=if b=0 then ⟨-536870912,536870912,0⟩ else if b=1073741824 then ⟨1610612736,2684354560,0⟩ else if b=3221225472 then ⟨-2684354560,-1610612736,0⟩ else if b=1068827891 then ⟨981629184,2055371136,0⟩ else ⟨-2055371136,-981629184,0⟩
def crd (l:List Gv) (i:Nat):Nat:=if i % 3=0 then (l.getD (i / 3) default).X else if i % 3=1 then (l.getD (i / 3) default).Y else (l.getD (i / 3) default).Z
def btOf (l:List Gv) (i:Nat):Bd:=if i < 3 * l.length then bdOf (crd l i) else ⟨-2147483648,2147483648,0⟩
theorem Z3D (ρ:Nat→Nat) (l:List VE) (i:Nat):(l.map (VE.ev ρ)).getD i default=(l.getD i default).ev ρ:=by
  rw [List.getD_eq_getElem?_getD,List.getD_eq_getElem?_getD,List.getElem?_map]
  cases l[i]? <;> rfl
theorem Z6O (ps:List Gv):(vars ps.length).map (VE.ev (crd ps))=ps:=by
  apply List.ext_getElem?
  intro i
  unfold vars
  rw [List.map_map,List.getElem?_map]
  by_cases hi:i < ps.length
  · rw [List.getElem?_range hi,List.getElem?_eq_getElem hi]
    show some (⟨crd ps (3 * i),crd ps (3 * i + 1),crd ps (3 * i + 2)⟩:Gv)=_
    unfold crd
    rw [if_pos (by omega),if_neg (by omega),if_pos (by omega),if_neg (by omega),if_neg (by omega),show 3 * i / 3=i from by omega,show (3 * i + 1) / 3=i from by omega,show (3 * i + 2) / 3=i from by omega,List.getD_eq_getElem?_getD,List.getElem?_eq_getElem hi]
    rfl
  · rw [List.getElem?_eq_none (by simpa using hi),List.getElem?_eq_none (by omega)];rfl
theorem Z6n (ρ:Nat→Nat) (a b:VE):Zi (a.ev ρ) (b.ev ρ)=(sAdd a b).ev ρ:=rfl
theorem Z6z (ρ:Nat→Nat) (a b:VE):Z1u (a.ev ρ) (b.ev ρ)=(Z4m a b).ev ρ:=rfl
theorem Z7d:fop .quo .f32 1065353216 1086324736=1042983595:=by decide +kernel
theorem Z6A (ρ:Nat→Nat) (a:VE):Zh (a.ev ρ) (fop .quo .f32 1065353216 1086324736)=(sMul a sixE).ev ρ:=by rw [Z7d];rfl
theorem Z6o (ρ:Nat→Nat) (P:List VE) (T:List (List Int)) (t:List Int):Zf ⟨P.map (VE.ev ρ),T⟩ t=(Z5E P t).ev ρ:=by
  unfold Zf Z1Q
  simp only [Z3D]
  rfl
theorem Z6p (ρ:Nat→Nat) (l:List VE):Z1b (l.map (VE.ev ρ))=(sSum l).ev ρ:=by
  have h:Z1v (l.map (VE.ev ρ))=(l.map (VE.ev ρ)).foldl (fun s v=>((Zi ⟨s.1,s.2.1,s.2.2⟩ v).X,(Zi ⟨s.1,s.2.1,s.2.2⟩ v).Y,(Zi ⟨s.1,s.2.1,s.2.2⟩ v).Z)) (0,0,0) :=
    X2Q (lo:=fun k s i=>Z1n (l.map (VE.ev ρ)) k i s.1 s.2.1 s.2.2) (fun k s i=>rfl) (0,0,0)
  have h2:∀ (l:List VE) (a:VE),(l.map (VE.ev ρ)).foldl (fun s v=>((Zi ⟨s.1,s.2.1,s.2.2⟩ v).X,(Zi ⟨s.1,s.2.1,s.2.2⟩ v).Y,(Zi ⟨s.1,s.2.1,s.2.2⟩ v).Z)) ((a.ev ρ).X,(a.ev ρ).Y,(a.ev ρ).Z)=(((l.foldl sAdd a).ev ρ).X,((l.foldl sAdd a).ev ρ).Y,((l.foldl sAdd a).ev ρ).Z):=by
    intro l
    induction l with
    | nil=>intro a;rfl
    | cons b l ih=>intro a;exact ih (sAdd a b)
  unfold Z1b
  have h2:=h2 l default
  rw [show ((0,0,0):Nat × Nat × Nat)=(((default:VE).ev ρ).X,((default:VE).ev ρ).Y,((default:VE).ev ρ).Z) from rfl,h2] at h
  rw [h];rfl
theorem Z6q (ρ:Nat→Nat) (P:List VE) (T:List (List Int)):Z2g ⟨P.map (VE.ev ρ),T⟩=(sVol P T).ev ρ:=by
  have h:Z24 ⟨P.map (VE.ev ρ),T⟩=T.foldl (fun s t=>fop .add .f32 s (fop .quo .f32 (Z1u ((P.map (VE.ev ρ)).getD (t.getD 0 default).toNat default) (ZB ((P.map (VE.ev ρ)).getD (t.getD 1 default).toNat default) ((P.map (VE.ev ρ)).getD (t.getD 2 default).toNat default))) 1086324736)) 0 :=
    X2Q (a:=T) (lo:=fun k s i=>Z12 ⟨P.map (VE.ev ρ),T⟩ k s i) (fun k s i=>rfl) 0
  have h2:∀ (T:List (List Int)) (e:FE),T.foldl (fun s t=>fop .add .f32 s (fop .quo .f32 (Z1u ((P.map (VE.ev ρ)).getD (t.getD 0 default).toNat default) (ZB ((P.map (VE.ev ρ)).getD (t.getD 1 default).toNat default) ((P.map (VE.ev ρ)).getD (t.getD 2 default).toNat default))) 1086324736)) (e.ev ρ)=(T.foldl (fun s t => .add s (.div (Z4m (P.getD (t.getD 0 default).toNat default) (Z5s (P.getD (t.getD 1 default).toNat default) (P.getD (t.getD 2 default).toNat default))) 1086324736 6)) e).ev ρ:=by
    intro T
    induction T with
    | nil=>intro e;rfl
    | cons t T ih =>
      intro e
      rw [List.foldl_cons,List.foldl_cons,← ih]
      simp only [Z3D]
      rfl
  unfold Z2g
  rw [h]
  exact h2 T (.lit 0 0)
theorem Z6r (ρ:Nat→Nat) (P:List VE) (T:List (List Int)):Z1A ⟨P.map (VE.ev ρ),T⟩ 1065353216=(sGas P T).map (VE.ev ρ):=by
  have hi:∀ (x:Int) (r:List Gv),ZV ⟨P.map (VE.ev ρ),T⟩ 1065353216 x r=(T.getD x.toNat default).foldl (fun o q=>o.set q.toNat (Zi (o.getD q.toNat default) (Zh (Zf ⟨P.map (VE.ev ρ),T⟩ (T.getD x.toNat default)) (fop .quo .f32 1065353216 1086324736)))) r:=by
    intro x r
    exact X2Q (a:=T.getD x.toNat default) (lo:=fun k s i=>ZA ⟨P.map (VE.ev ρ),T⟩ 1065353216 x r k i s) (fun k s i=>rfl) r
  have h:Z1A ⟨P.map (VE.ev ρ),T⟩ 1065353216=T.foldl (fun o t=>t.foldl (fun o q=>o.set q.toNat (Zi (o.getD q.toNat default) (Zh (Zf ⟨P.map (VE.ev ρ),T⟩ t) (fop .quo .f32 1065353216 1086324736)))) o) (List.replicate (P.map (VE.ev ρ)).length ⟨0,0,0⟩):=by
    refine X2Q (a:=T) (lo:=fun k s i=>Zw ⟨P.map (VE.ev ρ),T⟩ 1065353216 k i s) (fun k s i => ?_) _
    show Zw _ _ (k + 1) i s=_
    rw [Zw,hi]
  have h3:∀ (t:List Int) (n:VE) (o:List VE),t.foldl (fun o q=>o.set q.toNat (Zi (o.getD q.toNat default) (n.ev ρ))) (o.map (VE.ev ρ))=(t.foldl (fun o q=>o.set q.toNat (sAdd (o.getD q.toNat default) n)) o).map (VE.ev ρ):=by
    intro t n
    induction t with
    | nil=>intro o;rfl
    | cons q t ih =>
      intro o
      rw [List.foldl_cons,List.foldl_cons,← ih,Z3D,Z6n,List.map_set]
  have h2:∀ (Q:List (List Int)) (o:List VE),Q.foldl (fun o t=>t.foldl (fun o q=>o.set q.toNat (Zi (o.getD q.toNat default) (Zh (Zf ⟨P.map (VE.ev ρ),T⟩ t) (fop .quo .f32 1065353216 1086324736)))) o) (o.map (VE.ev ρ))=(Q.foldl (fun o t=>t.foldl (fun o q=>o.set q.toNat (sAdd (o.getD q.toNat default) (sMul (Z5E P t) sixE))) o) o).map (VE.ev ρ):=by
    intro Q
    induction Q with
    | nil=>intro o;rfl
    | cons t Q ih =>
      intro o
      rw [List.foldl_cons,List.foldl_cons,← ih,Z6o,Z6A,h3]
  rw [h]
  have h4:=h2 T (List.replicate P.length default)
  rw [List.map_replicate] at h4
  rw [List.length_map]
  exact h4
theorem Z6W (ρ:Nat→Nat) (P F:List VE) (T:List (List Int)):Z1b (ZQ ⟨P.map (VE.ev ρ),T⟩ (F.map (VE.ev ρ)))=(sTor P F).ev ρ:=by
  rw [Z4V]
  unfold sTor
  rw [← Z6p,List.map_map,List.length_map]
  congr 1
  apply List.map_congr_left
  intro j _
  show ZB _ _=_
  rw [Z3D,Z3D];rfl
def dw (x:Int):Nat:=fop .quo .f32 (X7 .f32 (IntKind.wrap .i64 (x - 4))) 1090519040
def okC (b:Nat) (x:Nat):Bool:=match vl (Ieee.single.read (fop .add .f32 b (dw (x:Int)))) with
  | some q=>decide (rq (bdOf b).lo≤q) && decide (q≤rq (bdOf b).hi)
  | none=>false
def Z46 (e:FE) (β:Nat→Bd) (n:Int):Bool:=match e.an β with
  | some b=>decide (b.e≤n)
  | none=>false
def okBd (e:FE) (β:Nat→Bd) (n m:Int):Bool:=match e.an β with
  | some b=>decide (b.e≤n) && decide (mx b≤m)
  | none=>false
def At (ρ:Nat→Nat) (η:Nat→Rat) (β:Nat→Bd):Prop:=∀ i,Vl .f32 (ρ i) (η i)∧rq (β i).lo≤η i∧η i≤rq (β i).hi
theorem Z5F {ρ:Nat→Nat} {η:Nat→Rat} {β:Nat→Bd} (h:At ρ η β) {e:FE} {n:Int} (hc:Z46 e β n=true):∃ q,Vl .f32 (e.ev ρ) q∧Nr q (e.xv η) (rq n):=by
  unfold Z46 at hc
  split at hc
  · rename_i b hb
    obtain ⟨_,_,_,q,V,N⟩:=anOk h hb
    have:=X27 (odt hc)
    unfold Nr at N
    exact ⟨q,V,by unfold Nr;grind⟩
  · cases hc
theorem Z6X {ρ:Nat→Nat} {η:Nat→Rat} {β:Nat→Bd} (h:At ρ η β) {e:FE} {n m:Int} (hc:okBd e β n m=true):(∃ q,Vl .f32 (e.ev ρ) q∧Nr q (e.xv η) (rq n))∧-rq m≤e.xv η∧e.xv η≤rq m:=by
  unfold okBd at hc
  split at hc
  · rename_i b hb
    rw [Bool.and_eq_true] at hc
    obtain ⟨_,b1,b2,q,V,N⟩:=anOk h hb
    have h1:=X27 (odt hc.1)
    have h2:=X27 (odt hc.2)
    have h3:=X3m b1 b2
    unfold Nr at N
    exact ⟨⟨q,V,by unfold Nr;grind⟩,by grind,by grind⟩
  · cases hc
def okZ (e:FE) (β:Nat→Bd):Bool:=Z46 e β 300000 && e.py.isEmpty
theorem Z4Y {ρ:Nat→Nat} {η:Nat→Rat} {β:Nat→Bd} (h:At ρ η β) {e:FE} (hc:okZ e β=true):∃ q,Vl .f32 (e.ev ρ) q∧-(7 / 25000)≤q∧q≤7 / 25000:=by
  unfold okZ at hc
  rw [Bool.and_eq_true] at hc
  obtain ⟨q,V,N⟩:=Z5F h hc.1
  have z:=X9F (η:=η) hc.2
  unfold Nr at N
  rw [z] at N
  have e1:rq 300000≤7 / 25000:=by unfold rq;decide +kernel
  exact ⟨q,V,by grind,by grind⟩
theorem Z5t {x y z:Nat} {a b c:Rat} (hx:Vl .f32 x a) (hy:Vl .f32 y b) (hz:Vl .f32 z c) (a1:-(7 / 25000)≤a) (a2:a≤7 / 25000) (b1:-(7 / 25000)≤b) (b2:b≤7 / 25000) (c1:-(7 / 25000)≤c) (c2:c≤7 / 25000) :
    fcmp .lss .f64 (fcv .f32 .f64 (Z1j ⟨x,y,z⟩)) 4562254508917369340=true:=by
  obtain ⟨s,V,s0,s1⟩:=X8J hx hy hz (D:=7 / 25000) (by decide +kernel) a1 a2 b1 b2 c1 c2
  obtain ⟨Q,W,-,h1,-⟩:=Xae V s0 (by grind)
  have hW:Vl .f32 (Z1j ⟨x,y,z⟩) Q:=W
  have hc:Vl .f64 4562254508917369340 (1152921504606847 / 1152921504606846976):=by unfold Vl;decide +kernel
  rw [lssV (X34 hW) hc]
  apply decide_eq_true
  refine Rat.not_le.1 fun hl => ?_
  have t0:=X8F
  have t1:tR≤1 / 100000000:=by decide +kernel
  have h2:=h1 (by grind)
  have h3:=X18 (a:=9 / 10000) (b:=Q - tR) (by decide +kernel) (by grind)
  have e1:(9 / 10000:Rat) * (9 / 10000)=81 / 100000000:=by decide +kernel
  have e2:(7 / 25000:Rat) * (7 / 25000)=49 / 625000000:=by decide +kernel
  grind
def chV (P:List VE) (T:List (List Int)) (F:List VE) (v:VE) (β:Nat→Bd) (p:Nat):Bool :=
  let c:=sVol (P.set p (sAdd (P.getD p default) v)) T
  let i:=Z4m (F.getD p default) v
  Z46 c β 500000 && (okBd i β 100000 214748364800 && (let q:=psc (-1) (sVol P T).py;let r:=psc (-(1073741824 / 1073741856)) i.py;let s:=padd (c.py.length + q.length) c.py q;(padd (s.length + r.length) s r).isEmpty))
theorem Z6P {ρ:Nat→Nat} {η:Nat→Rat} {β:Nat→Bd} (h:At ρ η β) {P:List VE} {T:List (List Int)} {F:List VE} {v:VE} {p:Nat} (hv:Z46 (sVol P T) β 400000=true) (hc:chV P T F v β p=true) :
    ∃ a b c,Vl .f32 ((sVol (P.set p (sAdd (P.getD p default) v)) T).ev ρ) a∧Vl .f32 ((sVol P T).ev ρ) b∧Vl .f32 ((Z4m (F.getD p default) v).ev ρ) c∧Nr (a - b) c (1 / 1000)∧-300≤c∧c≤300:=by
  unfold chV at hc
  simp only [Bool.and_eq_true] at hc
  obtain ⟨h1,h2,h3⟩:=hc
  obtain ⟨a,Va,Na⟩:=Z5F h h1
  obtain ⟨b,Vb,Nb⟩:=Z5F h hv
  obtain ⟨⟨c,Vc,Nc⟩,c1,c2⟩:=Z6X h h2
  have z:=List.isEmpty_iff.1 h3
  have z2:=congrArg (pden η) z
  rw [X24,X24,X35,X35,X1U,X1U,X1U] at z2
  have z2:_=(0:Rat):=z2
  refine ⟨a,b,c,Va,Vb,Vc,?_,?_,?_⟩
  all_goals
    have e1:rq 500000≤47 / 100000:=by unfold rq;decide +kernel
    have e2:rq 400000≤38 / 100000:=by unfold rq;decide +kernel
    have e3:rq 100000≤1 / 10000:=by unfold rq;decide +kernel
    have e4:rq 214748364800=200:=by unfold rq;decide +kernel
    unfold Nr at *
    rw [e4] at c1 c2
    generalize (sVol (P.set p (sAdd (P.getD p default) v)) T).xv η=A at *
    generalize (sVol P T).xv η=B at *
    generalize (Z4m (F.getD p default) v).xv η=C at *
    grind
structure GOk (M:Gm):Prop where
  n1:M.Pq.length≤18
  closed:∀ ps:List Gv,ps.length=M.Pq.length→Za ⟨ps,M.Tr⟩=true∧ZW ⟨ps,M.Tr⟩=true
  tab:∀ i,i < 3 * M.Pq.length→∀ x,x < 9→okC (crd M.Pq i) x=true
  net:okZ (sSum (sGas ((vars (M.Pq.length + 1)).take M.Pq.length) M.Tr)).x (btOf M.Pq)=true∧okZ (sSum (sGas ((vars (M.Pq.length + 1)).take M.Pq.length) M.Tr)).y (btOf M.Pq)=true∧okZ (sSum (sGas ((vars (M.Pq.length + 1)).take M.Pq.length) M.Tr)).z (btOf M.Pq)=true
  tor:okZ (sTor ((vars (M.Pq.length + 1)).take M.Pq.length) (sGas ((vars (M.Pq.length + 1)).take M.Pq.length) M.Tr)).x (btOf M.Pq)=true∧okZ (sTor ((vars (M.Pq.length + 1)).take M.Pq.length) (sGas ((vars (M.Pq.length + 1)).take M.Pq.length) M.Tr)).y (btOf M.Pq)=true∧okZ (sTor ((vars (M.Pq.length + 1)).take M.Pq.length) (sGas ((vars (M.Pq.length + 1)).take M.Pq.length) M.Tr)).z (btOf M.Pq)=true
  vol:Z46 (sVol ((vars (M.Pq.length + 1)).take M.Pq.length) M.Tr) (btOf M.Pq) 400000=true
  chg:∀ p,p < M.Pq.length→chV ((vars (M.Pq.length + 1)).take M.Pq.length) M.Tr (sGas ((vars (M.Pq.length + 1)).take M.Pq.length) M.Tr) ⟨.var (3 * M.Pq.length), .var (3 * M.Pq.length + 1), .var (3 * M.Pq.length + 2)⟩ (btOf M.Pq) p=true
def Z5u (m:Gm) (p:Int) (v:Gv):Bool :=
  (cond (Zd m 1065353216).2
    (cond (ZI m).2
      (cond (ZW m)
        (cond ((((Zd m 1065353216).1).length:Int) != ((m.Pq).length:Int))
          false
          (cond (ZP ((Zd m 1065353216).1)).2
            (cond (Z16 m ((Zd m 1065353216).1)).2
              (cond (ZI (⟨((([]:List Gv) ++ m.Pq).set p.toNat (Zi ((([]:List Gv) ++ m.Pq).getD p.toNat default) v)),m.Tr⟩:Gm)).2
                (cond (fcmp .lss .f64 (fcv .f32 .f64 (Z1j ((ZP ((Zd m 1065353216).1)).1))) 4562254508917369340)
                  (cond (fcmp .lss .f64 (fcv .f32 .f64 (Z1j ((Z16 m ((Zd m 1065353216).1)).1))) 4562254508917369340)
                    (fcmp .lss .f64 (Z2S (fop .sub .f64 (fcv .f32 .f64 (ZI (⟨((([]:List Gv) ++ m.Pq).set p.toNat (Zi ((([]:List Gv) ++ m.Pq).getD p.toNat default) v)),m.Tr⟩:Gm)).1) (fcv .f32 .f64 (ZI m).1)) (fcv .f32 .f64 (Z1u (((Zd m 1065353216).1).getD p.toNat default) v))) 4566758108544739836)
                    false)
                  false)
                false)
              false)
            false))
        false)
      false)
    false)
theorem Z6B {M:Gm} (hM:GOk M) {ps:List Gv} {v:Gv} {p:Int} (hl:ps.length=M.Pq.length) (hp0:0≤p) (hp1:p < (ps.length:Int)) {η:Nat→Rat} (H:At (crd (ps ++ [v])) η (btOf M.Pq)):Z5u ⟨ps,M.Tr⟩ p v=true:=by
  obtain ⟨hv,hc⟩:=hM.closed ps hl
  have hP:((vars (M.Pq.length + 1)).take M.Pq.length).map (VE.ev (crd (ps ++ [v])))=ps:=by
    have h:=Z6O (ps ++ [v])
    rw [show (ps ++ [v]).length=M.Pq.length + 1 from by rw [List.length_append,hl];rfl] at h
    rw [List.map_take,h,← hl,List.take_left']
    rfl
  have hV:VE.ev (crd (ps ++ [v])) ⟨.var (3 * M.Pq.length), .var (3 * M.Pq.length + 1), .var (3 * M.Pq.length + 2)⟩=v:=by
    show (⟨crd (ps ++ [v]) (3 * M.Pq.length),crd (ps ++ [v]) (3 * M.Pq.length + 1),crd (ps ++ [v]) (3 * M.Pq.length + 2)⟩:Gv)=v
    unfold crd
    have hg:(ps ++ [v]).getD M.Pq.length default=v:=by
      rw [List.getD_eq_getElem?_getD,← hl,List.getElem?_append_right (Nat.le_refl _),Nat.sub_self];rfl
    rw [if_pos (by omega),if_neg (by omega),if_pos (by omega),if_neg (by omega),if_neg (by omega),show 3 * M.Pq.length / 3=M.Pq.length from by omega,show (3 * M.Pq.length + 1) / 3=M.Pq.length from by omega,show (3 * M.Pq.length + 2) / 3=M.Pq.length from by omega,hg]
  have hch:=hM.chg p.toNat (by omega)
  have hcl:=hM.closed
  obtain ⟨nx,ny,nz⟩:=hM.net
  obtain ⟨tx,ty,tz⟩:=hM.tor
  have hvol:=hM.vol
  have hn:=hM.n1
  generalize (⟨.var (3 * M.Pq.length), .var (3 * M.Pq.length + 1), .var (3 * M.Pq.length + 2)⟩:VE)=V at *
  generalize (vars (M.Pq.length + 1)).take M.Pq.length=P at *
  generalize btOf M.Pq=β at *
  generalize crd (ps ++ [v])=ρ at *
  subst hP
  subst hV
  generalize M.Tr=T at *
  have g1:Zd ⟨P.map (VE.ev ρ),T⟩ 1065353216=((sGas P T).map (VE.ev ρ),true):=by
    unfold Zd;rw [hv,cond_true,Z6r]
  have g2:ZI ⟨P.map (VE.ev ρ),T⟩=((sVol P T).ev ρ,true):=by
    unfold ZI;rw [hv,cond_true,Z6q]
  have g3:((([]:List Gv) ++ P.map (VE.ev ρ)).set p.toNat (Zi ((([]:List Gv) ++ P.map (VE.ev ρ)).getD p.toNat default) (V.ev ρ)))=(P.set p.toNat (sAdd (P.getD p.toNat default) V)).map (VE.ev ρ):=by
    rw [List.nil_append,Z3D,Z6n,List.map_set]
  have g4:ZI ⟨(P.set p.toNat (sAdd (P.getD p.toNat default) V)).map (VE.ev ρ),T⟩=((sVol (P.set p.toNat (sAdd (P.getD p.toNat default) V)) T).ev ρ,true):=by
    unfold ZI
    rw [(hcl _ (by rw [List.length_map,List.length_set,← hl,List.length_map])).1,cond_true,Z6q]
  have g5:((sGas P T).map (VE.ev ρ)).length=(P.map (VE.ev ρ)).length:=by rw [← Z6r];simp
  have g6:ZP ((sGas P T).map (VE.ev ρ))=((sSum (sGas P T)).ev ρ,true):=by
    unfold ZP
    rw [decide_eq_false (by omega),cond_false,Z6p]
  have g7:Z16 ⟨P.map (VE.ev ρ),T⟩ ((sGas P T).map (VE.ev ρ))=((sTor P (sGas P T)).ev ρ,true):=by
    unfold Z16
    rw [hv,cond_true,bne_eq_false_iff_eq.2 (by rw [g5]),cond_false,Z6W]
  unfold Z5u
  simp only [g1,g2,g3,g4,g6,g7,hc,g5,bne_self_eq_false,cond_true,cond_false]
  obtain ⟨q1,V1,l1,u1⟩:=Z4Y H nx
  obtain ⟨q2,V2,l2,u2⟩:=Z4Y H ny
  obtain ⟨q3,V3,l3,u3⟩:=Z4Y H nz
  obtain ⟨q4,V4,l4,u4⟩:=Z4Y H tx
  obtain ⟨q5,V5,l5,u5⟩:=Z4Y H ty
  obtain ⟨q6,V6,l6,u6⟩:=Z4Y H tz
  have s1:fcmp .lss .f64 (fcv .f32 .f64 (Z1j ((sSum (sGas P T)).ev ρ))) 4562254508917369340=true:=Z5t V1 V2 V3 l1 u1 l2 u2 l3 u3
  have s2:fcmp .lss .f64 (fcv .f32 .f64 (Z1j ((sTor P (sGas P T)).ev ρ))) 4562254508917369340=true:=Z5t V4 V5 V6 l4 u4 l5 u5 l6 u6
  rw [s1,s2,cond_true,cond_true,Z3D,Z6z]
  obtain ⟨a,b,c,Va,Vb,Vc,N,c1,c2⟩:=Z6P H hvol hch
  unfold Nr at N
  have u:uK .f64=1 / 9007199254740992:=rfl
  have t:=X80 .f64
  have tp:(1000:Rat) < (2:Rat)^(topE .f64):=by decide +kernel
  obtain ⟨d,Vd,Nd⟩:=subV (X34 Va) (X34 Vb) (B:=400) (by grind) (by grind) (by grind)
  unfold Nr at Nd
  rw [u] at Nd
  obtain ⟨e,Ve,Ne⟩:=subV Vd (X34 Vc) (B:=400) (by grind) (by grind) (by grind)
  obtain ⟨f,Vf,Nf⟩:=subV (X34 Vc) Vd (B:=400) (by grind) (by grind) (by grind)
  unfold Nr at Ne Nf
  rw [u] at Ne Nf
  obtain ⟨g,Vg,hg,-,-⟩:=Xaf Ve Vf
  have hcst:Vl .f64 4566758108544739836 (1152921504606847 / 576460752303423488):=by unfold Vl;decide +kernel
  unfold Z2S
  rw [lssV Vg hcst]
  apply decide_eq_true
  rcases hg with rfl | rfl<;>grind
def ndB:List Nat→Bool
  | []=>true
  | x :: l => !(l.any fun y=>Nat.beq x y) && ndB l
theorem Z6s:∀ {l:List Nat},ndB l=true→l.Nodup
  | [],_=>List.nodup_nil
  | x :: l,h=>by
    rw [ndB,Bool.and_eq_true,Bool.not_eq_true'] at h
    refine List.nodup_cons.2 ⟨fun hx => ?_,Z6s h.2⟩
    have:=List.any_eq_true.2 ⟨x,hx,show Nat.beq x x=true from Nat.beq_refl x⟩
    rw [this] at h;cases h.1
def shB (m:Gm):Bool:=ndB ((m.Tr.flatMap dE).map fun p=>p.1.toNat * 64 + p.2.toNat)
theorem Z7e {m:Gm} (hv:Za m=true) (h:shB m=true):Z1m m=true:=by
  rw [Z6k,hv,cond_true]
  exact decide_eq_true (List.Pairwise.of_map _ (fun a b hab e=>hab (by rw [e])) (Z6s h))
def brN (m:Gm):Nat:=((Zk m).2.filter fun e=>decide (((Zk m).1.getD (midx (Zk m).1 e) default).2.length=1)).length
theorem Z6Y (m:Gm) (ok:OkE m.Pq.length m.Tr):(Z1D m).length=brN m:=by
  rw [Z5Y m ok]
  unfold brL brN
  rw [← Z3C m ok]
  have hp:List.Perm (Z7 m).2 (Zk m).2:=List.mergeSort_perm _ _
  rw [(hp.filter _).length_eq]
  congr 1
  refine List.filter_congr fun e he => ?_
  rw [← (Z5U m ok (hp.mem_iff.2 he)).2]
  rfl
def ffC (m:Gm):Bool:=Za m && (shB m && (decide ((m.Tr.length:Int) > 0) && ((brN m:Int) == 0)))
theorem Z5G {m:Gm} (h:ffC m=true):Za m=true∧ZW m=true:=by
  unfold ffC at h
  simp only [Bool.and_eq_true,beq_iff_eq] at h
  obtain ⟨h1,h2,h3,h4⟩:=h
  have ok:=Z29 m h1
  refine ⟨h1,?_⟩
  unfold ZW
  rw [Z7e h1 h2,cond_true,h3,cond_true,Z6Y m ok,h4];rfl
theorem Z6C (ps:List Gv) (h:ps.length=gmB.Pq.length):Za ⟨ps,gmB.Tr⟩=true∧ZW ⟨ps,gmB.Tr⟩=true:=by
  match ps,h with
  | [a0,a1,a2,a3,a4,a5,a6,a7],_=>exact Z5G (by kernel_rfl)
theorem Z7f:(okZ (sSum (sGas ((vars 9).take 8) gmB.Tr)).x (btOf gmB.Pq) && (okZ (sSum (sGas ((vars 9).take 8) gmB.Tr)).y (btOf gmB.Pq) && okZ (sSum (sGas ((vars 9).take 8) gmB.Tr)).z (btOf gmB.Pq)))=true:=by decide +kernel
theorem Z6Z:okZ (sTor ((vars 9).take 8) (sGas ((vars 9).take 8) gmB.Tr)).x (btOf gmB.Pq)=true:=by decide +kernel
theorem Z70:okZ (sTor ((vars 9).take 8) (sGas ((vars 9).take 8) gmB.Tr)).y (btOf gmB.Pq)=true:=by decide +kernel
theorem Z71:okZ (sTor ((vars 9).take 8) (sGas ((vars 9).take 8) gmB.Tr)).z (btOf gmB.Pq)=true:=by decide +kernel
theorem Z7g:Z46 (sVol ((vars 9).take 8) gmB.Tr) (btOf gmB.Pq) 400000=true:=by decide +kernel
theorem Z7h:((List.range 24).all fun i=>(List.range 9).all fun x=>okC (crd gmB.Pq i) x)=true:=by decide +kernel
theorem Z7i:((List.range 8).all fun p=>chV ((vars 9).take 8) gmB.Tr (sGas ((vars 9).take 8) gmB.Tr) ⟨.var 24, .var 25, .var 26⟩ (btOf gmB.Pq) p)=true:=by decide +kernel
theorem Z7j:GOk gmB:=by
  have hn:gmB.Pq.length=8:=rfl
  have h1:=Z7f
  simp only [Bool.and_eq_true] at h1
  refine ⟨by rw [hn];decide,Z6C,?_,by rw [hn];exact h1,by rw [hn];exact ⟨Z6Z,Z70,Z71⟩,by rw [hn];exact Z7g,?_⟩
  · rw [hn];intro i hi x hx
    exact List.all_eq_true.1 (List.all_eq_true.1 Z7h i (List.mem_range.2 hi)) x (List.mem_range.2 hx)
  · rw [hn];intro p hp
    exact List.all_eq_true.1 Z7i p (List.mem_range.2 hp)
theorem Z6D (ps:List Gv) (h:ps.length=gm0.Pq.length):Za ⟨ps,gm0.Tr⟩=true∧ZW ⟨ps,gm0.Tr⟩=true:=by
  match ps,h with
  | [a0,a1,a2,a3,a4,a5],_=>exact Z5G (by kernel_rfl)
theorem Z7k:(okZ (sSum (sGas ((vars 7).take 6) gm0.Tr)).x (btOf gm0.Pq) && (okZ (sSum (sGas ((vars 7).take 6) gm0.Tr)).y (btOf gm0.Pq) && okZ (sSum (sGas ((vars 7).take 6) gm0.Tr)).z (btOf gm0.Pq)))=true:=by decide +kernel
theorem Z72:okZ (sTor ((vars 7).take 6) (sGas ((vars 7).take 6) gm0.Tr)).x (btOf gm0.Pq)=true:=by decide +kernel
theorem Z73:okZ (sTor ((vars 7).take 6) (sGas ((vars 7).take 6) gm0.Tr)).y (btOf gm0.Pq)=true:=by decide +kernel
theorem Z74:okZ (sTor ((vars 7).take 6) (sGas ((vars 7).take 6) gm0.Tr)).z (btOf gm0.Pq)=true:=by decide +kernel
theorem Z7l:Z46 (sVol ((vars 7).take 6) gm0.Tr) (btOf gm0.Pq) 400000=true:=by decide +kernel
theorem Z7m:((List.range 18).all fun i=>(List.range 9).all fun x=>okC (crd gm0.Pq i) x)=true:=by decide +kernel
theorem Z7n:((List.range 6).all fun p=>chV ((vars 7).take 6) gm0.Tr (sGas ((vars 7).take 6) gm0.Tr) ⟨.var 18, .var 19, .var 20⟩ (btOf gm0.Pq) p)=true:=by decide +kernel
theorem Z7o:GOk gm0:=by
  have hn:gm0.Pq.length=6:=rfl
  have h1:=Z7k
  simp only [Bool.and_eq_true] at h1
  refine ⟨by rw [hn];decide,Z6D,?_,by rw [hn];exact h1,by rw [hn];exact ⟨Z72,Z73,Z74⟩,by rw [hn];exact Z7l,?_⟩
  · rw [hn];intro i hi x hx
    exact List.all_eq_true.1 (List.all_eq_true.1 Z7m i (List.mem_range.2 hi)) x (List.mem_range.2 hx)
  · rw [hn];intro p hp
    exact List.all_eq_true.1 Z7n p (List.mem_range.2 hp)
theorem Z6E (ps:List Gv) (h:ps.length=gm1.Pq.length):Za ⟨ps,gm1.Tr⟩=true∧ZW ⟨ps,gm1.Tr⟩=true:=by
  match ps,h with
  | [a0,a1,a2,a3,a4,a5,a6,a7,a8,a9,a10,a11,a12,a13,a14,a15,a16,a17],_=>exact Z5G (by kernel_rfl)
theorem Z7p:(okZ (sSum (sGas ((vars 19).take 18) gm1.Tr)).x (btOf gm1.Pq) && (okZ (sSum (sGas ((vars 19).take 18) gm1.Tr)).y (btOf gm1.Pq) && okZ (sSum (sGas ((vars 19).take 18) gm1.Tr)).z (btOf gm1.Pq)))=true:=by decide +kernel
theorem Z75:okZ (sTor ((vars 19).take 18) (sGas ((vars 19).take 18) gm1.Tr)).x (btOf gm1.Pq)=true:=by decide +kernel
theorem Z76:okZ (sTor ((vars 19).take 18) (sGas ((vars 19).take 18) gm1.Tr)).y (btOf gm1.Pq)=true:=by decide +kernel
theorem Z77:okZ (sTor ((vars 19).take 18) (sGas ((vars 19).take 18) gm1.Tr)).z (btOf gm1.Pq)=true:=by decide +kernel
theorem Z7q:Z46 (sVol ((vars 19).take 18) gm1.Tr) (btOf gm1.Pq) 400000=true:=by decide +kernel
theorem Z7r:((List.range 54).all fun i=>(List.range 9).all fun x=>okC (crd gm1.Pq i) x)=true:=by decide +kernel
theorem Z7s:((List.range 18).all fun p=>chV ((vars 19).take 18) gm1.Tr (sGas ((vars 19).take 18) gm1.Tr) ⟨.var 54, .var 55, .var 56⟩ (btOf gm1.Pq) p)=true:=by decide +kernel
theorem Z7t:GOk gm1:=by
  have hn:gm1.Pq.length=18:=rfl
  have h1:=Z7p
  simp only [Bool.and_eq_true] at h1
  refine ⟨by rw [hn];decide,Z6E,?_,by rw [hn];exact h1,by rw [hn];exact ⟨Z75,Z76,Z77⟩,by rw [hn];exact Z7q,?_⟩
  · rw [hn];intro i hi x hx
    exact List.all_eq_true.1 (List.all_eq_true.1 Z7r i (List.mem_range.2 hi)) x (List.mem_range.2 hx)
  · rw [hn];intro p hp
    exact List.all_eq_true.1 Z7s p (List.mem_range.2 hp)
def Mv (b v:Gv):Prop:=∃ x y z:Nat,x < 9∧y < 9∧z < 9∧v=⟨fop .add .f32 b.X (dw (x:Int)),fop .add .f32 b.Y (dw (y:Int)),fop .add .f32 b.Z (dw (z:Int))⟩
theorem Z6t {l:List Gv} {i:Nat} {v:Gv} (h:i < l.length):(l.set i v).getD i default=v:=by
  rw [List.getD_eq_getElem?_getD,List.getElem?_set_self h];rfl
theorem Z68 {l:List Gv} {i j:Nat} {v:Gv} (h:i≠j):(l.set i v).getD j default=l.getD j default:=by
  rw [List.getD_eq_getElem?_getD,List.getElem?_set_ne h,← List.getD_eq_getElem?_getD]
theorem Z6c (a:List Int) (ha:OkB a) (m:Gm) (hn:m.Pq.length≤1000):∀ (k:Nat) (i s1 s2:Int) (l:List Gv),0≤i→i≤(l.length:Int)→0≤s1→s1≤6 * i→((l.length:Int) - i).toNat < k→l.length=m.Pq.length →
    (∀ j,j < i.toNat→Mv (m.Pq.getD j default) (l.getD j default))→(∀ j,i.toNat≤j→l.getD j default=m.Pq.getD j default)→∀ j,j < m.Pq.length→Mv (m.Pq.getD j default) ((ZD a m k i s1 s2 l).2.2.getD j default):=by
  intro k
  induction k with
  | zero=>intro i s1 s2 l _ _ _ _ hk;exact absurd hk (Nat.not_lt_zero _)
  | succ k ih =>
    intro i s1 s2 l h0 hil hs1 hs2 hk hl hd hr j hj
    rw [ZD]
    by_cases hi:i < (l.length:Int)
    · rw [decide_eq_true hi,cond_true]
      have q1:=Z48 (⟨(Z1 a).code,s1,s2⟩:Gl00Src) 9 ⟨hs1,by show s1≤_;omega⟩
      have b1:=Z5z (⟨(Z1 a).code,s1,s2⟩:Gl00Src) 9 ha hs1 (by omega) (by omega)
      generalize Z0 (⟨(Z1 a).code,s1,s2⟩:Gl00Src) 9=r1 at *
      have q1:s1≤r1.2.1∧r1.2.1≤s1 + 2:=q1
      have q2:=Z48 (⟨(Z1 a).code,r1.2.1,r1.2.2⟩:Gl00Src) 9 ⟨by show 0≤r1.2.1;omega,by show r1.2.1≤_;omega⟩
      have b2:=Z5z (⟨(Z1 a).code,r1.2.1,r1.2.2⟩:Gl00Src) 9 ha (by show 0≤r1.2.1;omega) (by omega) (by omega)
      generalize Z0 (⟨(Z1 a).code,r1.2.1,r1.2.2⟩:Gl00Src) 9=r2 at *
      have q2:r1.2.1≤r2.2.1∧r2.2.1≤r1.2.1 + 2:=q2
      have q3:=Z48 (⟨(Z1 a).code,r2.2.1,r2.2.2⟩:Gl00Src) 9 ⟨by show 0≤r2.2.1;omega,by show r2.2.1≤_;omega⟩
      have b3:=Z5z (⟨(Z1 a).code,r2.2.1,r2.2.2⟩:Gl00Src) 9 ha (by show 0≤r2.2.1;omega) (by omega) (by omega)
      generalize Z0 (⟨(Z1 a).code,r2.2.1,r2.2.2⟩:Gl00Src) 9=r3 at *
      have q3:r2.2.1≤r3.2.1∧r3.2.1≤r2.2.1 + 2:=q3
      refine ih (i + 1) _ _ _ (by omega) (by rw [List.length_set];omega) (by omega) (by omega) (by rw [List.length_set];omega) (by rw [List.length_set];exact hl) ?_ ?_ j hj
      · intro j' hj'
        by_cases hji:j'=i.toNat
        · subst hji
          have e:l.getD i.toNat default=m.Pq.getD i.toNat default:=hr _ (Nat.le_refl _)
          rw [Z6t (by omega),e]
          refine ⟨r1.1.toNat,r2.1.toNat,r3.1.toNat,by omega,by omega,by omega,?_⟩
          rw [Int.toNat_of_nonneg b1.1,Int.toNat_of_nonneg b2.1,Int.toNat_of_nonneg b3.1]
          rfl
        · rw [Z68 (fun h=>hji h.symm)]
          exact hd j' (by omega)
      · intro j' hj'
        rw [Z68 (by omega)]
        exact hr j' (by omega)
    · rw [decide_eq_false hi,cond_false]
      exact hd j (by omega)
theorem Z6F (a:List Int) (ha:OkB a) (m:Gm) (hn:m.Pq.length≤1000) {j:Nat} (hj:j < m.Pq.length):Mv (m.Pq.getD j default) ((Z6 a m).Pq.getD j default) :=
  Z6c a ha m hn _ 0 _ _ _ (Int.le_refl 0) (by omega) (Int.le_refl 0) (Int.le_refl 0) (by omega) rfl (fun j h=>absurd h (Nat.not_lt_zero _)) (fun j _=>rfl) j hj
def Q2 (w:Nat):Prop:=∃ q,Vl .f32 w q∧rq (-2147483648)≤q∧q≤rq 2147483648
def q2B (w:Nat):Bool:=match vl (Ieee.single.read w) with
  | some q=>decide (rq (-2147483648)≤q) && decide (q≤rq 2147483648)
  | none=>false
theorem Z4Z {w:Nat} (h:q2B w=true):Q2 w:=by
  unfold q2B at h
  split at h
  · rename_i q hq
    rw [Bool.and_eq_true] at h
    exact ⟨q,hq,odt h.1,odt h.2⟩
  · cases h
theorem Z78:((List.range 17).all fun n=>q2B (fop .quo .f32 (X7 .f32 (IntKind.wrap .i64 ((n:Int) - 8))) 1082130432))=true:=by decide +kernel
theorem Z6G (c:List Int) (hc:OkB c):∀ (k:Nat) (i:Int) (l:List Nat),0≤i→(3 - i).toNat < k→(∀ w∈l,Q2 w)→∀ w∈Zm c 2 k i l,Q2 w:=by
  intro k
  induction k with
  | zero=>intro i l _ hk;exact absurd hk (Nat.not_lt_zero _)
  | succ k ih =>
    intro i l h0 hk hl
    rw [Zm]
    by_cases hi:i < 3
    · rw [decide_eq_true hi,cond_true,XB (by omega) (by omega)]
      by_cases h2:2 + i < (c.length:Int)
      · rw [decide_eq_true h2,cond_true]
        refine ih _ _ (by omega) (by omega) ?_
        intro w hw
        rcases List.mem_or_eq_of_mem_set hw with hw | rfl
        · exact hl w hw
        · unfold Z1q
          rw [XB (n:=2 + i) (by omega) (by omega)]
          have hm:c.getD (2 + i).toNat default∈c:=by
            rw [List.getD_eq_getElem?_getD,List.getElem?_eq_getElem (show (2 + i).toNat < c.length by omega)];exact List.getElem_mem _
          have q:=hc _ hm
          rw [XB (n:=c.getD (2 + i).toNat default) (by omega) (by omega)]
          have h3:=Int.tmod_nonneg 17 q.1
          have h4:=Int.tmod_lt_of_pos (c.getD (2 + i).toNat default) (show (0:Int) < 17 by decide)
          generalize Int.tmod (c.getD (2 + i).toNat default) 17=n at *
          have h5:=List.all_eq_true.1 Z78 n.toNat (List.mem_range.2 (by omega))
          rw [Int.toNat_of_nonneg h3] at h5
          exact Z4Z h5
      · rw [decide_eq_false h2,cond_false]
        exact ih _ _ (by omega) (by omega) hl
    · rw [decide_eq_false hi,cond_false];exact hl
theorem Z79 (c:List Int) (hc:OkB c):Q2 (ZR c 2).X∧Q2 (ZR c 2).Y∧Q2 (ZR c 2).Z:=by
  have hl:(Ze c 2).length=3:=Z3R c 2
  have h:∀ w∈Ze c 2,Q2 w:=Z6G c hc _ 0 _ (Int.le_refl 0) (by decide) (by
    intro w hw
    simp only [List.mem_cons,List.not_mem_nil,or_false] at hw
    rcases hw with rfl | rfl | rfl<;>exact Z4Z (by decide +kernel))
  have hg:∀ i,i < 3→Q2 ((Ze c 2).getD i default):=by
    intro i hi
    rw [List.getD_eq_getElem?_getD,List.getElem?_eq_getElem (by omega)]
    exact h _ (List.getElem_mem _)
  have h1:Q2 1065353216:=Z4Z (by decide +kernel)
  unfold ZR
  cases Z2R c 2
  · exact ⟨hg 0 (by omega),hg 1 (by omega),hg 2 (by omega)⟩
  · exact ⟨hg 0 (by omega),hg 1 (by omega),h1⟩
theorem Z7u {ρ:Nat→Nat} {β:Nat→Bd} (h:∀ i,∃ q,Vl .f32 (ρ i) q∧rq (β i).lo≤q∧q≤rq (β i).hi):At ρ (fun i=>(vl (Ieee.single.read (ρ i))).getD 0) β:=by
  intro i
  obtain ⟨q,V,h1,h2⟩:=h i
  have V':vl (Ieee.single.read (ρ i))=some q:=V
  simp only
  rw [V']
  exact ⟨V,h1,h2⟩
theorem Z5H {b x:Nat} (h:okC b x=true):∃ q,Vl .f32 (fop .add .f32 b (dw (x:Int))) q∧rq (bdOf b).lo≤q∧q≤rq (bdOf b).hi:=by
  unfold okC at h
  split at h
  · rename_i q hq
    rw [Bool.and_eq_true] at h
    exact ⟨q,hq,odt h.1,odt h.2⟩
  · cases h
theorem Z6H {M:Gm} (hM:GOk M) (a:List Int) (ha:OkB a) {v:Gv} (hv:Q2 v.X∧Q2 v.Y∧Q2 v.Z):∃ η,At (crd ((Z6 a M).Pq ++ [v])) η (btOf M.Pq):=by
  refine ⟨_,Z7u fun i => ?_⟩
  have hn:=hM.n1
  have hl:(Z6 a M).Pq.length=M.Pq.length:=Z4X a M
  unfold btOf
  by_cases hi:i < 3 * M.Pq.length
  · rw [if_pos hi]
    have hj:i / 3 < M.Pq.length:=by omega
    obtain ⟨x,y,z,hx,hy,hz,e⟩:=Z6F a ha M (by omega) hj
    have hg:((Z6 a M).Pq ++ [v]).getD (i / 3) default=(Z6 a M).Pq.getD (i / 3) default:=by
      rw [List.getD_eq_getElem?_getD,List.getElem?_append_left (by omega),← List.getD_eq_getElem?_getD]
    have t:=hM.tab i hi
    unfold crd at t ⊢
    rw [hg,e]
    by_cases c1:i % 3=0
    · simp only [if_pos c1] at t ⊢;exact Z5H (t x hx)
    · by_cases c2:i % 3=1
      · simp only [if_neg c1,if_pos c2] at t ⊢;exact Z5H (t y hy)
      · simp only [if_neg c1,if_neg c2] at t ⊢;exact Z5H (t z hz)
  · rw [if_neg hi]
    have z:Q2 (default:Gv).X:=Z4Z (by decide +kernel)
    have z2:Q2 (default:Gv).Y:=Z4Z (by decide +kernel)
    have z3:Q2 (default:Gv).Z:=Z4Z (by decide +kernel)
    have key:∀ u:Gv,Q2 u.X∧Q2 u.Y∧Q2 u.Z→Q2 (if i % 3=0 then u.X else if i % 3=1 then u.Y else u.Z):=by
      intro u hu
      split
      · exact hu.1
      · split
        · exact hu.2.1
        · exact hu.2.2
    unfold crd
    refine key _ ?_
    rw [List.getD_eq_getElem?_getD,List.getElem?_append_right (by omega)]
    cases hk:i / 3 - (Z6 a M).Pq.length with
    | zero=>exact hv
    | succ n=>exact ⟨z,z2,z3⟩
theorem Z7a (a b:List Int):ZX a b=cond (Z1E a b) true (Z5u (Z6 a (Z5 (IntKind.wrap .i64 (2 + Z4 b 0 3)))) (Z4 b 1 ((Z6 a (Z5 (IntKind.wrap .i64 (2 + Z4 b 0 3)))).Pq.length:Int)) (ZR b 2)):=by kernel_rfl
theorem Z59 (a b:List Int) (h:a.length≤9223372036854775807) (h':b.length≤9223372036854775807) (b0:a.length≤9223372036854775807∧∀ x∈a,(Lit.int .u8 x).wf=true) (b1:b.length≤9223372036854775807∧∀ x∈b,(Lit.int .u8 x).wf=true):ZX a b=true:=by
  rw [Z7a]
  cases Z1E a b with
  | true=>rfl
  | false =>
    rw [cond_false]
    have ha:=X4w b0.2
    have hb:=X4w b1.2
    have q:=Z5T hb
    have p:=gasP a hb
    have key:∀ M,GOk M→Z5 (IntKind.wrap .i64 (2 + Z4 b 0 3))=M→Z5u (Z6 a (Z5 (IntKind.wrap .i64 (2 + Z4 b 0 3)))) (Z4 b 1 ((Z6 a (Z5 (IntKind.wrap .i64 (2 + Z4 b 0 3)))).Pq.length:Int)) (ZR b 2)=true:=by
      intro M hM e
      rw [e] at p ⊢
      obtain ⟨η,H⟩:=Z6H hM a ha (Z79 b hb)
      exact Z6B hM (ps:=(Z6 a M).Pq) (Z4X a M) p.1 p.2 H
    rcases Z5r q.1 q.2 with e | e | e
    · exact key _ Z7j e
    · exact key _ Z7o e
    · exact key _ Z7t e
end Go.Ab
