/- The rest of the pure operations. -/
import Derived.Test.YtoibkmljibnjnaaA5
set_option linter.unusedVariables false
set_option linter.unusedSimpArgs false
namespace Go.Ab
open Go.RowKit
theorem TOk.info {P:Program} {T:TypeId→Option TD} (hT:TOk P T) {t:TypeId} {d:TD} (h:T t=some d):∃ inf,P.info? t=some inf∧inf.size=d.size∧inf.bytes=d.bytes :=
 let ⟨inf,_,a,b,c,_⟩:=(hT t d h).inf;⟨inf,a,b,c⟩
/- addresses -/
def evField (T:TypeId→Option TD) (s:TypeId) (x:AV) (f:Nat) (ans:List Ans):Option PR :=
 match T s with
 | some d=>match d.kind with
  | .struct fs=>match fs[f]? with
   | some (o,z)=>match z,x with
    | 0,_=>none
    | _ + 1, .ptr r idx off=>some ⟨.ptr r idx (off + o),[],ans,[]⟩
    | _ + 1, .ref cs off=>some ⟨.ref cs (off + o),[],ans,[]⟩
    | _,_=>none
   | none=>none
  | _=>none
 | none=>none
theorem X5T {P:Program} {w:World} {H:Array Obj} {μ:Nat→Option FP} {T:TypeId→Option TD} (hT:TOk P T) {s:TypeId} {x:AV} {f:Nat} {vx:Value} {ans:List Ans} {r:PR}
  (hx:Rep H μ x vx) (h:evField T s x f ans=some r):r.new=[]∧∃ v,(Instr.fieldAt s vx f).run P w = .ok v w∧Rep H μ r.av v:=by
 unfold evField at h
 cases hs:T s with
 | none=>rw [hs] at h;cases h
 | some d =>
  rw [hs] at h;simp only at h
  obtain ⟨u,hu,hk,_⟩:=(hT s d hs).desc
  cases hkd:d.kind with
  | struct fs =>
   rw [hkd] at h hk;simp only at h
   cases u<;>simp only [Xa] at hk
   rename_i fields
   cases hf:fs[f]? with
   | none=>rw [hf] at h;cases h
   | some oz =>
    obtain ⟨o,z⟩:=oz
    rw [hf] at h;simp only at h
    obtain ⟨fd,inf,e1,e2,e3,e4⟩:=hk.2 f o z hf
    have key:∀ b n:Nat,z≠0→(Instr.fieldAt s (.pointer (some ⟨b,n,none⟩)) f).run P w = .ok (.pointer (some ⟨b,n + o,none⟩)) w:=by
     intro b n hz
     simp only [Instr.fieldAt,Sem.run_bind,run_underlying hu,Result.andThen_ok,e1]
     simp [Instr.sureAddr,fieldPlace,run_sizeOf' w e3,e4,hz,Xy,e2]
    cases z with
    | zero=>cases h
    | succ z =>
     cases hx with
     | ptr r idx off p hp =>
      simp only [Option.some.injEq] at h;subst h
      exact ⟨rfl,_,key _ _ (by omega),by rw [Nat.add_assoc];exact .ptr r idx (off + o) p hp⟩
     | ref cs off bl base val h1 h2 =>
      simp only [Option.some.injEq] at h;subst h
      exact ⟨rfl,_,key _ _ (by omega),by rw [Nat.add_assoc];exact .ref cs (off + o) bl base val h1 h2⟩
     | _=>cases h
  | _=>rw [hkd] at h;cases h
theorem X47 {H:Array Obj} {μ:Nat→Option FP} {heap:Array Obj} {p:FP} {t:TypeId} {kv:List ((Int × Int) × List (List AV))} {hole:Option Nat} (hok:X4 H μ heap (some p) (.mapN t kv hole))
  {j:Nat} {ib:Option (Nat × Nat × Nat)} (hb:p.inn[j]? = some ib):InnB heap t ib ((kv.map (·.2)).getD j []):=by
 obtain ⟨hz,h1,h2,es,h3,h4,h5⟩:=hok
 have hj:j < p.inn.length:=by
  rcases Nat.lt_or_ge j p.inn.length with h | h
  ·exact h
  ·rw [List.getElem?_eq_none h] at hb;cases hb
 have hk:j < kv.length:=by omega
 obtain ⟨e,_,_,_,g,_⟩:=h5 j _ (List.getElem?_eq_getElem hk)
 rw [List.getD_eq_getElem?_getD,hb,Option.getD_some] at g
 rw [List.getD_eq_getElem?_getD,List.getElem?_map,List.getElem?_eq_getElem hk]
 exact g
def X59 (T:TypeId→Option TD) (rows:List Row) (t:TypeId) (x i:AV) (ans:List Ans):Option PR :=
 match T t,i with
 | some d, .i _ n=>match d.kind with
  | .slice e=>match T e with
   | some de=>match x with
    | .sl l=>match ans with
     | .el cs :: ans=>if cs.length=de.size then some ⟨.ref cs 0,[],ans,[0≤n∧l[n.toNat]? = some cs]⟩ else none
     | _=>none
    | .own r=>match rows[r]? with
     | some (.vec _ es l _)=>if es=de.size then some ⟨.ptr r n.toNat 0,[],ans,[0≤n∧n.toNat < l.length]⟩ else none
     | some (.nest _ ll _)=>if de.size=1 then some ⟨.ptr r n.toNat 0,[],ans,[0≤n∧n.toNat < ll.length]⟩ else none
     | some (.nestD _ ll _)=>if de.size=1 then some ⟨.ptr r n.toNat 0,[],ans,[0≤n∧n.toNat < ll.length]⟩ else none
     | _=>none
    | .bx r m=>some ⟨.ptr r 0 (n.toNat * de.size),[],ans,[0≤n∧n.toNat < m]⟩
    | .inn r j=>match rows[r]? with
     | some (.nest _ ll _)=>if de.size=1 then some ⟨.ipt r j n.toNat,[],ans,[0≤n∧n.toNat < (ll.getD j []).length]⟩ else none
     | some (.mapN _ kv _)=>if de.size=1 then some ⟨.ipt r j n.toNat,[],ans,[0≤n∧n.toNat < ((kv.map (·.2)).getD j []).length]⟩ else none
     | some (.nestD _ ll dd)=>if de.size=1 then some ⟨.ipt r j n.toNat,[],ans,[0≤n∧n.toNat < (ll.getD j []).length,dd≤j]⟩ else none
     | _=>none
    | _=>none
   | none=>none
  | .arr k e=>match T e with
   | some de=>match x with
    | .ptr r idx off=>some ⟨.ptr r idx (off + n.toNat * de.size),[],ans,[0≤n∧n < k]⟩
    | .ref cs off=>some ⟨.ref cs (off + n.toNat * de.size),[],ans,[0≤n∧n < k]⟩
    | _=>none
   | none=>none
  | _=>none
 | _,_=>none
theorem Xl {P:Program} {w:World} {t e:TypeId} {inf:TypeInfo} {k:IntKind} {n:Int} {b o len c:Nat} (hu:P.underlying t=some (.slice e)) (hi:P.info? e=some inf) (h0:0≤n) (h1:n < len) :
  (Instr.indexAt t (.slice (some ⟨b,o,none⟩) len c) (.int k n)).run P w = .ok (.pointer (some ⟨b,o + n.toNat * inf.size,none⟩)) w:=by
 simp [Instr.indexAt,asIntOf,run_underlying hu,run_sizeOf' w hi,h0,h1,Xy]
theorem X2M {P:Program} {w:World} {t e:TypeId} {inf:TypeInfo} {k:IntKind} {n:Int} {b o len:Nat} (hu:P.underlying t=some (.array len e)) (hi:P.info? e=some inf) (h0:0≤n) (h1:n < len) :
  (Instr.indexAt t (.pointer (some ⟨b,o,none⟩)) (.int k n)).run P w = .ok (.pointer (some ⟨b,o + n.toNat * inf.size,none⟩)) w:=by
 simp [Instr.indexAt,asIntOf,run_underlying hu,run_sizeOf' w hi,h0,h1,Xy,Instr.sureAddr]
theorem X5U {P:Program} {w0:Old0} {w:World} {μ:Nat→Option FP} {T:TypeId→Option TD} (hT:TOk P T) {rows:List Row} (hm:MemW w0 μ rows w) {t:TypeId} {x i:AV} {vx vi:Value} {ans:List Ans} {r:PR}
  (hx:Rep w0.heap μ x vx) (hi:Rep w0.heap μ i vi) (h:X59 T rows t x i ans=some r) (hC:All r.C):r.new=[]∧∃ v,(Instr.indexAt t vx vi).run P w = .ok v w∧Rep w0.heap μ r.av v:=by
 unfold X59 at h
 cases hs:T t with
 | none=>rw [hs] at h;cases h
 | some d =>
  rw [hs] at h
  obtain ⟨u,hu,hk,_⟩:=(hT t d hs).desc
  cases hi with
  | i k n =>
   simp only at h
   cases hkd:d.kind with
   | slice e =>
    rw [hkd] at h hk;simp only at h
    cases u<;>simp only [Xa] at hk
    rw [hk] at hu
    cases he:T e with
    | none=>rw [he] at h;cases h
    | some de =>
     rw [he] at h;simp only at h
     obtain ⟨inf,hinf,hsz,_⟩:=hT.info he
     cases hx with
     | slE a c =>
      simp only at h
      split at h
      ·split at h
       ·simp only [Option.some.injEq] at h;subst h;simp [All] at hC
       ·cases h
      ·cases h
     | sl l es bl off c val h1 h2 h3 hlc =>
      simp only at h
      split at h
      ·rename_i cs _
       split at h
       ·rename_i hcs
        simp only [Option.some.injEq] at h;subst h
        obtain ⟨⟨c1,c2⟩,_⟩:=hC
        have hlt:n.toNat < l.length:=by
         rcases Nat.lt_or_ge n.toNat l.length with h | h
         ·exact h
         ·rw [List.getElem?_eq_none h] at c2;cases c2
        have hes:=h1 _ _ c2
        refine ⟨rfl,_,Xl hu hinf c1 (by omega),?_⟩
        rw [hsz,← hcs,hes]
        exact .ref cs 0 bl (off + n.toNat * es) (fun j=>val n.toNat j) (fun j x e=>by rw [Nat.add_assoc];exact h2 _ _ _ _ c2 e) (fun j x e=>h3 _ _ _ _ c2 e)
       ·cases h
      ·cases h
     | own r p hp =>
      simp only at h
      cases hrow:rows[r]? with
      | none=>rw [hrow] at h;cases h
      | some row =>
       rw [hrow] at h
       have hok:=hm.row r row hrow
       rw [hp] at hok
       cases row with
       | vec t2 es l full =>
        simp only at h
        split at h
        ·rename_i hes
         simp only [Option.some.injEq] at h;subst h
         obtain ⟨⟨c1,c2⟩,_⟩:=hC
         rcases hok with ⟨hz,rfl,_⟩ | ⟨hz,e1,e2,e3,_⟩
         ·simp at c2
         rw [FP.val_of hz]
         refine ⟨rfl,_,Xl hu hinf c1 (by rw [e3];omega),?_⟩
         rw [hsz,← hes,Nat.zero_add,← e1]
         exact .ptr r n.toNat 0 p hp
        ·cases h
       | nest t2 ll full =>
        simp only at h
        split at h
        ·rename_i hes
         simp only [Option.some.injEq] at h;subst h
         obtain ⟨⟨c1,c2⟩,_⟩:=hC
         rcases hok with ⟨hz,rfl,_⟩ | ⟨hz,e1,e3,_⟩
         ·simp at c2
         rw [FP.val_of hz]
         refine ⟨rfl,_,Xl hu hinf c1 (by rw [e3];omega),?_⟩
         rw [hsz,hes,Nat.zero_add,← e1]
         exact .ptr r n.toNat 0 p hp
        ·cases h
       | nestD t2 ll dd =>
        simp only at h
        split at h
        ·rename_i hes
         simp only [Option.some.injEq] at h;subst h
         obtain ⟨⟨c1,c2⟩,_⟩:=hC
         rcases hok with ⟨hz,rfl,_⟩ | ⟨hz,e1,e3,_⟩
         ·simp at c2
         rw [FP.val_of hz]
         refine ⟨rfl,_,Xl hu hinf c1 (by rw [e3];omega),?_⟩
         rw [hsz,hes,Nat.zero_add,← e1]
         exact .ptr r n.toNat 0 p hp
        ·cases h
       | _=>cases h
     | bx r m c p hp hmc =>
      simp only [Option.some.injEq] at h;subst h
      obtain ⟨⟨c1,c2⟩,_⟩:=hC
      refine ⟨rfl,_,Xl hu hinf c1 (by omega),?_⟩
      rw [hsz]
      have:=Rep.ptr (H:=w0.heap) r 0 (n.toNat * de.size) p hp
      rwa [Nat.zero_mul] at this
     | inn r j p ib hp hb =>
      simp only at h
      cases hrow:rows[r]? with
      | none=>rw [hrow] at h;cases h
      | some row =>
       rw [hrow] at h
       have hok:=hm.row r row hrow
       rw [hp] at hok
       cases row with
       | nest t2 ll full =>
        simp only at h
        split at h
        ·rename_i hes
         simp only [Option.some.injEq] at h;subst h
         obtain ⟨⟨c1,c2⟩,_⟩:=hC
         rcases hok with ⟨hz,rfl,_⟩ | ⟨hz,e1,e3,e4,e5,e6,arr,e7,e8,e9⟩
         ·simp at c2
         have hj:j < ll.length:=by
          rcases Nat.lt_or_ge j ll.length with h | h
          ·exact h
          ·rw [List.getD_eq_getElem?_getD,List.getElem?_eq_none h] at c2;simp at c2
         have hI:=e9 j _ (List.getElem?_eq_getElem hj)
         rw [List.getD_eq_getElem?_getD,hb,Option.getD_some] at hI
         rw [List.getD_eq_getElem?_getD,List.getElem?_eq_getElem hj,Option.getD_some] at c2
         cases ib with
         | none=>have:=hI.2;simp only at this;rw [this] at c2;simp at c2
         | some bnc =>
          obtain ⟨b,n2,c⟩:=bnc
          obtain ⟨_,g2,_⟩:=hI
          refine ⟨rfl,_,Xl hu hinf c1 (by rw [g2];omega),?_⟩
          rw [hsz,hes,Nat.zero_add,Nat.mul_one]
          exact .ipt r j n.toNat p b n2 c hp hb
        ·cases h
       | nestD t2 ll dd =>
        simp only at h
        split at h
        ·rename_i hes
         simp only [Option.some.injEq] at h;subst h
         obtain ⟨⟨c1,c2⟩,c3,_⟩:=hC
         rcases hok with ⟨hz,rfl,_⟩ | ⟨hz,e1,e3,e4,e6,arr,e7,e8,e9⟩
         ·simp at c2
         have hj:j < ll.length:=by
          rcases Nat.lt_or_ge j ll.length with h | h
          ·exact h
          ·rw [List.getD_eq_getElem?_getD,List.getElem?_eq_none h] at c2;simp at c2
         have hI:=e9 j _ c3 (List.getElem?_eq_getElem hj)
         rw [List.getD_eq_getElem?_getD,hb,Option.getD_some] at hI
         rw [List.getD_eq_getElem?_getD,List.getElem?_eq_getElem hj,Option.getD_some] at c2
         cases ib with
         | none=>have:=hI.2;simp only at this;rw [this] at c2;simp at c2
         | some bnc =>
          obtain ⟨b,n2,c⟩:=bnc
          obtain ⟨_,g2,_⟩:=hI
          refine ⟨rfl,_,Xl hu hinf c1 (by rw [g2];omega),?_⟩
          rw [hsz,hes,Nat.zero_add,Nat.mul_one]
          exact .ipt r j n.toNat p b n2 c hp hb
        ·cases h
       | mapN t2 kv hole =>
        simp only at h
        split at h
        ·rename_i hes
         simp only [Option.some.injEq] at h;subst h
         obtain ⟨⟨c1,c2⟩,_⟩:=hC
         have hI:=X47 hok hb
         cases ib with
         | none=>simp only [InnB] at hI;rw [hI] at c2;simp at c2
         | some bnc =>
          obtain ⟨b,n2,c⟩:=bnc
          obtain ⟨g2,_⟩:=hI
          refine ⟨rfl,_,Xl hu hinf c1 (by rw [g2];omega),?_⟩
          rw [hsz,hes,Nat.zero_add,Nat.mul_one]
          exact .ipt r j n.toNat p b n2 c hp hb
        ·cases h
       | _=>cases h
     | _=>cases h
   | arr k' e =>
    rw [hkd] at h hk;simp only at h
    cases u<;>simp only [Xa] at hk
    rw [hk.1,hk.2] at hu
    cases he:T e with
    | none=>rw [he] at h;cases h
    | some de =>
     rw [he] at h;simp only at h
     obtain ⟨inf,hinf,hsz,_⟩:=hT.info he
     cases hx with
     | ptr r idx off p hp =>
      simp only [Option.some.injEq] at h;subst h
      obtain ⟨⟨c1,c2⟩,_⟩:=hC
      exact ⟨rfl,_,X2M hu hinf c1 c2,by rw [hsz,Nat.add_assoc];exact .ptr r idx _ p hp⟩
     | ref cs off bl base val h1 h2 =>
      simp only [Option.some.injEq] at h;subst h
      obtain ⟨⟨c1,c2⟩,_⟩:=hC
      exact ⟨rfl,_,X2M hu hinf c1 c2,by rw [hsz,Nat.add_assoc];exact .ref cs _ bl base val h1 h2⟩
     | _=>cases h
   | _=>rw [hkd] at h;cases h
  | _=>cases h
/- loads -/
def evLoad (T:TypeId→Option TD) (rows:List Row) (t:TypeId) (x:AV) (ans:List Ans):Option PR :=
 match T t with
 | some d=>match x with
  | .ptr r idx off=>match rows[r]? with
   | some (.box _ cs)=>match idx with
    | 0=>match X1S d cs off with
     | some av=>some ⟨av,[],ans,[]⟩
     | none=>none
    | _=>none
   | some (.vec _ _ l _)=>match ans with
    | .el cs :: ans=>match X1S d cs off with
     | some av=>some ⟨av,[],ans,[l[idx]? = some cs]⟩
     | none=>none
    | _=>none
   | some (.nest _ ll _)=>match d.agg,off == 0 with
    | false,true=>some ⟨.inn r idx,[],ans,[idx < ll.length]⟩
    | _,_=>none
   | some (.nestD _ ll dd)=>match d.agg,off == 0 with
    | false,true=>some ⟨.inn r idx,[],ans,[idx < ll.length,dd≤idx]⟩
    | _,_=>none
   | _=>none
  | .ipt r j k=>match rows[r]? with
   | some (.nest _ ll _)=>match ans with
    | .el cs :: ans=>match X1S d cs 0 with
     | some av=>some ⟨av,[],ans,[(ll.getD j [])[k]? = some cs]⟩
     | none=>none
    | _=>none
   | some (.mapN _ kv _)=>match ans with
    | .el cs :: ans=>match X1S d cs 0 with
     | some av=>some ⟨av,[],ans,[((kv.map (·.2)).getD j [])[k]? = some cs]⟩
     | none=>none
    | _=>none
   | some (.nestD _ ll dd)=>match ans with
    | .el cs :: ans=>match X1S d cs 0 with
     | some av=>some ⟨av,[],ans,[(ll.getD j [])[k]? = some cs,dd≤j]⟩
     | none=>none
    | _=>none
   | _=>none
  | .ref cs off=>match X1S d cs off with
   | some av=>some ⟨av,[],ans,[]⟩
   | none=>none
  | _=>none
 | none=>none
theorem X6q {P:Program} {w0:Old0} {w:World} {μ:Nat→Option FP} {T:TypeId→Option TD} (hT:TOk P T) {rows:List Row} (hm:MemW w0 μ rows w) {t:TypeId} {x:AV} {vx:Value} {ans:List Ans} {r:PR}
  (hx:Rep w0.heap μ x vx) (h:evLoad T rows t x ans=some r) (hC:All r.C):r.new=[]∧∃ v,(Instr.loadAt t vx).run P w = .ok v w∧Rep w0.heap μ r.av v:=by
 unfold evLoad at h
 cases hs:T t with
 | none=>rw [hs] at h;cases h
 | some d =>
  rw [hs] at h;simp only at h
  have hd:=hT t d hs
  have go:∀ (a:Addr),(Instr.loadAt t (.pointer (some a))).run P w=(loadVar t a).run P w:=by
   intro a;simp [Instr.loadAt,Instr.sureAddr]
  cases hx with
  | ptr rr idx off p hp =>
   simp only at h
   cases hrow:rows[rr]? with
   | none=>rw [hrow] at h;cases h
   | some row =>
    rw [hrow] at h
    have hok:=hm.row rr row hrow
    rw [hp] at hok
    cases row with
    | box t2 cs =>
     cases idx with
     | succ idx=>cases h
     | zero =>
      simp only at h
      split at h
      ·rename_i av hav
       simp only [Option.some.injEq] at h;subst h
       obtain ⟨_,e1,e2,arr,e3,e4,e5⟩:=hok
       obtain ⟨v,r1,r2⟩:=X1j hd (H:=w0.heap) (μ:=μ) (w:=w) (cs:=cs) (b:=p.blk) (base:=0 * p.es) (off:=off) (av:=av) (fun j c e=>by
        have hlt:j < arr.size:=by
         rcases Nat.lt_or_ge j cs.length with h | h
         ·omega
         ·rw [List.getElem?_eq_none h] at e;cases e
        refine ⟨_,?_,e5 j c e⟩
        unfold X5;rw [e3]
        simp only [Nat.zero_mul,Nat.zero_add]
        rw [Array.getElem?_eq_getElem hlt,Array.getD_eq_getD_getElem?,Array.getElem?_eq_getElem hlt];rfl) hav
       exact ⟨rfl,v,by rw [go];exact r1,r2⟩
      ·cases h
    | vec t2 es l full =>
     simp only at h
     split at h
     ·rename_i cs _
      split at h
      ·rename_i av hav
       simp only [Option.some.injEq] at h;subst h
       obtain ⟨c1,_⟩:=hC
       rcases hok with ⟨hz,rfl,_⟩ | ⟨hz,e1,e2,e3,e4,e5,arr,e6,e7,e8⟩
       ·simp at c1
       obtain ⟨v,r1,r2⟩:=X1j hd (H:=w0.heap) (μ:=μ) (w:=w) (cs:=cs) (b:=p.blk) (base:=idx * p.es) (off:=off) (av:=av) (fun j c e=>by
        obtain ⟨v,ev,rv⟩:=(e8 idx cs c1).2 j c e
        refine ⟨v,?_,Rep.of_S rv⟩
        unfold X5;rw [e6,e1];exact ev) hav
       exact ⟨rfl,v,by rw [go];exact r1,r2⟩
      ·cases h
     ·cases h
    | nest t2 ll full =>
     simp only at h
     split at h
     ·rename_i hagg hoff
      simp only [beq_iff_eq] at hoff;subst hoff
      simp only [Option.some.injEq] at h;subst h
      obtain ⟨c1,_⟩:=hC
      rcases hok with ⟨hz,rfl,_⟩ | ⟨hz,e1,e3,e4,e5,e6,arr,e7,e8,e9⟩
      ·simp at c1
      have hI:=e9 idx _ (List.getElem?_eq_getElem c1)
      obtain ⟨desc,hu,_,ha⟩:=hd.desc
      refine ⟨rfl,innV (p.inn.getD idx none),?_,?_⟩
      ·rw [go]
       unfold loadVar
       rw [Sem.run_bind,run_isAgg' w hu,Result.andThen_ok,← ha,if_neg (by rw [hagg];simp)]
       refine run_load' w ?_
       unfold X5
       rw [e7,e1,Nat.mul_one,Nat.add_zero,← hI.1]
       simp only
       rw [Array.getElem?_eq_getElem (by omega),Array.getD_eq_getD_getElem?,Array.getElem?_eq_getElem (by omega)];rfl
      ·refine .inn rr idx p _ hp ?_
       rw [List.getD_eq_getElem?_getD,List.getElem?_eq_getElem (by omega)];rfl
     ·cases h
    | nestD t2 ll dd =>
     simp only at h
     split at h
     ·rename_i hagg hoff
      simp only [beq_iff_eq] at hoff;subst hoff
      simp only [Option.some.injEq] at h;subst h
      obtain ⟨c1,c3,_⟩:=hC
      rcases hok with ⟨hz,rfl,_⟩ | ⟨hz,e1,e3,e4,e6,arr,e7,e8,e9⟩
      ·simp at c1
      have hI:=e9 idx _ c3 (List.getElem?_eq_getElem c1)
      obtain ⟨desc,hu,_,ha⟩:=hd.desc
      refine ⟨rfl,innV (p.inn.getD idx none),?_,?_⟩
      ·rw [go]
       unfold loadVar
       rw [Sem.run_bind,run_isAgg' w hu,Result.andThen_ok,← ha,if_neg (by rw [hagg];simp)]
       refine run_load' w ?_
       unfold X5
       rw [e7,e1,Nat.mul_one,Nat.add_zero,← hI.1]
       simp only
       rw [Array.getElem?_eq_getElem (by omega),Array.getD_eq_getD_getElem?,Array.getElem?_eq_getElem (by omega)];rfl
      ·refine .inn rr idx p _ hp ?_
       rw [List.getD_eq_getElem?_getD,List.getElem?_eq_getElem (by omega)];rfl
     ·cases h
    | _=>cases h
  | ipt rr j k p b n c hp hb =>
   simp only at h
   cases hrow:rows[rr]? with
   | none=>rw [hrow] at h;cases h
   | some row =>
    rw [hrow] at h
    have hok:=hm.row rr row hrow
    rw [hp] at hok
    cases row with
    | nest t2 ll full =>
     simp only at h
     split at h
     ·rename_i cs _
      split at h
      ·rename_i av hav
       simp only [Option.some.injEq] at h;subst h
       obtain ⟨c1,_⟩:=hC
       rcases hok with ⟨hz,rfl,_⟩ | ⟨hz,e1,e3,e4,e5,e6,arr,e7,e8,e9⟩
       ·simp at c1
       have hj:j < ll.length:=by
        rcases Nat.lt_or_ge j ll.length with h | h
        ·exact h
        ·rw [List.getD_eq_getElem?_getD,List.getElem?_eq_none h] at c1;simp at c1
       have hI:=e9 j _ (List.getElem?_eq_getElem hj)
       rw [List.getD_eq_getElem?_getD,hb,Option.getD_some] at hI
       rw [List.getD_eq_getElem?_getD,List.getElem?_eq_getElem hj,Option.getD_some] at c1
       obtain ⟨_,g2,g3,arr2,t3,g4,g5,g6⟩:=hI
       obtain ⟨v,r1,r2⟩:=X1j hd (H:=w0.heap) (μ:=μ) (w:=w) (cs:=cs) (b:=b) (base:=k) (off:=0) (av:=av) (fun i x e=>by
        obtain ⟨v,ev,rv⟩:=(g6 k cs c1).2 i x e
        refine ⟨v,?_,Rep.of_S rv⟩
        unfold X5;rw [g4];simpa using ev) hav
       exact ⟨rfl,v,by rw [go];exact r1,r2⟩
      ·cases h
     ·cases h
    | nestD t2 ll dd =>
     simp only at h
     split at h
     ·rename_i cs _
      split at h
      ·rename_i av hav
       simp only [Option.some.injEq] at h;subst h
       obtain ⟨c1,c3,_⟩:=hC
       rcases hok with ⟨hz,rfl,_⟩ | ⟨hz,e1,e3,e4,e6,arr,e7,e8,e9⟩
       ·simp at c1
       have hj:j < ll.length:=by
        rcases Nat.lt_or_ge j ll.length with h | h
        ·exact h
        ·rw [List.getD_eq_getElem?_getD,List.getElem?_eq_none h] at c1;simp at c1
       have hI:=e9 j _ c3 (List.getElem?_eq_getElem hj)
       rw [List.getD_eq_getElem?_getD,hb,Option.getD_some] at hI
       rw [List.getD_eq_getElem?_getD,List.getElem?_eq_getElem hj,Option.getD_some] at c1
       obtain ⟨_,g2,g3,arr2,t3,g4,g5,g6⟩:=hI
       obtain ⟨v,r1,r2⟩:=X1j hd (H:=w0.heap) (μ:=μ) (w:=w) (cs:=cs) (b:=b) (base:=k) (off:=0) (av:=av) (fun i x e=>by
        obtain ⟨v,ev,rv⟩:=(g6 k cs c1).2 i x e
        refine ⟨v,?_,Rep.of_S rv⟩
        unfold X5;rw [g4];simpa using ev) hav
       exact ⟨rfl,v,by rw [go];exact r1,r2⟩
      ·cases h
     ·cases h
    | mapN t2 kv hole =>
     simp only at h
     split at h
     ·rename_i cs _
      split at h
      ·rename_i av hav
       simp only [Option.some.injEq] at h;subst h
       obtain ⟨c1,_⟩:=hC
       obtain ⟨g2,g3,arr2,g4,g5,g6⟩:=X47 hok hb
       obtain ⟨v,r1,r2⟩:=X1j hd (H:=w0.heap) (μ:=μ) (w:=w) (cs:=cs) (b:=b) (base:=k) (off:=0) (av:=av) (fun i x e=>by
        obtain ⟨v,ev,rv⟩:=(g6 k cs c1).2 i x e
        refine ⟨v,?_,Rep.of_S rv⟩
        unfold X5;rw [g4];simpa using ev) hav
       exact ⟨rfl,v,by rw [go];exact r1,r2⟩
      ·cases h
     ·cases h
    | _=>cases h
  | ref cs off bl base val h1 h2 =>
   simp only at h
   split at h
   ·rename_i av hav
    simp only [Option.some.injEq] at h;subst h
    obtain ⟨v,r1,r2⟩:=X1j hd (H:=w0.heap) (μ:=μ) (w:=w) (cs:=cs) (b:=bl) (base:=base) (off:=off) (av:=av) (fun j c e =>
     ⟨val j,Old.cellAt hm.bel.old (h1 j c e),(h2 j c e).mono (fun r p e=>by cases e)⟩) hav
    exact ⟨rfl,v,by rw [go];exact r1,r2⟩
   ·cases h
  | _=>cases h
/- len, min, max, extract -/
def lenOf (rows:List Row):AV→Option Int
 | .nils=>some 0
 | .sl l=>some l.length
 | .bx _ n=>some n
 | .own r=>match rows[r]? with
  | some (.vec _ _ l _)=>some l.length
  | some (.nest _ ll _)=>some ll.length
  | some (.nestD _ ll _)=>some ll.length
  | some (.lits _ cs)=>some cs.length
  | _=>none
 | .inn r j=>match rows[r]? with
  | some (.nest _ ll _)=>some (ll.getD j []).length
  | some (.mapN _ kv _)=>some ((kv.map (·.2)).getD j []).length
  | _=>none
 | _=>none
theorem X7F {w0:Old0} {w:World} {μ:Nat→Option FP} {rows:List Row} (hm:MemW w0 μ rows w) {x:AV} {vx:Value} {n:Int} (hx:Rep w0.heap μ x vx) (h:lenOf rows x=some n):∃ a l c,vx = .slice a l c∧(l:Int)=n:=by
 cases hx with
 | nils=>simp [lenOf] at h;exact ⟨_,_,_,rfl,by simpa using h⟩
 | slE a c=>simp [lenOf] at h;exact ⟨_,_,_,rfl,by simpa using h⟩
 | sl l es bl off c val h1 h2 h3 hlc=>simp [lenOf] at h;exact ⟨_,_,_,rfl,h⟩
 | bx r m c p hp hmc=>simp [lenOf] at h;exact ⟨_,_,_,rfl,h⟩
 | own r p hp =>
  simp only [lenOf] at h
  cases hrow:rows[r]? with
  | none=>rw [hrow] at h;cases h
  | some row =>
   rw [hrow] at h
   have hok:=hm.row r row hrow
   rw [hp] at hok
   cases row with
   | vec t es l full =>
    simp only [Option.some.injEq] at h
    rcases hok with ⟨hz,rfl,_⟩ | ⟨hz,e1,e2,e3,_⟩
    ·exact ⟨_,_,_,FP.val_nul hz,by simpa using h⟩
    ·exact ⟨_,_,_,FP.val_of hz,by rw [e3];exact h⟩
   | nest t ll full =>
    simp only [Option.some.injEq] at h
    rcases hok with ⟨hz,rfl,_⟩ | ⟨hz,e1,e3,_⟩
    ·exact ⟨_,_,_,FP.val_nul hz,by simpa using h⟩
    ·exact ⟨_,_,_,FP.val_of hz,by rw [e3];exact h⟩
   | nestD t ll dd =>
    simp only [Option.some.injEq] at h
    rcases hok with ⟨hz,rfl,_⟩ | ⟨hz,e1,e3,_⟩
    ·exact ⟨_,_,_,FP.val_nul hz,by simpa using h⟩
    ·exact ⟨_,_,_,FP.val_of hz,by rw [e3];exact h⟩
   | lits t cs=>obtain ⟨hz,e1,e2,e3,_⟩:=hok;simp only [Option.some.injEq] at h;exact ⟨_,_,_,FP.val_of hz,by rw [e3];exact h⟩
   | _=>cases h
 | inn r j p ib hp hb =>
  simp only [lenOf] at h
  cases hrow:rows[r]? with
  | none=>rw [hrow] at h;cases h
  | some row =>
   rw [hrow] at h
   have hok:=hm.row r row hrow
   rw [hp] at hok
   cases row with
   | nest t ll full =>
    simp only at h
    rcases hok with ⟨hz,rfl,hn⟩ | ⟨hz,e1,e3,e4,e5,e6,arr,e7,e8,e9⟩
    ·rw [hn] at hb;simp at hb
    have hj:j < ll.length:=by
     rw [← e6]
     rcases Nat.lt_or_ge j p.inn.length with h | h
     ·exact h
     ·rw [List.getElem?_eq_none h] at hb;cases hb
    simp only [Option.some.injEq] at h
    have hI:=e9 j _ (List.getElem?_eq_getElem hj)
    rw [List.getD_eq_getElem?_getD,hb,Option.getD_some] at hI
    rw [List.getD_eq_getElem?_getD,List.getElem?_eq_getElem hj,Option.getD_some] at h
    cases ib with
    | none=>have:=hI.2;simp only at this;rw [this] at h;exact ⟨_,_,_,rfl,by simpa using h⟩
    | some bnc =>
     obtain ⟨b,n2,c⟩:=bnc
     exact ⟨_,_,_,rfl,by rw [hI.2.1];exact h⟩
   | mapN t2 kv hole =>
    simp only [Option.some.injEq] at h
    have hI:=X47 hok hb
    cases ib with
    | none=>simp only [InnB] at hI;rw [hI] at h;exact ⟨_,_,_,rfl,by simpa using h⟩
    | some bnc =>
     obtain ⟨b,n2,c⟩:=bnc
     exact ⟨_,_,_,rfl,by rw [hI.1];exact h⟩
   | _=>cases h
 | _=>simp [lenOf] at h
def X1G (mx:Bool) (x y:AV) (ans:List Ans):Option PR :=
 match x,y with
 | .f k a, .f k' b=>match mx with
  | true=>if k=k' then some ⟨.f k (fmax k a b),[],ans,[]⟩ else none
  | false=>none
 | .i k a, .i _ b=>match ans with
  | .num n :: ans=>some ⟨.i k n,[],ans,[(if mx then (if b > a then b else a) else (if b < a then b else a))=n]⟩
  | _=>none
 | _,_=>none
theorem X7G {P:Program} {w:World} {H:Array Obj} {μ:Nat→Option FP} {x y:AV} {vx vy:Value} {ans:List Ans} {r:PR} (ts:Array TypeId) (t:TypeId)
  (hx:Rep H μ x vx) (hy:Rep H μ y vy) (h:X1G true x y ans=some r) (hC:All r.C):r.new=[]∧∃ v w',(Builtin.max_ ts t #[vx,vy]).run P w = .ok v w'∧Drew w w'∧Rep H μ r.av v:=by
 have e:(Builtin.max_ ts t #[vx,vy]).run P w=(Builtin.max2 vx vy).run P w:=by
  simp only [Builtin.max_,List.foldlM_cons,List.foldlM_nil,Sem.run_bind]
  cases (Builtin.max2 vx vy).run P w<;>simp
 rw [e]
 cases hx with
 | f k a b h1 h2 =>
  cases hy with
  | f k' a' b' h3 h4 =>
   simp only [X1G] at h
   split at h
   ·rename_i hk;subst hk;subst h2;subst h4
    simp only [Option.some.injEq] at h;subst h
    obtain ⟨rr,w',e1,e2,e3,e4⟩:=X9t (P:=P) k b b' w h1 h3
    exact ⟨rfl,_,w',e1,e2, .f _ _ _ e4 e3⟩
   ·cases h
  | _=>cases h
 | i k a =>
  cases hy with
  | i k' b =>
   simp only [X1G] at h
   split at h
   ·simp only [Option.some.injEq] at h;subst h
    simp only [All,and_true,if_true] at hC
    exact ⟨rfl, .int k _,w,congrArg (fun z=>Result.ok (Value.int k z) w) hC, .none, .i _ _⟩
   ·cases h
  | _=>cases h
 | _=>cases h
theorem X7H {P:Program} {w:World} {H:Array Obj} {μ:Nat→Option FP} {x y:AV} {vx vy:Value} {ans:List Ans} {r:PR} (ts:Array TypeId) (t:TypeId)
  (hx:Rep H μ x vx) (hy:Rep H μ y vy) (h:X1G false x y ans=some r) (hC:All r.C):r.new=[]∧∃ v w',(Builtin.min_ ts t #[vx,vy]).run P w = .ok v w'∧Drew w w'∧Rep H μ r.av v:=by
 have e:(Builtin.min_ ts t #[vx,vy]).run P w=(Builtin.min2 vx vy).run P w:=by
  simp only [Builtin.min_,List.foldlM_cons,List.foldlM_nil,Sem.run_bind]
  cases (Builtin.min2 vx vy).run P w<;>simp
 rw [e]
 cases hx with
 | f k a b h1 h2=>cases hy<;>cases h
 | i k a =>
  cases hy with
  | i k' b =>
   simp only [X1G] at h
   split at h
   ·simp only [Option.some.injEq] at h;subst h
    simp only [All,and_true,Bool.false_eq_true,if_false] at hC
    exact ⟨rfl, .int k _,w,congrArg (fun z=>Result.ok (Value.int k z) w) hC, .none, .i _ _⟩
   ·cases h
  | _=>cases h
 | _=>cases h
end Go.Ab
