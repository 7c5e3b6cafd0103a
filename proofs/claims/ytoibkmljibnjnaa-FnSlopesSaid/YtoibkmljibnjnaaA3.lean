/- Operations that write no old memory: what they give, told over abstract values, and that the machine's do so. -/
import Derived.Test.YtoibkmljibnjnaaA2
set_option linter.unusedVariables false
set_option linter.unusedSimpArgs false
namespace Go.Ab
open Go.RowKit
inductive TK where
 | bool | int (k:IntKind) | float (k:FloatKind)
 | struct (fs:List (Nat × Nat))
 | slice (e:TypeId) | arr (n:Nat) (e:TypeId) | map (e:TypeId) | smap (k:Option IntKind) | other
structure TD where
 agg:Bool
 size:Nat
 bytes:Nat
 zero:List AV
 kind:TK
def Xa (P:Program):TypeDesc→TK→Prop
 | .bool, .bool=>True
 | .int k, .int k'=>k=k'
 | .float k, .float k'=>k=k'
 | .struct fields, .struct fs=>fields.size=fs.length∧∀ (j o z:Nat),fs[j]? = some (o,z)→∃ (f:Field) (inf:TypeInfo),fields[j]? = some f∧f.offset=o∧P.info? f.type=some inf∧inf.size=z
 | .slice e, .slice e'=>e=e'
 | .array n e, .arr n' e'=>n=n'∧e=e'
 | .map k el, .map e => ∃ (k2:TypeId) (inf inf2:TypeInfo),P.underlying k=some (.array 2 k2)∧P.underlying k2=some (.int .i64)∧P.info? k2=some inf∧inf.size=1∧P.underlying el=some (.slice e)∧P.info? el=some inf2∧inf2.zero=some (.slice none 0 0)
 | .map k el, .smap kd => ∃ (k2:TypeId) (inf inf2:TypeInfo),P.underlying k=some (.array 2 k2)∧P.underlying k2=some (.int .i64)∧P.info? k2=some inf∧inf.size=1∧P.info? el=some inf2∧inf2.zero=some (scV kd 0)
 | _, .other=>True
 | _,_=>False
def X3c:TypeDesc→Bool
 | .struct _ | .array _ _=>true
 | _=>false
structure TyOk (P:Program) (t:TypeId) (d:TD):Prop where
 inf:∃ inf z,P.info? t=some inf∧inf.size=d.size∧inf.bytes=d.bytes∧inf.zero=some z∧z.cells.size=d.zero.length∧∀ j c,d.zero[j]? = some c→∀ H μ,Rep H μ c (z.cells.getD j undef)
 desc:∃ desc,P.underlying t=some desc∧Xa P desc d.kind∧d.agg=X3c desc
def TOk (P:Program) (T:TypeId→Option TD):Prop:=∀ t d,T t=some d→TyOk P t d
inductive Ex where
 | norm | exit (id:Nat) | ret
inductive Ans where
 | bo (b:Bool)
 | num (n:Int)
 | el (cs:List AV)
 | call (r:AV) (new:List Row)
 | calls (r:AV) (rows:List Row)
 | loop (mask:List Bool) (n:Nat) (e:Ex) (st:St)
 | keep (ks:List Nat)
structure PR where
 av:AV
 new:List Row
 ans:List Ans
 C:List Prop
def All:List Prop→Prop
 | []=>True
 | p :: l=>p∧All l
theorem All.append {l m:List Prop}:All (l ++ m)↔All l∧All m:=by
 induction l with
 | nil=>simp [All]
 | cons p l ih=>simp [All,ih,and_assoc]
def X45:Value→AV
 | .bool b => .b b
 | .int k n => .i k n
 | .float k x=>if x < 2 ^ k.format.width then .f k (cn k x) else .any
 | .slice none 0 0 => .nils
 | _ => .any
def opd (st:St):Operand→AV
 | .tmp t=>(st.tm[t]?).getD .any
 | .const v=>X45 v
 | .func f => .fn f []
 | .global _ => .any
section rep
variable {w0:Old0} {μ:Nat→Option FP} {st:St} {a:Act} {w:World}
theorem X5v (H:Array Obj) (μ:Nat→Option FP) (v:Value):Rep H μ (X45 v) v:=by
 unfold X45
 split
 ·exact .b _
 ·exact .i _ _
 ·split
  ·rename_i h;exact .f _ _ _ h rfl
  ·exact .any _
 ·exact .nils
 ·exact .any _
theorem RelW.opd (h:RelW w0 μ st a w) (x:Operand):Rep w0.heap μ (opd st x) (a.eval x):=by
 cases x with
 | tmp t =>
  simp only [Ab.opd,Act.eval]
  cases e:st.tm[t]? with
  | none=>exact .any _
  | some v=>exact h.tmps t v e
 | const v=>exact X5v _ _ v
 | global g=>exact .any _
 | func f=>exact .fn f [] #[] rfl (fun j c e=>by simp at e)
theorem RelM.opd (h:RelM w0 μ st a w) (x:Operand):Rep w0.heap μ (opd st x) (a.eval x):=h.toW.opd x
def Xb (P:Program) (o:Oper) (a:Act) (w:World) (R:Value→World→Prop):Prop :=
 ∀ (next:Act→World→Prop) (Q:Exit→Act→World→Prop),(∀ v w',R v w'→next (a.put o.dst v) w')→o.upon P a next Q ((execOp a.eval o).run P w)
theorem Xb.value {P:Program} {o:Oper} {R:Value→World→Prop} {v:Value} {w':World} (h:(execOp a.eval o).run P w = .ok (.value v) w') (hR:R v w'):Xb P o a w R:=by
 intro next Q hn
 rw [h]
 exact hn v w' hR
theorem Xb.enter {P:Program} {o:Oper} {R:Value→World→Prop} {f:FuncId} {args:Array Value} {w1:World} (h:(execOp a.eval o).run P w = .ok (.enter f args) w1)
  (hc:Calls P f args w1 fun e w' => ∃ v,e = .returned v∧R v w'):Xb P o a w R:=by
 intro next Q hn
 rw [h]
 exact hc.mono fun e w' ⟨v,he,hR⟩=>by subst he;exact hn v w' hR
end rep
def Post (w0:Old0) (μ:Nat→Option FP) (lo:Nat) (w:World) (r:PR) (v:Value) (w':World):Prop :=
 ∃ μ',Grow w0.heap μ μ' lo r.new w.heap.size w'.heap∧Bw w.heap.size w w'∧Rep w0.heap μ' r.av v
theorem Post.plain {w0:Old0} {μ:Nat→Option FP} {lo:Nat} {w:World} {av:AV} {ans:List Ans} {C:List Prop} {v:Value} (h:Rep w0.heap μ av v):Post w0 μ lo w ⟨av,[],ans,C⟩ v w :=
 ⟨μ,Grow.nil _ _ _ _ _,Bw.refl _ _,h⟩
theorem Drew.below {w w':World} (h:Drew w w') (B:Nat):Bw B w w':=by
 cases h with
 | none=>exact Bw.refl _ _
 | one=>exact ⟨⟨rfl,rfl,rfl,Nat.le_refl _,fun _ _=>rfl⟩,Nat.le_succ _⟩
theorem Drew.heap {w w':World} (h:Drew w w'):w'.heap=w.heap:=by cases h<;>rfl
theorem Post.drew {w0:Old0} {μ:Nat→Option FP} {lo:Nat} {w w':World} {av:AV} {ans:List Ans} {C:List Prop} {v:Value} (hd:Drew w w') (h:Rep w0.heap μ av v):Post w0 μ lo w ⟨av,[],ans,C⟩ v w' :=
 ⟨μ,by rw [hd.heap];exact Grow.nil _ _ _ _ _,hd.below _,h⟩
def X1i:Row→Bool
 | .dead=>true
 | _=>false
def setμ (μ:Nat→Option FP) (lo:Nat) (p:FP):Nat→Option FP:=fun r=>if r=lo then some p else μ r
theorem X6k {μ:Nat→Option FP} {lo:Nat} {p:FP} (hn:μ lo=none):Sub μ (setμ μ lo p):=by
 intro r q e
 unfold setμ
 split
 ·rename_i h;subst h;rw [hn] at e;cases e
 ·exact e
theorem Grow.one {H:Array Obj} {μ:Nat→Option FP} {lo:Nat} {row:Row} {n:Nat} {heap:Array Obj} {p:FP}
  (hrow:X4 H (setμ μ lo p) heap (some p) row) (hb:p.ib.filterMap id=[]) (hp:n≤p.blk) (hp2:p.blk < heap.size) (hd:X1i row=false):Grow H μ (setμ μ lo p) lo [row] n heap where
 nd i h:=by
  cases i with
  | zero=>simp at h;subst h;simp [X1i] at hd
  | succ i=>simp at h
 same r h:=by unfold setμ;rw [if_neg (by simp at h;omega)]
 row i rw' e:=by
  cases i with
  | zero=>simp at e;subst e;simpa [setμ] using hrow
  | succ i=>simp at e
 sep r r' p p' b h1 h2 h3 h4:=by simp at h2 h4;omega
 nodup r q h1 h2 e:=by
  have:r=lo:=by simp at h2;omega
  subst this;simp [setμ] at e;subst e
  exact (FP.blks_one hb).1
 fresh r q b h1 h2 e hm:=by
  have:r=lo:=by simp at h2;omega
  subst this;simp [setμ] at e;subst e
  rw [(FP.blks_one hb).2 b hm];exact ⟨hp,hp2⟩
def newB (w:World) (arr:Array Value) (t:TypeId):World:=w.alloc (.cells arr t (0,0))
theorem X1R (w:World) (arr:Array Value) (t:TypeId):Bw w.heap.size w (newB w arr t) :=
 ⟨⟨rfl,rfl,rfl,by simp [newB],fun k hk=>Below.heap_alloc _ _ _ hk⟩,Nat.le_refl _⟩
theorem Xq (w:World) (arr:Array Value) (t:TypeId):(newB w arr t).heap[w.heap.size]? = some (.cells arr t (0,0)):=by
 show (w.heap.push _)[w.heap.size]? = _;simp
theorem X2e (w:World) (arr:Array Value) (t:TypeId):(newB w arr t).heap.size=w.heap.size + 1:=by simp [newB]
theorem Post.new {w0:Old0} {μ:Nat→Option FP} {lo:Nat} {w:World} {av:AV} {row:Row} {ans:List Ans} {C:List Prop} {v:Value} {arr:Array Value} {t:TypeId} {p:FP}
  (hn:μ lo=none) (hp:p.blk=w.heap.size) (hi:p.ib.filterMap id=[]) (hrow:∀ μ',Sub μ μ'→X4 w0.heap μ' (newB w arr t).heap (some p) row) (hav:∀ μ',μ' lo=some p→Rep w0.heap μ' av v) (hd:X1i row=false:=by rfl) :
  Post w0 μ lo w ⟨av,[row],ans,C⟩ v (newB w arr t) :=
 ⟨setμ μ lo p,Grow.one (hrow _ (X6k hn)) hi (by omega) (by rw [X2e];omega) hd,X1R _ _ _,hav _ (by simp [setμ])⟩
section runs
variable {P:Program} (w:World)
theorem run_typeInfo' {t:TypeId} {inf:TypeInfo} (h:P.info? t=some inf):(typeInfo t).run P w = .ok inf w:=by
 simp [typeInfo,h,program,Sem.run]
theorem run_sizeOf' {t:TypeId} {inf:TypeInfo} (h:P.info? t=some inf):(sizeOf t).run P w = .ok inf.size w:=by
 simp [sizeOf,run_typeInfo' w h]
theorem run_zeroValue' {t:TypeId} {inf:TypeInfo} {z:Value} (h:P.info? t=some inf) (hz:inf.zero=some z):(zeroValue t).run P w = .ok z w:=by
 simp [zeroValue,run_typeInfo' w h,hz]
theorem run_isAgg' {t:TypeId} {d:TypeDesc} (h:P.underlying t=some d):(isAgg t).run P w = .ok (X3c d) w:=by
 unfold isAgg
 cases d<;>simp [run_underlying h,X3c]
theorem run_newRow' (t:TypeId) (arr:Array Value):(newRow t arr).run P w = .ok ⟨w.heap.size,0,none⟩ (newB w arr t):=by
 simp [newRow,newObj,Sem.run,newB]
theorem Xy (b o n:Nat):(⟨b,o,none⟩:Addr).add n=⟨b,o + n,none⟩:=by
 unfold Addr.add;split
 ·rename_i h;subst h;rfl
 ·rfl
theorem run_load' {b o:Nat} {v:Value} (h:X5 w.heap b o=some v):(load ⟨b,o,none⟩).run P w = .ok v w:=by
 rw [← X1d] at h
 simp [load,Sem.run,h]
theorem X4f (b o:Nat) (val:Nat→Value):∀ (n i:Nat) (acc:Array Value),(∀ j,j < n→X5 w.heap b (o + (i + j))=some (val (i + j))) →
  (loadCellsFrom ⟨b,o,none⟩ i n acc).run P w = .ok (acc ++ ((List.range n).map fun j=>val (i + j)).toArray) w:=by
 intro n
 induction n with
 | zero=>intro i acc _;simp [loadCellsFrom]
 | succ n ih =>
  intro i acc h
  have h0:=h 0 (by omega)
  simp only [Nat.add_zero] at h0
  simp only [loadCellsFrom,Sem.run_bind,Xy,run_load' (P:=P) w h0,Result.andThen_ok]
  rw [ih (i + 1) (acc.push (val i)) (fun j hj=>by have:=h (j + 1) (by omega);rwa [show i + (j + 1)=i + 1 + j from by omega] at this)]
  congr 1
  rw [List.range_succ_eq_map]
  simp [Function.comp_def,Nat.add_assoc,Nat.add_comm 1]
theorem run_loadCells' (b o:Nat) (val:Nat→Value) (n:Nat) (h:∀ j,j < n→X5 w.heap b (o + j)=some (val j)) :
  (loadCells ⟨b,o,none⟩ n).run P w = .ok ((List.range n).map val).toArray w:=by
 unfold loadCells
 rw [X4f w b o val n 0 #[] (by simpa using h)]
 simp
end runs
def PW (H:Array Obj) (μ:Nat→Option FP) (cs:List AV) (arr:Array Value):Prop :=
 arr.size=cs.length∧∀ j c,cs[j]? = some c→Rep H μ c (arr.getD j undef)
def Xj:AV→Option (List AV)
 | .agg cs=>some cs
 | .any=>none
 | .tup _=>none
 | .mp _=>none
 | .bx _ _=>none
 | v=>some [v]
theorem X1b {H:Array Obj} {μ:Nat→Option FP} {v:AV} {x:Value} (h:Rep H μ v x):PW H μ [v] #[x] :=
 ⟨rfl,fun j c e=>by cases j<;>simp at e;subst e;simpa using h⟩
theorem X4p {H:Array Obj} {μ:Nat→Option FP} {v:AV} {x:Value} {vs:List AV} (h:Rep H μ v x) (hc:Xj v=some vs):PW H μ vs x.cells:=by
 cases h with
 | any=>simp [Xj] at hc
 | tup=>simp [Xj] at hc
 | mp=>simp [Xj] at hc
 | bx=>simp [Xj] at hc
 | agg cs arr hs hh=>simp [Xj] at hc;subst hc;exact ⟨hs,hh⟩
 | b x=>simp [Xj] at hc;subst hc;exact X1b (.b x)
 | i k n=>simp [Xj] at hc;subst hc;exact X1b (.i k n)
 | f k x bits h e=>simp [Xj] at hc;subst hc;exact X1b (.f k x bits h e)
 | nils=>simp [Xj] at hc;subst hc;exact X1b .nils
 | slE a c=>simp [Xj] at hc;subst hc;exact X1b (.slE a c)
 | sl l es bl off c val h h1 h2 hlc=>simp [Xj] at hc;subst hc;exact X1b (.sl l es bl off c val h h1 h2 hlc)
 | own r p h=>simp [Xj] at hc;subst hc;rw [FP.val_cells];exact X1b (.own r p h)
 | inn r j p ib h hb=>simp [Xj] at hc;subst hc;cases ib<;>exact X1b (.inn r j p _ h hb)
 | ipt r j k p b n c h hb=>simp [Xj] at hc;subst hc;exact X1b (.ipt r j k p b n c h hb)
 | ptr r idx off p h=>simp [Xj] at hc;subst hc;exact X1b (.ptr r idx off p h)
 | ref cs off bl base val h h2=>simp [Xj] at hc;subst hc;exact X1b (.ref cs off bl base val h h2)
 | fn g cap vs hs h=>simp [Xj] at hc;subst hc;exact X1b (.fn g cap vs hs h)
def XT (cs:List AV) (off:Nat) (vs:List AV):List AV:=cs.take off ++ vs ++ cs.drop (off + vs.length)
theorem X1c (cs:List AV) (off:Nat) (vs:List AV) (h:off + vs.length≤cs.length):(XT cs off vs).length=cs.length:=by
 simp [XT];omega
theorem getElem?_splice (cs:List AV) (off:Nat) (vs:List AV) (h:off + vs.length≤cs.length) (j:Nat) :
  (XT cs off vs)[j]? = if j < off then cs[j]? else if j < off + vs.length then vs[j - off]? else cs[j]? := by
 unfold XT
 have hl:(cs.take off).length=off:=by simp;omega
 by_cases h1:j < off
 ·rw [if_pos h1,List.append_assoc,List.getElem?_append_left (by omega),List.getElem?_take_of_lt h1]
 ·rw [if_neg h1]
  by_cases h2:j < off + vs.length
  ·rw [if_pos h2,List.append_assoc,List.getElem?_append_right (by omega),hl,List.getElem?_append_left (by omega)]
  ·rw [if_neg h2,List.getElem?_append_right (by simp [hl];omega)]
   simp only [List.length_append,hl,List.getElem?_drop]
   congr 1;omega
theorem X8T (off:Nat):∀ (l:List Value) (k:Nat) (arr:Array Value),
  ((l.zipIdx k).foldl (fun cs (x:Value × Nat)=>cs.setIfInBounds (off + x.2) x.1) arr).size=arr.size ∧
  ∀ j,((l.zipIdx k).foldl (fun cs (x:Value × Nat)=>cs.setIfInBounds (off + x.2) x.1) arr).getD j undef =
   if off + k≤j∧j < off + k + l.length∧j < arr.size then l.getD (j - (off + k)) undef else arr.getD j undef:=by
 intro l
 induction l with
 | nil=>intro k arr;refine ⟨rfl,fun j => ?_⟩;simp;omega
 | cons v l ih =>
  intro k arr
  simp only [List.zipIdx_cons,List.foldl_cons]
  obtain ⟨h1,h2⟩:=ih (k + 1) (arr.setIfInBounds (off + k) v)
  refine ⟨by rw [h1];simp,fun j => ?_⟩
  rw [h2 j]
  simp only [Array.size_setIfInBounds,List.length_cons]
  by_cases hj:off + (k + 1)≤j∧j < off + (k + 1) + l.length∧j < arr.size
  ·rw [if_pos hj,if_pos (by omega)]
   rw [show j - (off + k)=(j - (off + (k + 1))) + 1 from by omega]
   simp
  ·rw [if_neg hj]
   by_cases hk:j=off + k
   ·subst hk
    by_cases hs:off + k < arr.size
    ·rw [if_pos (by omega)]
     rw [Array.getD_eq_getD_getElem?,Array.getElem?_setIfInBounds_self_of_lt hs]
     simp
    ·rw [if_neg (by omega)]
     rw [Array.getD_eq_getD_getElem?,Array.getD_eq_getD_getElem?,Array.getElem?_setIfInBounds]
     simp [hs]
   ·rw [if_neg (by omega)]
    rw [Array.getD_eq_getD_getElem?,Array.getElem?_setIfInBounds_ne (by omega),← Array.getD_eq_getD_getElem?]
theorem X8U {H:Array Obj} {μ:Nat→Option FP} {cs vs:List AV} {arr:Array Value} {x:Value} {off:Nat} (h:PW H μ cs arr) (hv:PW H μ vs x.cells) (hl:off + vs.length≤cs.length) :
  PW H μ (XT cs off vs) (x.cells.zipIdx.foldl (fun cs (c,j)=>cs.setIfInBounds (off + j) c) arr):=by
 have e:x.cells.zipIdx.foldl (fun cs (c,j)=>cs.setIfInBounds (off + j) c) arr=(x.cells.toList.zipIdx 0).foldl (fun cs (y:Value × Nat)=>cs.setIfInBounds (off + y.2) y.1) arr:=by
  rw [← Array.foldl_toList,Array.toList_zipIdx]
 rw [e]
 obtain ⟨h1,h2⟩:=X8T off x.cells.toList 0 arr
 refine ⟨by rw [h1,h.1,X1c _ _ _ hl],fun j c e => ?_⟩
 rw [h2 j]
 rw [getElem?_splice _ _ _ hl] at e
 have hz:x.cells.toList.length=vs.length:=by rw [Array.length_toList];exact hv.1
 have ha:=h.1
 by_cases a1:j < off
 ·rw [if_pos a1] at e
  rw [if_neg (by omega)];exact h.2 j c e
 ·rw [if_neg a1] at e
  by_cases a2:j < off + vs.length
  ·rw [if_pos a2] at e
   rw [if_pos (by omega)]
   have:=hv.2 _ c e
   rw [Array.getD_eq_getD_getElem?] at this
   rw [List.getD_eq_getElem?_getD,Array.getElem?_toList]
   simpa using this
  ·rw [if_neg a2] at e
   rw [if_neg (by omega)];exact h.2 j c e
def X1S (d:TD) (cs:List AV) (off:Nat):Option AV :=
 if d.agg then (if off + d.size≤cs.length then some (.agg ((cs.drop off).take d.size)) else none) else cs[off]?
theorem getElem?_part (cs:List AV) (off n j:Nat):((cs.drop off).take n)[j]? = if j < n then cs[off + j]? else none:=by
 rw [List.getElem?_take];split
 ·rw [List.getElem?_drop]
 ·rfl
theorem X1j {P:Program} {T:TypeId} {d:TD} (hd:TyOk P T d) {H:Array Obj} {μ:Nat→Option FP} {w:World} {cs:List AV} {b base off:Nat} {av:AV}
  (hc:∀ j c,cs[j]? = some c→∃ v,X5 w.heap b (base + j)=some v∧Rep H μ c v) (hp:X1S d cs off=some av) :
  ∃ v,(loadVar T ⟨b,base + off,none⟩).run P w = .ok v w∧Rep H μ av v:=by
 obtain ⟨inf,z,hi,hz,_⟩:=hd.inf
 obtain ⟨desc,hu,_,ha⟩:=hd.desc
 unfold X1S at hp
 unfold loadVar
 rw [Sem.run_bind,run_isAgg' w hu,Result.andThen_ok,← ha]
 split at hp
 ·rename_i hagg
  split at hp
  ·rename_i hle
   simp at hp;subst hp
   have hval:∀ j,j < d.size→X5 w.heap b (base + off + j)=some ((X5 w.heap b (base + off + j)).getD undef):=by
    intro j hj
    obtain ⟨v,e,_⟩:=hc (off + j) (cs[off + j]'(by omega)) (List.getElem?_eq_getElem _)
    rw [Nat.add_assoc,e];rfl
   refine ⟨_,by rw [if_pos hagg];simp [run_sizeOf' w hi,hz,run_loadCells' w b (base + off) _ d.size hval];rfl, .agg _ _ (by simp;omega) fun j c e => ?_⟩
   rw [getElem?_part] at e
   split at e
   ·rename_i hj
    obtain ⟨v,e1,e2⟩:=hc (off + j) c e
    rw [Array.getD_eq_getD_getElem?]
    simp only [List.getElem?_toArray,List.getElem?_map,List.getElem?_range hj,Option.map_some,Option.getD_some]
    rw [Nat.add_assoc,e1];exact e2
   ·cases e
  ·cases hp
 ·rename_i hagg
  obtain ⟨v,e1,e2⟩:=hc off av hp
  refine ⟨v,?_,e2⟩
  rw [if_neg hagg]
  exact run_load' w e1
end Go.Ab
