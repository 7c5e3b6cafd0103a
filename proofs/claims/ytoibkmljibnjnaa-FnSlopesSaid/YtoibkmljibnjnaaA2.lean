/- Abstract values, rows of a call's own memory, and what it means that a frame and a world are as they tell. -/
import Derived.Below
import Derived.Test.YtoibkmljibnjnaaA1
set_option linter.unusedVariables false
set_option linter.unusedSimpArgs false
namespace Go.Ab
open Go.RowKit
inductive AV where
 | any
 | b (x:Bool)
 | i (k:IntKind) (n:Int)
 | f (k:FloatKind) (x:Nat)
 | agg (cs:List AV)
 | tup (vs:List AV)
 | nils
 | sl (l:List (List AV))
 | own (r:Nat)
 | inn (r j:Nat)
 | ipt (r j k:Nat)
 | ptr (r idx off:Nat)
 | ref (cs:List AV) (off:Nat)
 | fn (f:Nat) (cap:List AV)
 | mp (r:Nat)
 | bx (r n:Nat)
 deriving Inhabited
inductive Row where
 | dead
 | box (t:TypeId) (cs:List AV)
 | vec (t:TypeId) (es:Nat) (l:List (List AV)) (full:Bool)
 | nest (t:TypeId) (ll:List (List (List AV))) (full:Bool)
 | lits (t:TypeId) (cs:List AV)
 /-- a map by pairs of numbers to slices with arrays of their own; 'hole': an entry whose slice is taken out -/
 | mapN (t:TypeId) (kv:List ((Int × Int) × List (List AV))) (hole:Option Nat)
 /-- a map by pairs of numbers to numbers,or to truth values (1 is true) -/
 | mapS (t:TypeId) (k:Option IntKind) (kv:List ((Int × Int) × Int)) (pend:Option (Int × Int))
 /-- an array of slices of which those ahead of 'd' may be given away -/
 | nestD (t:TypeId) (ll:List (List (List AV))) (d:Nat)
 /-- a slice that was taken out of one -/
 | vecU (l:List (List AV))
 deriving Inhabited
structure FP where
 blk:Nat
 es:Nat
 len:Nat
 cap:Nat
 inn:List (Option (Nat × Nat × Nat))
 nul:Bool
def FP.ib (p:FP):List (Option Nat):=p.inn.map (Option.map (·.1))
def FP.blks (p:FP):List Nat:=match p.nul with
 | true => []
 | false=>p.blk :: p.ib.filterMap id
def FP.val (p:FP):Value:=match p.nul with
 | true => .slice none 0 0
 | false => .slice (some ⟨p.blk,0,none⟩) p.len p.cap
theorem FP.val_of {p:FP} (h:p.nul=false):p.val = .slice (some ⟨p.blk,0,none⟩) p.len p.cap:=by unfold FP.val;rw [h]
theorem FP.val_nul {p:FP} (h:p.nul=true):p.val = .slice none 0 0:=by unfold FP.val;rw [h]
theorem FP.blks_of {p:FP} (h:p.nul=false):p.blks=p.blk :: p.ib.filterMap id:=by unfold FP.blks;rw [h]
theorem FP.blks_nul {p:FP} (h:p.nul=true):p.blks=[]:=by unfold FP.blks;rw [h]
theorem FP.val_cells (p:FP):p.val.cells=#[p.val]:=by unfold FP.val;split<;>rfl
theorem FP.val_one (p:FP):p.val.oneCell'=true:=by unfold FP.val;split<;>rfl
theorem FP.blks_one {p:FP} (h:p.ib.filterMap id=[]):p.blks.Nodup∧∀ b,b∈p.blks→b=p.blk:=by
 unfold FP.blks;split
 ·simp
 ·rw [h];simp
theorem FP.mem_blk {p:FP} (h:p.nul=false):p.blk∈p.blks:=by rw [FP.blks_of h];exact List.mem_cons_self
def innV:Option (Nat × Nat × Nat)→Value
 | none => .slice none 0 0
 | some (b,n,c) => .slice (some ⟨b,0,none⟩) n c
structure St where
 tm:List AV
 rows:List Row
def X5 (H:Array Obj) (b o:Nat):Option Value :=
 match H[b]? with
 | some (.cells c _ _)=>c[o]?
 | _=>none
theorem X1d (w:World) (b o:Nat):w.cell? ⟨b,o,none⟩=X5 w.heap b o:=by
 unfold World.cell? X5
 cases h:w.heap[b]? with
 | none=>simp
 | some x=>cases x<;>simp
def RepS:AV→Value→Prop
 | .b x,v=>v = .bool x
 | .i k n,v=>v = .int k n
 | .f k x,v => ∃ bits,v = .float k bits∧Wd k bits∧cn k bits=x
 | _,_=>False
def XS (cell:Nat→Option Value) (es:Nat) (l:List (List AV)):Prop :=
 ∀ i cs,l[i]? = some cs→cs.length=es∧∀ j c,cs[j]? = some c→∃ v,cell (i * es + j)=some v∧RepS c v
inductive Rep (H:Array Obj):(Nat→Option FP)→AV→Value→Prop
 | any {μ} (v:Value):Rep H μ .any v
 | b {μ} (x:Bool):Rep H μ (.b x) (.bool x)
 | i {μ} (k:IntKind) (n:Int):Rep H μ (.i k n) (.int k n)
 | f {μ} (k:FloatKind) (x bits:Nat) (h:Wd k bits) (e:cn k bits=x):Rep H μ (.f k x) (.float k bits)
 | agg {μ} (cs:List AV) (vs:Array Value) (hs:vs.size=cs.length) (h:∀ (j:Nat) (c:AV),cs[j]? = some c→Rep H μ c (vs.getD j undef)):Rep H μ (.agg cs) (.agg vs)
 | tup {μ} (cs:List AV) (vs:Array Value) (hs:vs.size=cs.length) (h:∀ (j:Nat) (c:AV),cs[j]? = some c→Rep H μ c (vs.getD j undef)):Rep H μ (.tup cs) (.tuple vs)
 | nils {μ}:Rep H μ .nils (.slice none 0 0)
 | slE {μ} (a:Option Addr) (c:Nat):Rep H μ (.sl []) (.slice a 0 c)
 | sl {μ} (l:List (List AV)) (es bl off c:Nat) (val:Nat→Nat→Value) (h:∀ (i:Nat) (cs:List AV),l[i]? = some cs→cs.length=es)
   (h1:∀ (i:Nat) (cs:List AV) (j:Nat) (x:AV),l[i]? = some cs→cs[j]? = some x→X5 H bl (off + (i * es + j))=some (val i j))
   (h2:∀ (i:Nat) (cs:List AV) (j:Nat) (x:AV),l[i]? = some cs→cs[j]? = some x→Rep H (fun _=>none) x (val i j)) (hc:l.length≤c):Rep H μ (.sl l) (.slice (some ⟨bl,off,none⟩) l.length c)
 | own {μ} (r:Nat) (p:FP) (h:μ r=some p):Rep H μ (.own r) p.val
 | inn {μ} (r j:Nat) (p:FP) (ib:Option (Nat × Nat × Nat)) (h:μ r=some p) (hb:p.inn[j]? = some ib):Rep H μ (.inn r j) (innV ib)
 | ipt {μ} (r j k:Nat) (p:FP) (b n c:Nat) (h:μ r=some p) (hb:p.inn[j]? = some (some (b,n,c))):Rep H μ (.ipt r j k) (.pointer (some ⟨b,k,none⟩))
 | ptr {μ} (r idx off:Nat) (p:FP) (h:μ r=some p):Rep H μ (.ptr r idx off) (.pointer (some ⟨p.blk,idx * p.es + off,none⟩))
 | ref {μ} (cs:List AV) (off bl base:Nat) (val:Nat→Value) (h:∀ (j:Nat) (c:AV),cs[j]? = some c→X5 H bl (base + j)=some (val j))
   (h2:∀ (j:Nat) (c:AV),cs[j]? = some c→Rep H (fun _=>none) c (val j)):Rep H μ (.ref cs off) (.pointer (some ⟨bl,base + off,none⟩))
 | fn {μ} (g:Nat) (cap:List AV) (vs:Array Value) (hs:vs.size=cap.length) (h:∀ (j:Nat) (c:AV),cap[j]? = some c→Rep H μ c (vs.getD j undef)):Rep H μ (.fn g cap) (.func (.func g) #[] vs)
 | mp {μ} (r:Nat) (p:FP) (h:μ r=some p) (hz:p.nul=false):Rep H μ (.mp r) (.map (some p.blk))
 | bx {μ} (r n c:Nat) (p:FP) (h:μ r=some p) (hc:n≤c):Rep H μ (.bx r n) (.slice (some ⟨p.blk,0,none⟩) n c)
theorem Rep.of_S {H:Array Obj} {μ:Nat→Option FP} {c:AV} {v:Value} (h:RepS c v):Rep H μ c v:=by
 cases c with
 | b x=>cases h;exact .b x
 | i k n=>cases h;exact .i k n
 | f k x=>obtain ⟨bits,rfl,h1,h2⟩:=h;exact .f k x bits h1 h2
 | _=>exact h.elim
def Sub (μ μ':Nat→Option FP):Prop:=∀ r p,μ r=some p→μ' r=some p
theorem Sub.refl (μ:Nat→Option FP):Sub μ μ:=fun _ _ h=>h
theorem Sub.trans {a b c:Nat→Option FP} (h:Sub a b) (k:Sub b c):Sub a c:=fun r p e=>k r p (h r p e)
theorem Rep.mono {H:Array Obj} {μ μ':Nat→Option FP} (hs:Sub μ μ') {c:AV} {v:Value} (h:Rep H μ c v):Rep H μ' c v:=by
 induction h generalizing μ' with
 | any v=>exact .any v
 | b x=>exact .b x
 | i k n=>exact .i k n
 | f k x bits h e=>exact .f k x bits h e
 | agg cs vs hz _ ih=>exact .agg cs vs hz fun j c e=>ih j c e hs
 | tup cs vs hz _ ih=>exact .tup cs vs hz fun j c e=>ih j c e hs
 | nils=>exact .nils
 | slE a c=>exact .slE a c
 | sl l es bl off c val h h1 h2 hc _=>exact .sl l es bl off c val h h1 h2 hc
 | own r p h=>exact .own r p (hs _ _ h)
 | inn r j p ib h hb=>exact .inn r j p ib (hs _ _ h) hb
 | ipt r j k p b n c h hb=>exact .ipt r j k p b n c (hs _ _ h) hb
 | ptr r idx off p h=>exact .ptr r idx off p (hs _ _ h)
 | ref cs off bl base val h h2 _=>exact .ref cs off bl base val h h2
 | fn g cap vs hz _ ih=>exact .fn g cap vs hz fun j c e=>ih j c e hs
 | mp r p h hz=>exact .mp r p (hs _ _ h) hz
 | bx r n c p h hc=>exact .bx r n c p (hs _ _ h) hc
def Old (H H':Array Obj):Prop:=∀ b o v,X5 H b o=some v→X5 H' b o=some v
theorem Old.cellAt {H H':Array Obj} (ho:Old H H') {b o:Nat} {v:Value} (h:X5 H b o=some v):X5 H' b o=some v:=ho b o v h
theorem X8S {H:Array Obj} {b o:Nat} {v:Value} (h:X5 H b o=some v):b < H.size:=by
 rcases Nat.lt_or_ge b H.size with hb | hb
 ·exact hb
 ·unfold X5 at h;rw [Array.getElem?_eq_none hb] at h;simp at h
theorem Old.refl (H:Array Obj):Old H H:=fun _ _ _ h=>h
theorem Old.trans {A B C:Array Obj} (h:Old A B) (k:Old B C):Old A C:=fun b o v e=>k b o v (h b o v e)
theorem XS.mono {c c':Nat→Option Value} {es:Nat} {l:List (List AV)} (hc:∀ o v,c o=some v→c' o=some v) (h:XS c es l):XS c' es l :=
 fun i cs hi=>let ⟨h1,h2⟩:=h i cs hi;⟨h1,fun j x hj=>let ⟨v,a,b⟩:=h2 j x hj;⟨v,hc _ _ a,b⟩⟩
theorem Rep.old {H H':Array Obj} (ho:Old H H') {μ:Nat→Option FP} {c:AV} {v:Value} (h:Rep H μ c v):Rep H' μ c v:=by
 induction h with
 | any v=>exact .any v
 | b x=>exact .b x
 | i k n=>exact .i k n
 | f k x bits h e=>exact .f k x bits h e
 | agg cs vs hz _ ih=>exact .agg cs vs hz ih
 | tup cs vs hz _ ih=>exact .tup cs vs hz ih
 | nils=>exact .nils
 | slE a c=>exact .slE a c
 | sl l es bl off c val h h1 _ hc ih=>exact .sl l es bl off c val h (fun i cs j x e e'=>ho.cellAt (h1 i cs j x e e')) ih hc
 | own r p h=>exact .own r p h
 | inn r j p ib h hb=>exact .inn r j p ib h hb
 | ipt r j k p b n c h hb=>exact .ipt r j k p b n c h hb
 | ptr r idx off p h=>exact .ptr r idx off p h
 | ref cs off bl base val h _ ih=>exact .ref cs off bl base val (fun i l e=>ho.cellAt (h i l e)) ih
 | fn g cap vs hz _ ih=>exact .fn g cap vs hz ih
 | mp r p h hz=>exact .mp r p h hz
 | bx r n c p h hc=>exact .bx r n c p h hc
def X44 (heap:Array Obj) (ib:Option (Nat × Nat × Nat)) (l:List (List AV)) (v:Value):Prop :=
 v=innV ib∧match ib with
 | none=>l=[]
 | some (b,n,c)=>n=l.length∧l.length≤c∧∃ arr t,heap[b]? = some (.cells arr t (0,0))∧arr.size=c∧XS (arr[·]?) 1 l
def InnB (heap:Array Obj) (t:TypeId) (ib:Option (Nat × Nat × Nat)) (l:List (List AV)):Prop :=
 match ib with
 | none=>l=[]
 | some (b,n,c)=>n=l.length∧l.length≤c∧∃ arr,heap[b]? = some (.cells arr t (0,0))∧arr.size=c∧XS (arr[·]?) 1 l
def keyV (k:Int × Int):Value := .agg #[.int .i64 k.1, .int .i64 k.2]
def scV:Option IntKind→Int→Value
 | some k,n => .int k n
 | none,n => .bool (n == 1)
def scA:Option IntKind→Int→AV
 | some k,n => .i k n
 | none,n => .b (n == 1)
def X1f (kv:List ((Int × Int) × Int)) (k:Int × Int):Int:=match kv.find? (fun x=>x.1 == k) with
 | some x=>x.2
 | none=>0
def XE (kv:List ((Int × Int) × Int)) (k:Int × Int):Nat:=kv.findIdx (fun x=>x.1 == k)
def X27 (kv:List ((Int × Int) × Int)) (k:Int × Int):List ((Int × Int) × Int):=cond (kv.any (fun x=>x.1 == k)) kv (kv ++ [(k,0)])
def X3p (kv:List ((Int × Int) × Int)) (k:Int × Int) (v:Int):List ((Int × Int) × Int):=(X27 kv k).modify (XE kv k) (fun x=>(x.1,v))
def kvE (kv:List ((Int × Int) × Int)):Option (Int × Int)→List ((Int × Int) × Int)
 | none=>kv
 | some k=>X27 kv k
def X4 (H:Array Obj) (μ:Nat→Option FP) (heap:Array Obj):Option FP→Row→Prop
 | _, .dead=>True
 | some p, .box t cs=>p.nul=false∧p.es=cs.length∧p.inn=[]∧∃ arr,heap[p.blk]? = some (.cells arr t (0,0))∧cs.length≤arr.size∧∀ j c,cs[j]? = some c→Rep H μ c (arr.getD j undef)
 | some p, .vec t es l full=>(p.nul=true∧l=[]∧full=false)∨(p.nul=false∧p.es=es∧p.inn=[]∧p.len=l.length∧l.length≤p.cap∧(full=true→p.cap=l.length) ∧
   ∃ arr,heap[p.blk]? = some (.cells arr t (0,0))∧arr.size=p.cap * es∧XS (arr[·]?) es l)
 | some p, .nest t ll full=>(p.nul=true∧ll=[]∧p.inn=[])∨(p.nul=false∧p.es=1∧p.len=ll.length∧ll.length≤p.cap∧(full=true→p.cap=ll.length)∧p.inn.length=ll.length ∧
   ∃ arr,heap[p.blk]? = some (.cells arr t (0,0))∧arr.size=p.cap∧∀ i l,ll[i]? = some l→X44 heap (p.inn.getD i none) l (arr.getD i undef))
 | some p, .lits t cs=>p.nul=false∧p.es=1∧p.inn=[]∧p.len=cs.length∧p.cap=cs.length∧∃ arr,heap[p.blk]? = some (.cells arr t (0,0))∧arr.size=cs.length∧∀ j c,cs[j]? = some c→Rep H μ c (arr.getD j undef)
 | some p, .mapN t kv hole=>p.nul=false∧p.inn.length=kv.length∧(kv.map (·.1)).Nodup∧∃ es,heap[p.blk]? = some (.map es kv.length)∧es.size=kv.length ∧
   ∀ i x,kv[i]? = some x→∃ e,es[i]? = some e∧e.born=i∧e.key=keyV x.1∧InnB heap t (p.inn.getD i none) x.2∧(hole≠some i→e.val=innV (p.inn.getD i none))
 | some p, .mapS t k kv pend=>p.nul=false∧p.inn=[]∧((kvE kv pend).map (·.1)).Nodup∧∃ es:Array MapEntry,heap[p.blk]? = some (.map es (kvE kv pend).length)∧es.size=(kvE kv pend).length ∧
   ∀ (i:Nat) (x:(Int × Int) × Int),(kvE kv pend)[i]? = some x→∃ e:MapEntry,es[i]? = some e∧e.born=i∧e.key=keyV x.1∧e.val=scV k x.2
 | some p, .nestD t ll d=>(p.nul=true∧ll=[]∧p.inn=[])∨(p.nul=false∧p.es=1∧p.len=ll.length∧ll.length≤p.cap∧p.inn.length=ll.length ∧
   ∃ arr,heap[p.blk]? = some (.cells arr t (0,0))∧arr.size=p.cap∧∀ i l,d≤i→ll[i]? = some l→X44 heap (p.inn.getD i none) l (arr.getD i undef))
 | some p, .vecU l=>(p.nul=true∧l=[])∨(p.nul=false∧p.es=1∧p.inn=[]∧p.len=l.length∧l.length≤p.cap ∧
   ∃ arr t,heap[p.blk]? = some (.cells arr t (0,0))∧arr.size=p.cap * 1∧XS (arr[·]?) 1 l)
 | _,_=>False
structure Old0 extends World where
 opn:Nat→Prop
 dark:∀ b,opn b→∀ o,X5 heap b o=none
 pin:Nat→Option FP
 np:Nat
 pinLt:∀ r p,pin r=some p→r < np
def Old0.of (w:World):Old0:={ w with opn:=fun _=>False,dark:=fun _ h=>h.elim,pin:=fun _=>none,np:=0,pinLt:=fun _ _ h=>by cases h }
def Old0.mine (w0:Old0) (b:Nat):Prop:=w0.opn b∨w0.heap.size≤b
structure Bw (B:Nat) (w w':World):Prop extends Below B w w' where
 drawn:w.drawn≤w'.drawn
theorem Bw.refl (B:Nat) (w:World):Bw B w w:=⟨Below.refl B w,Nat.le_refl _⟩
structure Bel (w0:Old0) (w:World):Prop where
 os:w.os=w0.os
 tape:w.tape=w0.tape
 output:w.output=w0.output
 size:w0.heap.size≤w.heap.size
 block:∀ k,k < w0.heap.size→¬ w0.opn k→w.heap[k]? = w0.heap[k]?
 drawn:w0.drawn≤w.drawn
theorem Bel.step {w0:Old0} {w w':World} (h:Bel w0 w) (h1:w'.os=w.os) (h2:w'.tape=w.tape) (h3:w'.output=w.output) (h4:w.heap.size≤w'.heap.size) (h6:w.drawn≤w'.drawn)
  (h5:∀ k,k < w0.heap.size→¬ w0.opn k→w'.heap[k]? = w.heap[k]?):Bel w0 w' :=
 ⟨h1.trans h.os,h2.trans h.tape,h3.trans h.output,Nat.le_trans h.size h4,fun k a b=>(h5 k a b).trans (h.block k a b),Nat.le_trans h.drawn h6⟩
theorem Bel.ext {w0:Old0} {w w':World} (h:Bel w0 w) (hb:Bw w.heap.size w w'):Bel w0 w' :=
 h.step hb.os hb.tape hb.output hb.size hb.drawn fun k hk _=>hb.block k (Nat.lt_of_lt_of_le hk h.size)
theorem Bel.set {w0:Old0} {w w':World} (h:Bel w0 w) {g:Nat} (hg:w0.mine g) (h1:w'.os=w.os) (h2:w'.tape=w.tape) (h3:w'.output=w.output) (h4:w.heap.size≤w'.heap.size)
  (h5:∀ k,k≠g→w'.heap[k]? = w.heap[k]?) (h6:w.drawn≤w'.drawn:=by exact Nat.le_refl _):Bel w0 w' :=
 h.step h1 h2 h3 h4 h6 fun k hk ho=>h5 k fun e=>by subst e;exact hg.elim (fun hg=>ho hg) (fun hg=>by omega)
theorem Bel.old {w0:Old0} {w:World} (h:Bel w0 w):Old w0.heap w.heap:=fun b o v e=>by
 have hb:=X8S e
 have ho:¬ w0.opn b:=fun hb=>by rw [w0.dark b hb o] at e;cases e
 unfold X5 at *
 rw [h.block b hb ho];exact e
theorem Bel.of {w w':World} (h:Bel (Old0.of w) w'):Bw w.heap.size w w':=⟨⟨h.os,h.tape,h.output,h.size,fun k hk=>h.block k hk fun h=>h⟩,h.drawn⟩
structure MemW (w0:Old0) (μ:Nat→Option FP) (rows:List Row) (w:World):Prop where
 bel:Bel w0 w
 row:∀ r row,rows[r]? = some row→X4 w0.heap μ w.heap (μ r) row
 sep:∀ r r' p p' b,μ r=some p→μ r'=some p'→b∈p.blks→b∈p'.blks→r=r'
 nodup:∀ r p,μ r=some p→p.blks.Nodup
 own:∀ r p b,μ r=some p→b∈p.blks→w0.mine b∧b < w.heap.size
structure Mem (w0:Old0) (μ:Nat→Option FP) (rows:List Row) (w:World):Prop extends MemW w0 μ rows w where
 out:∀ r,rows.length≤r→μ r=none
 dead:∀ r,rows[r]? = some .dead→μ r=none
 pin:Sub w0.pin μ
structure RelW (w0:Old0) (μ:Nat→Option FP) (st:St) (a:Act) (w:World):Prop where
 size:a.tmps.size=st.tm.length
 tmps:∀ t v,st.tm[t]? = some v→Rep w0.heap μ v (a.tmps.getD t undef)
 mem:MemW w0 μ st.rows w
structure RelM (w0:Old0) (μ:Nat→Option FP) (st:St) (a:Act) (w:World):Prop where
 defers:a.defers=[]
 size:a.tmps.size=st.tm.length
 tmps:∀ t v,st.tm[t]? = some v→Rep w0.heap μ v (a.tmps.getD t undef)
 mem:Mem w0 μ st.rows w
theorem RelM.toW {w0:Old0} {μ:Nat→Option FP} {st:St} {a:Act} {w:World} (h:RelM w0 μ st a w):RelW w0 μ st a w:=⟨h.size,h.tmps,h.mem.toMemW⟩
def Rel (w0:Old0) (st:St) (a:Act) (w:World):Prop:=∃ μ,RelM w0 μ st a w
theorem X4.mono {H:Array Obj} {μ μ':Nat→Option FP} (hs:Sub μ μ') {heap:Array Obj} {p:Option FP} {row:Row} (h:X4 H μ heap p row):X4 H μ' heap p row:=by
 cases p<;>cases row<;>simp only [X4] at * <;> try exact h
 ·obtain ⟨h0,h1,h2,arr,h3,h4,h5⟩:=h
  exact ⟨h0,h1,h2,arr,h3,h4,fun j c e=>(h5 j c e).mono hs⟩
 ·obtain ⟨h0,h1,h2,h2',h2'',arr,h3,h4,h5⟩:=h
  exact ⟨h0,h1,h2,h2',h2'',arr,h3,h4,fun j c e=>(h5 j c e).mono hs⟩
theorem X4.heap {H:Array Obj} {μ:Nat→Option FP} {heap heap':Array Obj} {p:Option FP} {row:Row} (hb:∀ q,p=some q→∀ b∈q.blks,heap'[b]? = heap[b]?)
  (h:X4 H μ heap p row):X4 H μ heap' p row:=by
 cases p with
 | none=>cases row<;>simp only [X4] at * 
 | some q =>
  have hq:=hb q rfl
  have h0:q.nul=false→heap'[q.blk]? = heap[q.blk]? := fun hz=>hq _ (FP.mem_blk hz)
  cases row with
  | dead=>trivial
  | box t cs=>simp only [X4] at *;rw [h0 h.1];exact h
  | vec t es l full =>
   simp only [X4] at *
   rcases h with h | h
   ·exact .inl h
   ·rw [h0 h.1];exact .inr h
  | lits t cs=>simp only [X4] at *;rw [h0 h.1];exact h
  | nest t ll full =>
   simp only [X4] at *
   rcases h with h | h
   ·exact .inl h
   right
   rw [h0 h.1]
   obtain ⟨hz,h1,h2,h3,h4,h5,arr,h6,h7,h8⟩:=h
   refine ⟨hz,h1,h2,h3,h4,h5,arr,h6,h7,fun i l hi => ?_⟩
   have hI:=h8 i l hi
   cases hib:q.inn.getD i none with
   | none=>rw [hib] at hI;exact hI
   | some bnc =>
    obtain ⟨b,n,c⟩:=bnc
    rw [hib] at hI
    obtain ⟨e1,e2,e3,arr2,t2,e4,e5,e6⟩:=hI
    have hbm:b∈q.blks:=by
     have hlt:i < q.inn.length:=by
      rcases Nat.lt_or_ge i q.inn.length with hlt | hge
      ·exact hlt
      ·rw [List.getD_eq_getElem?_getD,List.getElem?_eq_none hge] at hib;cases hib
     rw [List.getD_eq_getElem?_getD,List.getElem?_eq_getElem hlt,Option.getD_some] at hib
     rw [FP.blks_of hz]
     exact List.mem_cons_of_mem _ (List.mem_filterMap.2 ⟨some b,List.mem_map.2 ⟨_,hib ▸ List.getElem_mem hlt,rfl⟩,rfl⟩)
    exact ⟨e1,e2,e3,arr2,t2,by rw [hq b hbm];exact e4,e5,e6⟩
  | nestD t ll d =>
   simp only [X4] at *
   rcases h with h | h
   ·exact .inl h
   right
   rw [h0 h.1]
   obtain ⟨hz,h1,h2,h3,h5,arr,h6,h7,h8⟩:=h
   refine ⟨hz,h1,h2,h3,h5,arr,h6,h7,fun i l hd hi => ?_⟩
   have hI:=h8 i l hd hi
   cases hib:q.inn.getD i none with
   | none=>rw [hib] at hI;exact hI
   | some bnc =>
    obtain ⟨b,n,c⟩:=bnc
    rw [hib] at hI
    obtain ⟨e1,e2,e3,arr2,t2,e4,e5,e6⟩:=hI
    have hbm:b∈q.blks:=by
     have hlt:i < q.inn.length:=by
      rcases Nat.lt_or_ge i q.inn.length with hlt | hge
      ·exact hlt
      ·rw [List.getD_eq_getElem?_getD,List.getElem?_eq_none hge] at hib;cases hib
     rw [List.getD_eq_getElem?_getD,List.getElem?_eq_getElem hlt,Option.getD_some] at hib
     rw [FP.blks_of hz]
     exact List.mem_cons_of_mem _ (List.mem_filterMap.2 ⟨some b,List.mem_map.2 ⟨_,hib ▸ List.getElem_mem hlt,rfl⟩,rfl⟩)
    exact ⟨e1,e2,e3,arr2,t2,by rw [hq b hbm];exact e4,e5,e6⟩
  | vecU l =>
   simp only [X4] at *
   rcases h with h | h
   ·exact .inl h
   ·rw [h0 h.1];exact .inr h
  | mapS t k kv pend =>
   simp only [X4] at *
   obtain ⟨hz,h1,h2,es,h3,h4⟩:=h
   exact ⟨hz,h1,h2,es,by rw [h0 hz];exact h3,h4⟩
  | mapN t kv hole =>
   simp only [X4] at *
   obtain ⟨hz,h1,h2,es,h3,h4,h5⟩:=h
   refine ⟨hz,h1,h2,es,by rw [h0 hz];exact h3,h4,fun i x hi => ?_⟩
   obtain ⟨e,g1,g2,g3,g4,g5⟩:=h5 i x hi
   refine ⟨e,g1,g2,g3,?_,g5⟩
   cases hib:q.inn.getD i none with
   | none=>rw [hib] at g4;exact g4
   | some bnc =>
    obtain ⟨b,n,c⟩:=bnc
    rw [hib] at g4
    obtain ⟨e2,e3,arr2,e4,e5,e6⟩:=g4
    have hbm:b∈q.blks:=by
     have hlt:i < q.inn.length:=by
      rcases Nat.lt_or_ge i q.inn.length with hlt | hge
      ·exact hlt
      ·rw [List.getD_eq_getElem?_getD,List.getElem?_eq_none hge] at hib;cases hib
     rw [List.getD_eq_getElem?_getD,List.getElem?_eq_getElem hlt,Option.getD_some] at hib
     rw [FP.blks_of hz]
     exact List.mem_cons_of_mem _ (List.mem_filterMap.2 ⟨some b,List.mem_map.2 ⟨_,hib ▸ List.getElem_mem hlt,rfl⟩,rfl⟩)
    exact ⟨e2,e3,arr2,by rw [hq b hbm];exact e4,e5,e6⟩
theorem MemW.ext {w0:Old0} {w w':World} {μ:Nat→Option FP} {rows:List Row} (h:MemW w0 μ rows w) (hb:Bw w.heap.size w w'):MemW w0 μ rows w' where
 bel:=h.bel.ext hb
 row r row e:=(h.row r row e).heap fun q hq b hm=>hb.block b (h.own r q b hq hm).2
 sep:=h.sep
 nodup:=h.nodup
 own r p b e hm:=let ⟨h1,h2⟩:=h.own r p b e hm;⟨h1,Nat.lt_of_lt_of_le h2 hb.size⟩
theorem Mem.ext {w0:Old0} {w w':World} {μ:Nat→Option FP} {rows:List Row} (h:Mem w0 μ rows w) (hb:Bw w.heap.size w w'):Mem w0 μ rows w' :=
 { h.toMemW.ext hb with out:=h.out,dead:=h.dead,pin:=h.pin }
structure Grow (H:Array Obj) (μ μ':Nat→Option FP) (lo:Nat) (rows:List Row) (n:Nat) (heap:Array Obj):Prop where
 nd:∀ i:Nat,rows[i]? ≠ some .dead
 same:∀ r,r < lo∨lo + rows.length≤r→μ' r=μ r
 row:∀ i row,rows[i]? = some row→X4 H μ' heap (μ' (lo + i)) row
 sep:∀ r r' p p' b,lo≤r→r < lo + rows.length→lo≤r'→r' < lo + rows.length→μ' r=some p→μ' r'=some p'→b∈p.blks→b∈p'.blks→r=r'
 nodup:∀ r p,lo≤r→r < lo + rows.length→μ' r=some p→p.blks.Nodup
 fresh:∀ r p b,lo≤r→r < lo + rows.length→μ' r=some p→b∈p.blks→n≤b∧b < heap.size
theorem Grow.sub {H:Array Obj} {μ μ':Nat→Option FP} {lo:Nat} {rows:List Row} {n:Nat} {heap:Array Obj} (h:Grow H μ μ' lo rows n heap)
  (hn:∀ r,lo≤r→r < lo + rows.length→μ r=none):Sub μ μ':=by
 intro r p e
 by_cases hr:r < lo∨lo + rows.length≤r
 ·rw [h.same r hr];exact e
 ·rw [hn r (by omega) (by omega)] at e;cases e
theorem Grow.nil (H:Array Obj) (μ:Nat→Option FP) (lo n:Nat) (heap:Array Obj):Grow H μ μ lo [] n heap where
 nd i h:=by simp at h
 same _ _:=rfl
 row i row h:=by simp at h
 sep r r' p p' b h1 h2:=by simp at h2;omega
 nodup r p h1 h2:=by simp at h2;omega
 fresh r p b h1 h2:=by simp at h2;omega
def lay (rows:List Row) (lo:Nat) (new:List Row):List Row:=rows.take lo ++ new ++ rows.drop (lo + new.length)
theorem X1J (rows new:List Row):lay rows rows.length new=rows ++ new:=by
 simp [lay,List.drop_eq_nil_of_le]
theorem getElem?_lay (rows:List Row) (lo:Nat) (new:List Row) (h:lo≤rows.length) (r:Nat) :
  (lay rows lo new)[r]? = if r < lo then rows[r]? else if r < lo + new.length then new[r - lo]? else rows[r]? := by
 unfold lay
 have hl:(rows.take lo).length=lo:=by simp;omega
 by_cases h1:r < lo
 ·rw [if_pos h1,List.append_assoc,List.getElem?_append_left (by omega),List.getElem?_take_of_lt h1]
 ·rw [if_neg h1]
  by_cases h2:r < lo + new.length
  ·rw [if_pos h2,List.append_assoc,List.getElem?_append_right (by omega),hl,List.getElem?_append_left (by omega)]
  ·rw [if_neg h2,List.getElem?_append_right (by simp [hl];omega)]
   simp only [List.length_append,hl,List.getElem?_drop]
   congr 1;omega
theorem Mem.grow {w0:Old0} {w w':World} {μ μ':Nat→Option FP} {rows new:List Row} {lo:Nat} (h:Mem w0 μ rows w) (hb:Bw w.heap.size w w')
  (hg:Grow w0.heap μ μ' lo new w.heap.size w'.heap) (hlo:lo≤rows.length) (hn:∀ r,lo≤r→r < lo + new.length→μ r=none):Mem w0 μ' (lay rows lo new) w':=by
 have h':=h.ext hb
 have hs:=hg.sub hn
 have key:∀ r p b,μ' r=some p→b∈p.blks→(lo≤r∧r < lo + new.length∧w.heap.size≤b∧b < w'.heap.size)∨(μ r=some p∧w0.mine b∧b < w.heap.size):=by
  intro r p b e hm
  by_cases hr:r < lo∨lo + new.length≤r
  ·rw [hg.same r hr] at e
   exact .inr ⟨e,h.own r p b e hm⟩
  ·exact .inl ⟨by omega,by omega,hg.fresh r p b (by omega) (by omega) e hm⟩
 refine ⟨⟨h'.bel,?_,?_,?_,?_⟩,?_,?_,h.pin.trans hs⟩
 ·intro r row e
  rw [getElem?_lay _ _ _ hlo] at e
  by_cases h1:r < lo
  ·rw [if_pos h1] at e
   rw [hg.same r (.inl h1)];exact (h'.row r row e).mono hs
  ·rw [if_neg h1] at e
   by_cases h2:r < lo + new.length
   ·rw [if_pos h2] at e
    have:=hg.row (r - lo) row e
    rwa [show lo + (r - lo)=r from by omega] at this
   ·rw [if_neg h2] at e
    rw [hg.same r (.inr (by omega))];exact (h'.row r row e).mono hs
 ·intro r r' p p' b e e' hm hm'
  rcases key r p b e hm with ⟨a1,a2,a3,_⟩ | ⟨a1,_,a3⟩<;>rcases key r' p' b e' hm' with ⟨b1,b2,b3,_⟩ | ⟨b1,_,b3⟩
  ·exact hg.sep r r' p p' b a1 a2 b1 b2 e e' hm hm'
  ·omega
  ·omega
  ·exact h.sep r r' p p' b a1 b1 hm hm'
 ·intro r p e
  by_cases hr:r < lo∨lo + new.length≤r
  ·rw [hg.same r hr] at e;exact h.nodup r p e
  ·exact hg.nodup r p (by omega) (by omega) e
 ·intro r p b e hm
  have:=h.bel.size
  have:=hb.size
  rcases key r p b e hm with ⟨_,_,a3,a4⟩ | ⟨_,a3,a4⟩
  ·exact ⟨.inr (by omega),by omega⟩
  ·exact ⟨a3,by omega⟩
 ·intro r hr
  have hlen:(lay rows lo new).length=max rows.length (lo + new.length):=by simp [lay];omega
  rw [hg.same r (.inr (by omega))]
  exact h.out r (by omega)
 ·intro r e
  rw [getElem?_lay _ _ _ hlo] at e
  by_cases h1:r < lo
  ·rw [if_pos h1] at e
   rw [hg.same r (.inl h1)];exact h.dead r e
  ·rw [if_neg h1] at e
   by_cases h2:r < lo + new.length
   ·rw [if_pos h2] at e;exact absurd e (hg.nd _)
   ·rw [if_neg h2] at e
    rw [hg.same r (.inr (by omega))];exact h.dead r e
def St.put (st:St) (dst:Option Tmp) (v:AV):St :=
 match dst with
 | some d => { st with tm:=st.tm.set d v }
 | none=>st
theorem X9u {H:Array Obj} {μ:Nat→Option FP} {tm:List AV} {a:Act} (hs:a.tmps.size=tm.length) (h:∀ t v,tm[t]? = some v→Rep H μ v (a.tmps.getD t undef))
  (dst:Option Tmp) {v:AV} {x:Value} (hv:Rep H μ v x) :
  (a.put dst x).tmps.size=((St.mk tm []).put dst v).tm.length∧∀ t u,((St.mk tm []).put dst v).tm[t]? = some u→Rep H μ u ((a.put dst x).tmps.getD t undef):=by
 cases dst with
 | none=>exact ⟨hs,h⟩
 | some d =>
  refine ⟨by simp [Act.put,St.put,hs],fun t u e => ?_⟩
  simp only [St.put] at e
  simp only [Act.put]
  by_cases htd:d=t
  ·subst htd
   rw [List.getElem?_set_self'] at e
   have hlt:d < tm.length:=by
    rcases Nat.lt_or_ge d tm.length with hlt | hge
    ·exact hlt
    ·rw [List.getElem?_eq_none hge] at e;simp at e
   rw [List.getElem?_eq_getElem hlt] at e
   simp at e;subst e
   rw [Array.getD_eq_getD_getElem?,Array.getElem?_setIfInBounds_self_of_lt (by rw [hs];exact hlt)]
   exact hv
  ·rw [List.getElem?_set_ne htd] at e
   rw [Array.getD_eq_getD_getElem?,Array.getElem?_setIfInBounds_ne htd,← Array.getD_eq_getD_getElem?]
   exact h t u e
theorem St.put_tm (st:St) (dst:Option Tmp) (v:AV):(st.put dst v).tm=((St.mk st.tm []).put dst v).tm:=by cases dst<;>rfl
theorem St.put_rows (st:St) (dst:Option Tmp) (v:AV):(st.put dst v).rows=st.rows:=by cases dst<;>rfl
theorem RelM.put {w0:Old0} {μ:Nat→Option FP} {st:St} {a:Act} {w:World} (h:RelM w0 μ st a w) (dst:Option Tmp) {v:AV} {x:Value} (hv:Rep w0.heap μ v x) :
  RelM w0 μ (st.put dst v) (a.put dst x) w:=by
 obtain ⟨h1,h2⟩:=X9u h.size h.tmps dst hv
 refine ⟨by cases dst<;>exact h.defers,by rw [St.put_tm];exact h1,by rw [St.put_tm];exact h2,by rw [St.put_rows];exact h.mem⟩
theorem RelM.grow {w0:Old0} {μ μ':Nat→Option FP} {st:St} {a:Act} {w w':World} {new:List Row} {lo:Nat} (h:RelM w0 μ st a w) (hb:Bw w.heap.size w w')
  (hg:Grow w0.heap μ μ' lo new w.heap.size w'.heap) (hlo:lo≤st.rows.length) (hn:∀ r,lo≤r→r < lo + new.length→μ r=none):RelM w0 μ' { st with rows:=lay st.rows lo new } a w' :=
 ⟨h.defers,h.size,fun t v e=>(h.tmps t v e).mono (hg.sub hn),h.mem.grow hb hg hlo hn⟩
theorem RelM.ext {w0:Old0} {μ:Nat→Option FP} {st:St} {a:Act} {w w':World} (h:RelM w0 μ st a w) (hb:Bw w.heap.size w w'):RelM w0 μ st a w' :=
 ⟨h.defers,h.size,h.tmps,h.mem.ext hb⟩
end Go.Ab
