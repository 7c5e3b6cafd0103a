/- slices.SortFunc over own rows of pairs: the kit's contract, told as a call that writes a row. -/
import Derived.Test.YtoibkmljibnjnaaA22
import Derived.Shelf.SlSortCmp.NoneTotal
set_option linter.unusedVariables false
set_option linter.unusedSimpArgs false
namespace Go.Ab
open Go.RowKit Go.Shelf Go.Proofs
theorem X8Q {w w':World} (h:Bw w.heap.size w w'):∃ q os,w'=Sort.grow (w.drewN q) os:=by
 refine ⟨w'.drawn - w.drawn,w'.heap.extract w.heap.size w'.heap.size,?_⟩
 obtain ⟨⟨h1,h2,h3,h4,h5⟩,h6⟩:=h
 have hh:w'.heap=w.heap ++ w'.heap.extract w.heap.size w'.heap.size:=by
  apply Array.ext_getElem?
  intro i
  rcases Nat.lt_or_ge i w.heap.size with hi | hi
  ·rw [Array.getElem?_append_left hi];exact h5 i hi
  ·rw [Array.getElem?_append_right hi]
   rcases Nat.lt_or_ge i w'.heap.size with hj | hj
   ·rw [Array.getElem?_extract,if_pos (by omega)];congr 1;omega
   ·rw [Array.getElem?_eq_none hj,Array.getElem?_eq_none (by simp;omega)]
 have hd:w.drawn + (w'.drawn - w.drawn)=w'.drawn:=by omega
 cases w' with
 | mk heap tape drawn os output =>
  simp only at h1 h2 h3 hh hd
  subst h1;subst h2;subst h3
  unfold Sort.grow World.drewN
  simp only
  rw [hd,← hh]
def encP {α:Type} (ck:α→Int × Int) (x:α):List Value:=[.int .i64 (ck x).1, .int .i64 (ck x).2]
theorem swoP {α:Type} (ck:α→Int × Int):Sort.SWO (ltOf fun x y:α=>cmpP (ck x) (ck y)) where
 irrefl x:=by unfold ltOf cmpP;simp
 trans x y z h1 h2:=by
  unfold ltOf cmpP at *
  simp only [decide_eq_true_eq] at *
  repeat' split at h1
  all_goals repeat' split at h2
  all_goals first | omega | (repeat' split)<;>omega
 ntrans x y z h1 h2:=by
  unfold ltOf cmpP at *
  simp only [decide_eq_false_iff_not] at *
  repeat' split at h1
  all_goals repeat' split at h2
  all_goals first | omega | (repeat' split)<;>omega
set_option maxHeartbeats 1000000 in
theorem X9Q {P:Program} {ρ:Ren} (L:SlLaysF0.n6 P ρ) (aE:∀ w,(isAgg (ρ.t 24)).run P w = .ok true w) (zE:∀ w,(Go.sizeOf (ρ.t 24)).run P w = .ok 2 w)
  {α:Type} [Inhabited α] (ck:α→Int × Int) (hinj:∀ x y,ck x=ck y→x=y) (c:α→List AV) (hc:∀ x,c x=[.i .i64 (ck x).1, .i .i64 (ck x).2])
  (t:TypeId) (g:FuncId) (hb:X3d P (ρ.f 6)) (hg:X3d P g) (hcmp:∀ (a b:α) (W:World),Calls P g #[keyV (ck a),keyV (ck b)] W fun e w'=>e = .returned (.int .i64 (cmpP (ck a) (ck b)))∧Bw W.heap.size W w')
  (l:List α) (hl:l.length≤1073741824):X7 P (ρ.f 6) [.vec t 2 (l.map c) false] [.own 0, .fn g []] (.tup []) [.vec t 2 ((X2s ck l).map c) false]:=by
 refine ⟨hb,fun w0 μ w vs hm hp => ?_⟩
 obtain ⟨v0,v1,rfl,hv0,hv1⟩:=X4J hp
 cases hv1 with
 | fn _ _ caps hcs hch =>
 have hcaps:caps=#[]:=by apply Array.eq_empty_of_size_eq_zero;simpa using hcs
 subst hcaps
 cases hv0 with
 | own _ p hμ =>
 have hok:=hm.row 0 _ rfl
 rw [hμ] at hok
 rcases hok with ⟨hz,hlm,_⟩ | ⟨hz,e1,e2,e3,e4,_,arr,e6,e7,e8⟩
 ·have:l=[]:=by simpa using hlm
  subst this
  rw [FP.val_nul hz]
  refine (AnyF.slices_SortFunc_none L none 0 _ w).mono fun e w' ⟨he,hw⟩ => ?_
  subst hw
  exact ⟨_,μ,he,Sub.refl _,by simpa [X2s] using hm, .tup [] #[] rfl (fun j c e=>by simp at e)⟩
 ·rw [FP.val_of hz,e3]
  have hblk:=(hm.own 0 p p.blk hμ (FP.mem_blk hz)).2
  let d:Array α:=l.toArray
  have hds:d.size=l.length:=by simp [d]
  have hcell:∀ j,j < d.size * 2→arr[j]? = some ((Sort.flatK (encP ck) 2 d)[j]!):=by
   intro j hj
   rw [Sort.get_flatK _ _ _ _ hj]
   have hi:j / 2 < l.length:=by omega
   have hx:(l.map c)[j / 2]? = some (c l[j / 2]):=by rw [List.getElem?_map,List.getElem?_eq_getElem hi];rfl
   have hd:d[j / 2]! = l[j / 2]:=by simp [d,hi]
   have h0:=(e8 (j / 2) _ hx).2
   rw [hc] at h0
   have hm2:j % 2=0∨j % 2=1:=by omega
   rcases hm2 with h2 | h2
   ·obtain ⟨v,hv,hr⟩:=h0 0 _ rfl
    cases hr
    have:j=j / 2 * 2 + 0:=by omega
    rw [← this] at hv
    have hv:arr[j]? = _:=hv
    rw [hv,h2,hd];rfl
   ·obtain ⟨v,hv,hr⟩:=h0 1 _ rfl
    cases hr
    have:j=j / 2 * 2 + 1:=by omega
    rw [← this] at hv
    have hv:arr[j]? = _:=hv
    rw [hv,h2,hd];rfl
  have hH:Sort.HoldsK (encP ck) 2 w p.blk 0 d:=by
   intro j hj
   rw [Sort.size_flatK] at hj
   refine ⟨?_,by simp only [World.frozen?,e6];simp⟩
   rw [X1d];unfold X5;rw [e6,Nat.zero_add]
   exact hcell j hj
  have eg:∀ args w,(callFunc g args).run P w = .ok (.enter g args) w:=fun args w=>X2k hg args w
  have hT:∀ x y,(ltOf fun x y:α=>cmpP (ck x) (ck y)) x y=false→(ltOf fun x y:α=>cmpP (ck x) (ck y)) y x=false→x=y:=by
   intro x y h1 h2
   apply hinj
   unfold ltOf cmpP at h1 h2
   simp only [decide_eq_false_iff_not] at h1 h2
   have ha:(ck x).1=(ck y).1∧(ck x).2=(ck y).2:=by
    repeat' split at h1
    all_goals repeat' split at h2
    all_goals first | omega
   exact Prod.ext ha.1 ha.2
  have hlays:CmpLays P g #[] (encP ck) 2 (fun x y=>cmpP (ck x) (ck y)) p.blk 0 d.size w:=fun m os dk _ x y =>
   (hcmp x y _).mono fun e w' ⟨he,hw⟩=>⟨he,X8Q hw⟩
  have hsort:=AnyQ.slices_SortFunc_total L 2 aE zE (encP ck) (fun _=>rfl) (fun x v hv=>by simp [encP] at hv;rcases hv with rfl | rfl<;>rfl) (fun x y=>cmpP (ck x) (ck y)) (swoP ck) g #[] p.blk 0 p.cap d w eg hlays hH hblk (by omega) hT
  rw [hds] at hsort
  have hlen:(l.map c).length=l.length:=by simp
  rw [hlen]
  refine hsort.mono fun e w' ⟨he,n,os,hw⟩=>⟨_,μ,he,Sub.refl _,?_, .tup [] #[] rfl (fun j c e=>by simp at e)⟩
  generalize hd':(d.toList.mergeSort fun x y => !(ltOf fun x y:α=>cmpP (ck x) (ck y)) y x).toArray=d' at hw
  have hdl:d'.toList=X2s ck l:=by rw [← hd'];rfl
  have hds':d'.size=l.length:=by rw [← Array.length_toList,hdl];simp
  have hother:∀ b,b < w.heap.size→b≠p.blk→w'.heap[b]? = w.heap[b]? := by
   intro b hbs hbn
   rw [hw]
   unfold Go.Proofs.sortWorldK Sort.grow Sort.putRowK Sort.putRow Sort.mapBlock Sort.ahead
   simp only
   rw [Array.getElem?_append_left (by simpa using hbs),Array.getElem?_modify,if_neg (fun e=>hbn e.symm)]
  have hself:w'.heap[p.blk]? = some (.cells (Sort.putCells id 0 (Sort.flatK (encP ck) 2 d') arr) t (0,0)):=by
   rw [hw]
   unfold Go.Proofs.sortWorldK Sort.grow Sort.putRowK Sort.putRow Sort.mapBlock Sort.ahead
   simp only
   rw [Array.getElem?_append_left (by simpa using hblk),Array.getElem?_modify,if_pos rfl,e6]
   rfl
  have hsize:w.heap.size≤w'.heap.size:=by
   rw [hw]
   unfold Go.Proofs.sortWorldK Sort.grow Sort.putRowK Sort.putRow Sort.mapBlock Sort.ahead
   simp
  have hown:=hm.own 0 p p.blk hμ (FP.mem_blk hz)
  refine ⟨⟨hm.bel.step (by rw [hw];rfl) (by rw [hw];rfl) (by rw [hw];rfl) hsize (by rw [hw];exact Nat.le_add_right _ _) (fun k hk ho=>hother k (Nat.lt_of_lt_of_le hk hm.bel.size) fun e=>by subst e;exact hown.1.elim (fun h=>ho h) (fun h=>by omega)),fun r row e => ?_,hm.sep,hm.nodup,fun r q b e hb => ?_⟩,hm.out,fun r e => ?_,hm.pin⟩
  ·cases r with
   | succ r=>simp at e
   | zero =>
    simp at e;subst e
    rw [hμ]
    refine .inr ⟨hz,e1,e2,by rw [e3];simp,by simpa using e4,(fun h=>by cases h),_,hself,by simp [Sort.putCells,e7],fun i cs hi => ?_⟩
    rw [List.getElem?_map,Option.map_eq_some_iff] at hi
    obtain ⟨x,hx,rfl⟩:=hi
    have hil:i < l.length:=by
     rcases Nat.lt_or_ge i (X2s ck l).length with h | h
     ·simpa using h
     ·rw [List.getElem?_eq_none h] at hx;cases hx
    have hdx:d'[i]! = x:=by
     have:d'[i]? = some x:=by rw [← Array.getElem?_toList,hdl];exact hx
     rw [Array.getElem!_eq_getD,Array.getD_eq_getD_getElem?,this];rfl
    have hpc:∀ j,j < l.length * 2→(Sort.putCells id 0 (Sort.flatK (encP ck) 2 d') arr)[j]? = some ((encP ck d'[j / 2]!)[j % 2]!):=by
     intro j hj
     have hja:j < arr.size:=by rw [e7];simp at e4;omega
     simp only [Sort.putCells,Array.getElem?_mapIdx,Array.getElem?_eq_getElem hja,Option.map_some]
     rw [if_pos ⟨Nat.zero_le _,by rw [Sort.size_flatK,hds'];omega⟩]
     simp only [Nat.sub_zero,id]
     rw [Sort.get_flatK _ _ _ _ (by rw [hds'];exact hj)]
    refine ⟨by rw [hc];rfl,fun j y hy => ?_⟩
    rw [hc] at hy
    match j,hy with
    | 0,hy =>
     simp at hy;subst hy
     refine ⟨_,hpc (i * 2 + 0) (by omega),?_⟩
     rw [show (i * 2 + 0) / 2=i from by omega,show (i * 2 + 0) % 2=0 from by omega,hdx];rfl
    | 1,hy =>
     simp at hy;subst hy
     refine ⟨_,hpc (i * 2 + 1) (by omega),?_⟩
     rw [show (i * 2 + 1) / 2=i from by omega,show (i * 2 + 1) % 2=1 from by omega,hdx];rfl
  ·obtain ⟨h1,h2⟩:=hm.own r q b e hb
   exact ⟨h1,by omega⟩
  ·cases r<;>simp at e
end Go.Ab
