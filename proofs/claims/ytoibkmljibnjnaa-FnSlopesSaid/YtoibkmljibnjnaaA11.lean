/- append to a slice of the call's own; arrays of slices; rows that are given up. -/
import Derived.Test.YtoibkmljibnjnaaA10
set_option linter.unusedVariables false
set_option linter.unusedSimpArgs false
namespace Go.Ab
open Go.RowKit
def X2g (q:Nat):AV→Bool
 | .b _ | .i _ _ | .f _ _ | .any | .nils | .sl _ | .ref _ _=>true
 | .own r | .inn r _ | .ipt r _ _ | .ptr r _ _ | .mp r=>r != q
 | _=>false
def X3M (q:Nat):AV→Bool
 | .agg cs=>cs.all (X2g q)
 | v=>X2g q v
def X4K (q:Nat):AV→Bool
 | .tup vs=>vs.all (X3M q)
 | .fn _ cap=>cap.all (X2g q)
 | v=>X3M q v
def X1A (qs:List Nat) (v:AV):AV :=
 match qs.all (fun q=>X4K q v) with
 | true=>v
 | false => .any
def Xr (qs:List Nat):Row→Row
 | .box t cs => .box t (cs.map (X1A qs))
 | .lits t cs => .lits t (cs.map (X1A qs))
 | r=>r
theorem X3r {H:Array Obj} {μ μ':Nat→Option FP} {qs:List Nat} (hs:∀ r,r ∉ qs→μ' r=μ r) {c:AV} {v:Value} (hn:∀ q∈qs,X2g q c=true) (h:Rep H μ c v):Rep H μ' c v:=by
 have out:∀ r,(∀ q∈qs,(r != q)=true)→μ' r=μ r:=fun r hr=>hs r fun hm=>by have:=hr r hm;simp at this
 cases qs with
 | nil=>exact h.mono fun r p e=>by rw [hs r (by simp)];exact e
 | cons q0 qs =>
  have h0:=hn q0 (by simp)
  cases h with
  | any v=>exact .any v
  | b x=>exact .b x
  | i k n=>exact .i k n
  | f k x bits h e=>exact .f k x bits h e
  | nils=>exact .nils
  | slE a c=>exact .slE a c
  | sl l es bl off c val h h1 h2 hc=>exact .sl l es bl off c val h h1 h2 hc
  | ref cs off bl base val h h2=>exact .ref cs off bl base val h h2
  | own r p h=>exact .own r p (by rw [out r hn];exact h)
  | inn r j p ib h hb=>exact .inn r j p ib (by rw [out r hn];exact h) hb
  | ipt r j k p b n c h hb=>exact .ipt r j k p b n c (by rw [out r hn];exact h) hb
  | ptr r idx off p h=>exact .ptr r idx off p (by rw [out r hn];exact h)
  | mp r p h hz=>exact .mp r p (by rw [out r hn];exact h) hz
  | bx=>simp [X2g] at h0
  | agg=>simp [X2g] at h0
  | tup=>simp [X2g] at h0
  | fn=>simp [X2g] at h0
theorem X4L {H:Array Obj} {μ μ':Nat→Option FP} {qs:List Nat} (hs:∀ r,r ∉ qs→μ' r=μ r) {c:AV} {v:Value} (hn:∀ q∈qs,X3M q c=true) (h:Rep H μ c v):Rep H μ' c v:=by
 cases c with
 | agg cs =>
  cases h with | agg _ vs hz hh =>
  refine .agg cs vs hz fun j c e=>X3r hs (fun q hq => ?_) (hh j c e)
  have:=hn q hq
  simp only [X3M,List.all_eq_true] at this
  exact this c (List.mem_of_getElem? e)
 | _=>exact X3r hs (fun q hq=>by have:=hn q hq;simpa only [X3M] using this) h
theorem X8Z {H:Array Obj} {μ μ':Nat→Option FP} {qs:List Nat} (hs:∀ r,r ∉ qs→μ' r=μ r) {c:AV} {v:Value} (hn:∀ q∈qs,X4K q c=true) (h:Rep H μ c v):Rep H μ' c v:=by
 cases c with
 | tup cs =>
  cases h with | tup _ vs hz hh =>
  refine .tup cs vs hz fun j c e=>X4L hs (fun q hq => ?_) (hh j c e)
  have:=hn q hq
  simp only [X4K,List.all_eq_true] at this
  exact this c (List.mem_of_getElem? e)
 | fn g cap =>
  cases h with | fn _ _ vs hz hh =>
  refine .fn g cap vs hz fun j c e=>X3r hs (fun q hq => ?_) (hh j c e)
  have:=hn q hq
  simp only [X4K,List.all_eq_true] at this
  exact this c (List.mem_of_getElem? e)
 | _=>exact X4L hs (fun q hq=>by have:=hn q hq;simpa only [X4K] using this) h
theorem X2O {H:Array Obj} {μ μ':Nat→Option FP} {qs:List Nat} (hs:∀ r,r ∉ qs→μ' r=μ r) {c:AV} {v:Value} (h:Rep H μ c v):Rep H μ' (X1A qs c) v:=by
 unfold X1A
 split
 ·rename_i ha
  rw [List.all_eq_true] at ha
  exact X8Z hs ha h
 ·exact .any v
theorem X7M {H:Array Obj} {μ μ':Nat→Option FP} {qs:List Nat} (hs:∀ r,r ∉ qs→μ' r=μ r) {heap:Array Obj} {p:Option FP} {row:Row} (h:X4 H μ heap p row):X4 H μ' heap p (Xr qs row):=by
 cases row with
 | box t cs =>
  cases p with
  | none=>exact h.elim
  | some p =>
   obtain ⟨ez,e1,e2,arr,e3,e4,e5⟩:=h
   refine ⟨ez,by simpa [Xr] using e1,e2,arr,e3,by simpa [Xr] using e4,fun j c e => ?_⟩
   rw [List.getElem?_map,Option.map_eq_some_iff] at e
   obtain ⟨c0,e0,rfl⟩:=e
   exact X2O hs (e5 j c0 e0)
 | lits t cs =>
  cases p with
  | none=>exact h.elim
  | some p =>
   obtain ⟨ez,e1,e2,e2',e2'',arr,e3,e4,e5⟩:=h
   refine ⟨ez,e1,e2,by simpa [Xr] using e2',by simpa [Xr] using e2'',arr,e3,by simpa [Xr] using e4,fun j c e => ?_⟩
   rw [List.getElem?_map,Option.map_eq_some_iff] at e
   obtain ⟨c0,e0,rfl⟩:=e
   exact X2O hs (e5 j c0 e0)
 | vec=>cases p<;>exact h
 | nest=>cases p<;>exact h
 | mapN=>cases p<;>exact h
 | mapS=>cases p<;>exact h
 | nestD=>cases p<;>exact h
 | vecU=>cases p<;>exact h
 | dead=>cases p<;>exact h
theorem Mem.change {w0:Old0} {w w':World} {μ μ':Nat→Option FP} {rows rows':List Row} (h:Mem w0 μ rows w) {qs:List Nat} (hb:Bel w0 w') (hs:∀ r,r ∉ qs→μ' r=μ r) (hpin:∀ r,r∈qs→w0.pin r=none)
  (hl:rows'.length=rows.length) (hr:∀ r row,r ∉ qs→rows'[r]? = some row→∃ row0,rows[r]? = some row0∧row=Xr qs row0)
  (hblk:∀ r p b,r ∉ qs→μ r=some p→b∈p.blks→w'.heap[b]? = w.heap[b]?) (hsz:w.heap.size≤w'.heap.size)
  (hq:∀ r row,r∈qs→rows'[r]? = some row→X4 w0.heap μ' w'.heap (μ' r) row)
  (hq0:∀ r,r∈qs→rows.length≤r→μ' r=none) (hqd:∀ r,r∈qs→rows'[r]? = some .dead→μ' r=none)
  (hq1:∀ r p,r∈qs→μ' r=some p→p.blks.Nodup∧∀ b∈p.blks,(w0.mine b∧b < w'.heap.size)∧∀ r' p',r'≠r→μ' r'=some p'→b ∉ p'.blks):Mem w0 μ' rows' w':=by
 refine ⟨⟨hb,fun r row e => ?_,fun r r' p p' b e e' hm hm' => ?_,fun r p e => ?_,fun r p b e hm => ?_⟩,fun r hlen => ?_,fun r e => ?_,fun r p e => ?_⟩
 ·by_cases hrq:r∈qs
  ·exact hq r row hrq e
  ·obtain ⟨row0,e0,rfl⟩:=hr r row hrq e
   rw [hs r hrq]
   exact X7M hs ((h.row r row0 e0).heap fun q hq' b hb'=>hblk r q b hrq hq' hb')
 ·by_cases hrr:r=r'
  ·exact hrr
  ·exfalso
   by_cases hrq:r∈qs
   ·exact ((hq1 r p hrq e).2 b hm).2 r' p' (fun x=>hrr x.symm) e' hm'
   ·by_cases hrq':r'∈qs
    ·exact ((hq1 r' p' hrq' e').2 b hm').2 r p hrr e hm
    ·rw [hs r hrq] at e;rw [hs r' hrq'] at e'
     exact hrr (h.sep r r' p p' b e e' hm hm')
 ·by_cases hrq:r∈qs
  ·exact (hq1 r p hrq e).1
  ·rw [hs r hrq] at e;exact h.nodup r p e
 ·by_cases hrq:r∈qs
  ·exact ((hq1 r p hrq e).2 b hm).1
  ·rw [hs r hrq] at e
   have:=h.own r p b e hm
   exact ⟨this.1,by omega⟩
 ·by_cases hrq:r∈qs
  ·exact hq0 r hrq (by omega)
  ·rw [hs r hrq];exact h.out r (by omega)
 ·by_cases hrq:r∈qs
  ·exact hqd r hrq e
  ·obtain ⟨row0,e0,h0⟩:=hr r _ hrq e
   rw [hs r hrq]
   refine h.dead r ?_
   cases row0<;>simp [Xr] at h0
   exact e0
 ·by_cases hrq:r∈qs
  ·rw [hpin r hrq] at e;cases e
  ·rw [hs r hrq];exact h.pin r p e
def X68 (T:TypeId→Option TD) (np:Nat) (st:St) (ts tx:TypeId) (s x:AV) (ans:List Ans):Option (St × AV × List Ans × List Prop) :=
 match T ts,ts == tx,s with
 | some d,true, .own r=>match d.kind with
  | .slice e=>match T e with
   | some de=>match st.rows[r]?,Nat.ble de.bytes 65536 && (de.zero.length == de.size) && Nat.ble np r with
    | some (.vec t es l _),true=>match es == de.size,t == e,srcOf st.rows es x with
     | true,true,some (l',C)=>some (⟨st.tm.map (X1A [r]),(st.rows.map (Xr [r])).set r (.vec e es (l ++ l') false)⟩, .own r,ans,(l.length + l'.length≤1073741824) :: C)
     | _,_,_=>none
    | _,_=>none
   | none=>none
  | _=>none
 | some d,true, .nils=>match d.kind with
  | .slice e=>match T e with
   | some de=>match Nat.ble de.bytes 65536 && (de.zero.length == de.size) with
    | true=>match srcOf st.rows de.size x with
     | some (l',C)=>some (⟨st.tm,st.rows ++ [.vec e de.size l' false]⟩, .own st.rows.length,ans,(l'≠[]) :: (l'.length≤1073741824) :: C)
     | none=>none
    | false=>none
   | none=>none
  | _=>none
 | _,_,_=>none
theorem X4M {P:Program} {w:World} {ts e ty:TypeId} {inf:TypeInfo} (hu:P.underlying ts=some (.slice e)) (hi:P.info? e=some inf) (b:Addr) (n c:Nat) (a:Option Addr) (ca:Nat) (hc:n≤c) :
  (Builtin.append_ #[ts,ts] ty #[.slice (some b) n c, .slice a 0 ca]).run P w = .ok (.slice (some b) n c) w:=by
 cases a with
 | none=>simp [Builtin.append_,run_underlying hu,sizeOf,typeInfo,hi,Builtin.lenOf,hc,Builtin.firstCells,storeCells]
 | some a=>simp [Builtin.append_,run_underlying hu,sizeOf,typeInfo,hi,Builtin.lenOf,hc,Builtin.firstCells,loadCells,loadCellsFrom,storeCells]
theorem X2E {P:Program} {w:World} {ts e ty:TypeId} {inf:TypeInfo} (hu:P.underlying ts=some (.slice e)) (hi:P.info? e=some inf) (a:Option Addr) (ca:Nat) :
  (Builtin.append_ #[ts,ts] ty #[.slice none 0 0, .slice a 0 ca]).run P w = .ok (.slice none 0 0) w:=by
 cases a with
 | none=>simp [Builtin.append_,run_underlying hu,sizeOf,typeInfo,hi,Builtin.lenOf,Builtin.firstCells]
 | some a=>simp [Builtin.append_,run_underlying hu,sizeOf,typeInfo,hi,Builtin.lenOf,Builtin.firstCells,loadCells,loadCellsFrom]
theorem X4g {P:Program} {w0:Old0} {w:World} {μ:Nat→Option FP} {T:TypeId→Option TD} (hT:TOk P T) {st st':St} {a:Act} (hr:RelM w0 μ st a w) {ts tx ty:TypeId} {s x v:AV} {vs vx:Value} {ans ans':List Ans} {C:List Prop}
  {np:Nat} (hnp:w0.np≤np) (hs:Rep w0.heap μ s vs) (hx:Rep w0.heap μ x vx) (h:X68 T np st ts tx s x ans=some (st',v,ans',C)) (hC:All C) :
  ∃ u w',(Builtin.append_ #[ts,tx] ty #[vs,vx]).run P w = .ok u w'∧∃ μ',RelM w0 μ' st' a w'∧Rep w0.heap μ' v u:=by
 have hm:=hr.mem
 unfold X68 at h
 cases hts:T ts with
 | none=>rw [hts] at h;cases h
 | some d =>
  rw [hts] at h
  cases htt:ts == tx with
  | false=>rw [htt] at h;cases h
  | true =>
   rw [htt] at h
   have htt':ts=tx:=by simpa using htt
   subst htt'
   obtain ⟨u,hu,hk,hagg⟩:=(hT ts d hts).desc
   cases hkd:d.kind with
   | slice e =>
    rw [hkd] at hk
    cases u<;>simp only [Xa] at hk
    rw [hk] at hu
    cases he:T e with
    | none=>cases hs<;>simp only [hkd,he] at h<;>cases h
    | some de =>
     obtain ⟨inf,z,hinf,hsz,hby,hz,hpw1,hpw2⟩:=(hT e de he).inf
     cases hs with
     | own q p hp =>
      simp only [hkd,he] at h
      split at h
      ·rename_i t es l full hrow hb
       simp only [Bool.and_eq_true,beq_iff_eq,Nat.ble_eq] at hb
       have hok:=hm.row q _ hrow
       rw [hp] at hok
       split at h
       ·rename_i l' C' hes hte hsrc
        simp only [beq_iff_eq] at hes hte
        subst hte;subst hes
        simp only [Option.some.injEq,Prod.mk.injEq] at h
        obtain ⟨rfl,rfl,rfl,rfl⟩:=h
        obtain ⟨c2,c3⟩:=hC
        have hqlt:q < st.rows.length:=by
         rcases Nat.lt_or_ge q st.rows.length with h | h
         ·exact h
         ·rw [List.getElem?_eq_none h] at hrow;cases hrow
        have fin:∀ (w':World) (p':FP),Bel w0 w'→w.heap.size≤w'.heap.size→(∀ b,b < w.heap.size→b ∉ p.blks→w'.heap[b]? = w.heap[b]?) →
          X4 w0.heap (setμ μ q p') w'.heap (some p') (.vec t de.size (l ++ l') false)→p'.blks.Nodup→(∀ b,b∈p'.blks→(w0.mine b∧b < w'.heap.size)∧(b∈p.blks∨w.heap.size≤b)) →
          ∃ μ',RelM w0 μ' ⟨st.tm.map (X1A [q]),(st.rows.map (Xr [q])).set q (.vec t de.size (l ++ l') false)⟩ a w'∧Rep w0.heap μ' (.own q) p'.val:=by
         intro w' p' hbel hgrow hkeep f1 f2 f3
         have hμs:∀ r,r ∉ [q]→setμ μ q p' r=μ r:=fun r hr'=>if_neg (by simpa using hr')
         refine ⟨setμ μ q p',⟨hr.defers,by simpa using hr.size,fun i v hv => ?_,?_⟩, .own q p' (by simp [setμ])⟩
         ·rw [List.getElem?_map,Option.map_eq_some_iff] at hv
          obtain ⟨v0,hv0,rfl⟩:=hv
          exact X2O hμs (hr.tmps i v0 hv0)
         ·refine hm.change hbel hμs (fun r hr' => ?_) (by simp) (fun r row hrq hrow' => ?_) (fun r p2 b hrq hp2 hb2 => ?_) hgrow (fun r row hrq hrow' => ?_) (fun r hrq hlen => ?_) (fun r hrq hdd => ?_) (fun r p2 hrq hp2 => ?_)
          ·cases hpn:w0.pin r with
           | none=>rfl
           | some pz =>
            have:=w0.pinLt r pz hpn
            have hrq:r=q:=by simpa using hr'
            omega
          ·rw [List.getElem?_set_ne (by simp at hrq;omega),List.getElem?_map,Option.map_eq_some_iff] at hrow'
           obtain ⟨row0,h0,rfl⟩:=hrow'
           exact ⟨row0,h0,rfl⟩
          ·exact hkeep b (hm.own r p2 b hp2 hb2).2 fun hbe=>(by simpa using hrq:r≠q) (hm.sep r q p2 p _ hp2 hp hb2 hbe)
          ·have hrq':r=q:=by simpa using hrq
           subst hrq'
           rw [List.getElem?_set_self (by simpa using hqlt)] at hrow'
           simp only [Option.some.injEq] at hrow';subst hrow'
           rw [show setμ μ r p' r=some p' from if_pos rfl]
           exact f1
          ·have hrq':r=q:=by simpa using hrq
           omega
          ·have hrq':r=q:=by simpa using hrq
           subst hrq'
           rw [List.getElem?_set_self (by simpa using hqlt)] at hdd
           cases hdd
          ·have hrq':r=q:=by simpa using hrq
           subst hrq'
           rw [show setμ μ r p' r=some p' from if_pos rfl] at hp2
           simp only [Option.some.injEq] at hp2;subst hp2
           refine ⟨f2,fun b hb2 => ?_⟩
           obtain ⟨g1,g2⟩:=f3 b hb2
           refine ⟨g1,fun r' p3 hne hp3 hb3 => ?_⟩
           rw [hμs r' (by simpa using hne)] at hp3
           rcases g2 with g2 | g2
           ·exact hne (hm.sep r' r p3 p _ hp3 hp hb3 g2)
           ·have h3:=hm.own r' p3 _ hp3 hb3
            omega
        rcases hok with ⟨hzz,rfl,_⟩ | ⟨hzz,e1,e2,e3,e4,e5,arr,e6,e7,e8⟩
        ·rw [FP.val_nul hzz]
         rcases X2f hm.toMemW hx hsrc c3 with ⟨h0,ad,ca,hv⟩ | ⟨b,o,c,news,hv,hl,hnews,hone,hE⟩
         ·subst h0;subst hv
          refine ⟨_,w,X2E hu hinf ad ca,?_⟩
          have:=fin w p hm.bel (Nat.le_refl _) (fun b _ _=>rfl) (.inl ⟨hzz,rfl,rfl⟩) (by rw [FP.blks_nul hzz];exact List.nodup_nil) (fun b hb=>by rw [FP.blks_nul hzz] at hb;cases hb)
          rw [FP.val_nul hzz] at this
          exact this
         ·subst hv
          by_cases hl0:l'=[]
          ·subst hl0
           have hn0:news=[]:=List.eq_nil_of_length_eq_zero (by rw [hl];simp)
           refine ⟨_,w,X2E hu hinf (some ⟨b,o,none⟩) c,?_⟩
           have:=fin w p hm.bel (Nat.le_refl _) (fun b _ _=>rfl) (.inl ⟨hzz,rfl,rfl⟩) (by rw [FP.blks_nul hzz];exact List.nodup_nil) (fun b hb=>by rw [FP.blks_nul hzz] at hb;cases hb)
           rw [FP.val_nul hzz] at this
           exact this
          have hpos:0 < l'.length:=by cases l' with | nil=>exact absurd rfl hl0 | cons=>simp
          have hfit:l'.length * inf.bytes≤281474976710656:=by
           have:l'.length * inf.bytes≤1073741824 * 65536:=Nat.mul_le_mul (by simpa using c2) (by rw [hby];exact hb.1.1)
           omega
          have hrun:=run_append_nil (P:=P) w ts ty t inf z hu hinf hz ⟨b,o,none⟩ l'.length c news (by rw [hl,hsz]) hnews hpos (by simp at c2;omega) hfit
          refine ⟨_,_,hrun,?_⟩
          have hge:=grownCap_ge w l'.length 0 t
          have hnb:=X1R w.drew (news.toArray ++ Builtin.zeroCells z.cells (grownCap w l'.length 0 t - l'.length)) t
          have:=fin (newB w.drew (news.toArray ++ Builtin.zeroCells z.cells (grownCap w l'.length 0 t - l'.length)) t) ⟨w.heap.size,de.size,l'.length,grownCap w l'.length 0 t,[],false⟩
           (hm.bel.ext ⟨⟨hnb.os,hnb.tape,hnb.output,hnb.size,hnb.block⟩,Nat.le_trans (Nat.le_succ _) hnb.drawn⟩) hnb.size (fun b' hb' _=>hnb.block b' hb')
           (.inr ⟨rfl,rfl,rfl,by simp,by simpa using hge,(fun hf=>by cases hf),_,Xq _ _ _,by
             simp only [Array.size_append,List.size_toArray,hl,size_zeroCells,hpw1,hb.1.2]
             rw [← Nat.add_mul];congr 1;omega,by
             intro i cs hi
             rw [List.nil_append] at hi
             obtain ⟨b1,b2⟩:=hE i cs hi
             refine ⟨b1,fun j x hj => ?_⟩
             obtain ⟨v,ev,rv⟩:=b2 j x hj
             refine ⟨v,?_,rv⟩
             have hlt:i * de.size + j < news.length:=by
              rcases Nat.lt_or_ge (i * de.size + j) news.length with h | h
              ·exact h
              ·simp only at ev;rw [List.getElem?_eq_none h] at ev;cases ev
             simp only
             rw [Array.getElem?_append_left (by simpa using hlt)]
             simpa using ev⟩)
           (by simp [FP.blks,FP.ib]) (fun b' hb'=>by
            simp [FP.blks,FP.ib] at hb';subst hb'
            exact ⟨⟨.inr hm.bel.size,by rw [X2e];exact Nat.lt_succ_self _⟩, .inr (Nat.le_refl _)⟩)
          exact this
        rw [FP.val_of hzz]
        have hpblk:p.blks=[p.blk]:=by rw [FP.blks_of hzz];simp [FP.ib,e2]
        have hown0:w0.mine p.blk:=(hm.own q p p.blk hp (FP.mem_blk hzz)).1
        have hown1:p.blk < w.heap.size:=(hm.own q p p.blk hp (FP.mem_blk hzz)).2
        have fin2:∀ (w':World) (p':FP) (arr':Array Value),Bel w0 w'→w.heap.size≤w'.heap.size→(∀ b,b < w.heap.size→b≠p.blk→w'.heap[b]? = w.heap[b]?) →
          p'.nul=false→p'.es=de.size→p'.inn=[]→p'.len=(l ++ l').length→(l ++ l').length≤p'.cap→w'.heap[p'.blk]? = some (.cells arr' t (0,0))→arr'.size=p'.cap * de.size→XS (arr'[·]?) de.size (l ++ l') →
          (p'.blk=p.blk∨w.heap.size≤p'.blk)→p'.blk < w'.heap.size →
          ∃ μ',RelM w0 μ' ⟨st.tm.map (X1A [q]),(st.rows.map (Xr [q])).set q (.vec t de.size (l ++ l') false)⟩ a w'∧Rep w0.heap μ' (.own q) (.slice (some ⟨p'.blk,0,none⟩) p'.len p'.cap):=by
         intro w' p' arr' hbel hgrow hkeep f0 f1 f2 f3 f4 f5 f6 f7 f8 f9
         have hp':p'.blks=[p'.blk]:=by rw [FP.blks_of f0];simp [FP.ib,f2]
         have:=fin w' p' hbel hgrow (fun b hb hn=>hkeep b hb fun e=>hn (by rw [hpblk,e];exact List.mem_singleton.2 rfl)) (.inr ⟨f0,f1,f2,f3,f4,(fun hf=>by cases hf),arr',f5,f6,f7⟩)
          (by rw [hp'];simp) (fun b hb=>by
           rw [hp'] at hb
           have hbe:=List.mem_singleton.1 hb
           subst hbe
           rcases f8 with f8 | f8
           ·exact ⟨⟨by rw [f8];exact hown0,f9⟩, .inl (by rw [hpblk,f8];exact List.mem_singleton.2 rfl)⟩
           ·exact ⟨⟨.inr (Nat.le_trans hm.bel.size f8),f9⟩, .inr f8⟩)
         rw [FP.val_of f0] at this
         exact this
        rcases X2f hm.toMemW hx hsrc c3 with ⟨h0,ad,ca,hv⟩ | ⟨b,o,c,news,hv,hl,hnews,hone,hE⟩
        ·subst h0;subst hv
         refine ⟨_,w,X4M hu hinf ⟨p.blk,0,none⟩ p.len p.cap ad ca (by omega),?_⟩
         have:=fin2 w p arr hm.bel (Nat.le_refl _) (fun b _ _=>rfl) hzz e1 e2 (by simpa using e3) (by simpa using e4) e6 e7 (by simpa using e8) (.inl rfl) hown1
         exact this
        ·subst hv
         by_cases hroom:l.length + l'.length≤p.cap
         ·have hfit:l.length * inf.size + news.length≤arr.size:=by
           rw [hl,hsz,e7,← Nat.add_mul];exact Nat.mul_le_mul_right _ hroom
          have hrun:=run_append_room (P:=P) w ts ty t inf hu hinf p.blk l.length p.cap arr e6 ⟨b,o,none⟩ l'.length c news (by rw [hl,hsz]) hnews hone hroom hfit
          refine ⟨_,_,by rw [e3];exact hrun,?_⟩
          have ha:arr.toList.length=arr.size:=Array.length_toList
          have:=fin2 (w.setRow p.blk (arr.toList.take (l.length * inf.size) ++ news ++ arr.toList.drop (l.length * inf.size + news.length)).toArray) { p with len:=l.length + l'.length } _
           (hm.bel.set hown0 rfl rfl rfl (by simp) (fun k hk=>setRow_other _ _ _ _ hk))
           (by simp) (fun b' _ hne=>setRow_other _ _ _ _ hne) hzz e1 e2 (by simp) (by simpa using hroom) (setRow_heap _ _ _ _ _ _ e6) (by rw [List.size_toArray,X28 _ _ _ (by omega),ha,e7])
           (by
            refine X2p e8 hE (fun j hj => ?_) (fun j hj => ?_)
            ·rw [List.getElem?_toArray,getElem?_lay3 _ _ _ (by omega),if_pos (by rw [hsz];exact hj),Array.getElem?_toList]
            ·rw [List.getElem?_toArray,getElem?_lay3 _ _ _ (by omega),if_neg (by rw [hsz];omega),if_pos (by rw [hsz,hl];omega)]
             rw [hsz,Nat.add_sub_cancel_left])
           (.inl rfl) (by simpa using hown1)
          exact this
         ·have hold:(arr.toList.take (l.length * de.size)).length=l.length * inf.size:=by
           have ha:arr.toList.length=p.cap * de.size:=by rw [Array.length_toList,e7]
           have:l.length * de.size≤p.cap * de.size:=Nat.mul_le_mul_right _ e4
           rw [List.length_take,ha,hsz];omega
          have hcells:∀ (j:Nat) (v:Value),(arr.toList.take (l.length * de.size))[j]? = some v→w.cell? ((⟨p.blk,0,none⟩:Addr).add j)=some v:=by
           intro j v ev
           rw [Xy,X1d]
           rw [List.getElem?_take] at ev
           split at ev
           ·unfold X5;rw [e6];simpa using ev
           ·cases ev
          have hfit:Builtin.nextslicecap (l.length + l'.length) p.cap * inf.bytes≤281474976710656:=by
           refine growslice_fits (by omega) ?_
           have:(l.length + l'.length) * inf.bytes≤1073741824 * 65536:=Nat.mul_le_mul c2 (by rw [hby];exact hb.1.1)
           omega
          have hrun:=run_append_grow (P:=P) w ts ty t inf z hu hinf hz ⟨p.blk,0,none⟩ l.length p.cap _ hold hcells ⟨b,o,none⟩ l'.length c news (by rw [hl,hsz]) hnews (by omega) (by omega) hfit
          refine ⟨_,_,by rw [e3];exact hrun,?_⟩
          have hge:=grownCap_ge w (l.length + l'.length) p.cap t
          rw [hsz] at hold
          have hnb:=X1R w.drew ((arr.toList.take (l.length * de.size)).toArray ++ news.toArray ++ Builtin.zeroCells z.cells (grownCap w (l.length + l'.length) p.cap t - (l.length + l'.length))) t
          have:=fin2 (newB w.drew ((arr.toList.take (l.length * de.size)).toArray ++ news.toArray ++ Builtin.zeroCells z.cells (grownCap w (l.length + l'.length) p.cap t - (l.length + l'.length))) t)
           ⟨w.heap.size,de.size,l.length + l'.length,grownCap w (l.length + l'.length) p.cap t,[],false⟩ _
           (hm.bel.ext ⟨⟨hnb.os,hnb.tape,hnb.output,hnb.size,hnb.block⟩,Nat.le_trans (Nat.le_succ _) hnb.drawn⟩)
           hnb.size (fun b' hb' _=>hnb.block b' hb') rfl rfl rfl (by simp) (by simpa using hge) (Xq w.drew _ _) (by
            simp only [Array.size_append,List.size_toArray,hold,hl,size_zeroCells,hpw1,hb.1.2]
            rw [← Nat.add_mul,← Nat.add_mul];congr 1;omega)
           (by
            refine X2p e8 hE (fun j hj => ?_) (fun j hj => ?_)
            ·rw [Array.getElem?_append_left (by simp [hold];omega),Array.getElem?_append_left (by simp [hold];omega)]
             simp [hj]
            ·rw [Array.getElem?_append_left (by simp [hold,hl];omega),Array.getElem?_append_right (by simp [hold])]
             simp [hold])
           (.inr (Nat.le_refl _)) (by rw [X2e];exact Nat.lt_succ_self _)
          exact this
       ·cases h
      ·cases h
     | nils =>
      simp only [hkd,he] at h
      split at h
      ·rename_i hb
       simp only [Bool.and_eq_true,beq_iff_eq,Nat.ble_eq] at hb
       split at h
       ·rename_i l' C' hsrc
        simp only [Option.some.injEq,Prod.mk.injEq] at h
        obtain ⟨rfl,rfl,rfl,rfl⟩:=h
        obtain ⟨c1,c2,c3⟩:=hC
        rcases X2f hm.toMemW hx hsrc c3 with ⟨h0,_⟩ | ⟨b,o,c,news,hv,hl,hnews,hone,hE⟩
        ·exact absurd h0 c1
        ·subst hv
         have hpos:0 < l'.length:=by cases l' with | nil=>exact absurd rfl c1 | cons=>simp
         have hfit:l'.length * inf.bytes≤281474976710656:=by
          have:l'.length * inf.bytes≤1073741824 * 65536:=Nat.mul_le_mul c2 (by rw [hby];exact hb.1)
          omega
         have hrun:=run_append_nil (P:=P) w ts ty e inf z hu hinf hz ⟨b,o,none⟩ l'.length c news (by rw [hl,hsz]) hnews hpos (by omega) hfit
         refine ⟨_,_,hrun,?_⟩
         have hge:=grownCap_ge w l'.length 0 e
         have hnone:=hm.out st.rows.length (Nat.le_refl _)
         obtain ⟨μ',g1,g2,g3⟩:=Post.new (w0:=w0) (μ:=μ) (lo:=st.rows.length) (w:=w.drew) (av := .own st.rows.length) (row := .vec e de.size l' false) (ans:=ans) (C:=[]) (t:=e)
          (v := .slice (some ⟨w.heap.size,0,none⟩) l'.length (grownCap w l'.length 0 e))
          (arr:=(news.toArray ++ Builtin.zeroCells z.cells (grownCap w l'.length 0 e - l'.length)))
          (p:=⟨w.heap.size,de.size,l'.length,grownCap w l'.length 0 e,[],false⟩) hnone rfl rfl (fun μ' hs'=>by
           refine .inr ⟨rfl,rfl,rfl,rfl,hge,fun hf=>(by cases hf),_,Xq _ _ _,?_,?_⟩
           ·simp only [Array.size_append,List.size_toArray,hl,size_zeroCells,hpw1,hb.2]
            rw [← Nat.add_mul];congr 1;omega
           ·intro i cs hi
            obtain ⟨b1,b2⟩:=hE i cs hi
            refine ⟨b1,fun j x hj => ?_⟩
            obtain ⟨v,ev,rv⟩:=b2 j x hj
            refine ⟨v,?_,rv⟩
            have hlt:i * de.size + j < news.length:=by
             rcases Nat.lt_or_ge (i * de.size + j) news.length with h | h
             ·exact h
             ·simp only at ev;rw [List.getElem?_eq_none h] at ev;cases ev
            simp only
            rw [Array.getElem?_append_left (by simpa using hlt)]
            simpa using ev) (fun μ' e => .own _ _ e)
         have hlay:=hr.grow (w':=newB w.drew _ _) ⟨⟨g2.os,g2.tape,g2.output,g2.size,g2.block⟩,Nat.le_trans (Nat.le_succ _) g2.drawn⟩ g1 (Nat.le_refl _) (fun r h1 _=>hm.out r h1)
         rw [X1J] at hlay
         exact ⟨μ',hlay,g3⟩
       ·cases h
      ·cases h
     | _=>simp only at h;cases h
   | _=>cases hs<;>simp only [hkd] at h<;>cases h
end Go.Ab
