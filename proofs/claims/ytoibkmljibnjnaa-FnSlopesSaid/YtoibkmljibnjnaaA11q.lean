/- Appending to a slice that has no room: a new array; what it was appended to stays. -/
import Derived.Test.YtoibkmljibnjnaaA11s
set_option linter.unusedVariables false
set_option linter.unusedSimpArgs false
namespace Go.Ab
open Go.RowKit
def X6S (T:TypeId→Option TD) (st:St) (ts tx:TypeId) (s x:AV) (ans:List Ans):Option (St × AV × List Ans × List Prop) :=
 match T ts,ts == tx,s,ans with
 | some d,true, .own r, .loop [] _ .ret _ :: ans=>match d.kind with
  | .slice e=>match T e with
   | some de=>match st.rows[r]?,Nat.ble de.bytes 65536 && (de.zero.length == de.size) with
    | some (.vec t es l true),true=>match es == de.size,t == e,srcOf st.rows es x with
     | true,true,some (l',C)=>some (⟨st.tm,st.rows ++ [.vec e es (l ++ l') false]⟩, .own st.rows.length,ans,(l'≠[]) :: (l.length + l'.length≤1073741824) :: C)
     | _,_,_=>none
    | _,_=>none
   | none=>none
  | _=>none
 | _,_,_,_=>none
theorem X6T {P:Program} {w0:Old0} {w:World} {μ:Nat→Option FP} {T:TypeId→Option TD} (hT:TOk P T) {st st':St} {a:Act} (hr:RelM w0 μ st a w) {ts tx ty:TypeId} {s x v:AV} {vs vx:Value} {ans ans':List Ans} {C:List Prop}
  (hs:Rep w0.heap μ s vs) (hx:Rep w0.heap μ x vx) (h:X6S T st ts tx s x ans=some (st',v,ans',C)) (hC:All C) :
  ∃ u w',(Builtin.append_ #[ts,tx] ty #[vs,vx]).run P w = .ok u w'∧∃ μ',RelM w0 μ' st' a w'∧Rep w0.heap μ' v u:=by
 have hm:=hr.mem
 unfold X6S at h
 split at h
 ·rename_i d q k1 k2 ans1 hts htt
  have htt':ts=tx:=by simpa using htt
  subst htt'
  obtain ⟨u,hu,hk,hagg⟩:=(hT ts d hts).desc
  split at h
  ·rename_i e hkd
   rw [hkd] at hk
   cases u<;>simp only [Xa] at hk
   rw [hk] at hu
   split at h
   ·rename_i de he
    obtain ⟨inf,z,hinf,hsz,hby,hz,hpw1,hpw2⟩:=(hT e de he).inf
    split at h
    ·rename_i t es l hrow hb
     simp only [Bool.and_eq_true,beq_iff_eq,Nat.ble_eq] at hb
     split at h
     ·rename_i l' C' hes hte hsrc
      simp only [beq_iff_eq] at hes hte
      subst hte;subst hes
      simp only [Option.some.injEq,Prod.mk.injEq] at h
      obtain ⟨rfl,rfl,rfl,rfl⟩:=h
      obtain ⟨c1,c2,c3⟩:=hC
      cases hs with
      | own _ p hp =>
      have hok:=hm.row q _ hrow
      rw [hp] at hok
      rcases hok with ⟨_,_,hf⟩ | ⟨hzz,e1,e2,e3,e4,e5,arr,e6,e7,e8⟩
      ·cases hf
      have hcap:=e5 rfl
      rcases X2f hm.toMemW hx hsrc c3 with ⟨h0,_⟩ | ⟨b,o,c,news,hv,hl,hnews,hone,hE⟩
      ·exact absurd h0 c1
      ·subst hv
       have hpos:0 < l'.length:=by cases l' with | nil=>exact absurd rfl c1 | cons=>simp
       rw [FP.val_of hzz]
       have hold:(arr.toList.take (l.length * de.size)).length=l.length * inf.size:=by
        have ha:arr.toList.length=p.cap * de.size:=by rw [Array.length_toList,e7]
        have:l.length * de.size≤p.cap * de.size:=Nat.mul_le_mul_right _ e4
        rw [List.length_take,ha,hsz];omega
       have hcells:∀ (j:Nat) (v:Value),(arr.toList.take (l.length * de.size))[j]? = some v→w.cell? ((⟨p.blk,0,none⟩:Addr).add j)=some v:=by
        intro j v ev
        rw [Xy,X1d]
        rw [List.getElem?_take] at ev
        split at ev
        ·unfold X5;rw [e6];simpa using ev
        ·cases ev
       have hfit:Builtin.nextslicecap (l.length + l'.length) p.cap * inf.bytes≤281474976710656:=by
        refine growslice_fits (by omega) ?_
        have:(l.length + l'.length) * inf.bytes≤1073741824 * 65536:=Nat.mul_le_mul c2 (by rw [hby];exact hb.1)
        omega
       have hrun:=run_append_grow (P:=P) w ts ty t inf z hu hinf hz ⟨p.blk,0,none⟩ l.length p.cap _ hold hcells ⟨b,o,none⟩ l'.length c news (by rw [hl,hsz]) hnews (by omega) (by omega) hfit
       refine ⟨_,_,by rw [e3];exact hrun,?_⟩
       have hge:=grownCap_ge w (l.length + l'.length) p.cap t
       rw [hsz] at hold
       have hnone:=hm.out st.rows.length (Nat.le_refl _)
       obtain ⟨μ',g1,g2,g3⟩:=Post.new (w0:=w0) (μ:=μ) (lo:=st.rows.length) (w:=w.drew) (av := .own st.rows.length) (row := .vec t de.size (l ++ l') false) (ans:=ans1) (C:=[]) (t:=t)
        (v := .slice (some ⟨w.heap.size,0,none⟩) (l.length + l'.length) (grownCap w (l.length + l'.length) p.cap t))
        (arr:=((arr.toList.take (l.length * de.size)).toArray ++ news.toArray ++ Builtin.zeroCells z.cells (grownCap w (l.length + l'.length) p.cap t - (l.length + l'.length))))
        (p:=⟨w.heap.size,de.size,l.length + l'.length,grownCap w (l.length + l'.length) p.cap t,[],false⟩) hnone rfl rfl (fun μ' hs'=>by
         refine .inr ⟨rfl,rfl,rfl,by simp,by simpa using hge,fun hf=>(by cases hf),_,Xq _ _ _,?_,?_⟩
         ·simp only [Array.size_append,List.size_toArray,hold,hl,size_zeroCells,hpw1,hb.2]
          rw [← Nat.add_mul,← Nat.add_mul];congr 1;omega
         ·refine X2p e8 hE (fun j hj => ?_) (fun j hj => ?_)
          ·rw [Array.getElem?_append_left (by simp [hold];omega),Array.getElem?_append_left (by simp [hold];omega)]
           simp [hj]
          ·rw [Array.getElem?_append_left (by simp [hold,hl];omega),Array.getElem?_append_right (by simp [hold])]
           simp [hold]) (fun μ' e => .own _ _ e)
       have hlay:=hr.grow (w':=newB w.drew _ _) ⟨⟨g2.os,g2.tape,g2.output,g2.size,g2.block⟩,Nat.le_trans (Nat.le_succ _) g2.drawn⟩ g1 (Nat.le_refl _) (fun r h1 _=>hm.out r h1)
       rw [X1J] at hlay
       exact ⟨μ',hlay,g3⟩
     ·cases h
    ·cases h
   ·cases h
  ·cases h
 ·cases h
def X6U (T:TypeId→Option TD) (st:St) (ts tx:TypeId) (s x:AV) (ans:List Ans):Option (St × AV × List Ans × List Prop) :=
 match T ts,ts == tx,s,x with
 | some d,true, .own r, .bx q m=>match d.kind with
  | .slice e=>match T e with
   | some de=>match st.rows[r]?,st.rows[q]?,Nat.ble de.bytes 65536 && (de.zero.length == de.size) && Nat.ble 1 m && Nat.ble m 65536 with
    | some (.vec t es [] true),some (.box t2 cs),true=>match es == de.size,t == e,cs.length == m * de.size with
     | true,true,true=>some (⟨st.tm,st.rows ++ [.box e cs]⟩, .bx st.rows.length m,ans,[])
     | _,_,_=>none
    | _,_,_=>none
   | none=>none
  | _=>none
 | _,_,_,_=>none
theorem X6V {P:Program} {w0:Old0} {w:World} {μ:Nat→Option FP} {T:TypeId→Option TD} (hT:TOk P T) {st st':St} {a:Act} (hr:RelM w0 μ st a w) {ts tx ty:TypeId} {s x v:AV} {vs vx:Value} {ans ans':List Ans} {C:List Prop}
  (hs:Rep w0.heap μ s vs) (hx:Rep w0.heap μ x vx) (h:X6U T st ts tx s x ans=some (st',v,ans',C)) (hC:All C) :
  ∃ u w',(Builtin.append_ #[ts,tx] ty #[vs,vx]).run P w = .ok u w'∧∃ μ',RelM w0 μ' st' a w'∧Rep w0.heap μ' v u:=by
 have hm:=hr.mem
 unfold X6U at h
 split at h
 ·rename_i d r q m hts htt
  have htt':ts=tx:=by simpa using htt
  subst htt'
  obtain ⟨u,hu,hk,hagg⟩:=(hT ts d hts).desc
  split at h
  ·rename_i e hkd
   rw [hkd] at hk
   cases u<;>simp only [Xa] at hk
   rw [hk] at hu
   split at h
   ·rename_i de he
    obtain ⟨inf,z,hinf,hsz,hby,hz,hpw1,hpw2⟩:=(hT e de he).inf
    split at h
    ·rename_i t es t2 cs hrow hrow2 hb
     simp only [Bool.and_eq_true,beq_iff_eq,Nat.ble_eq] at hb
     split at h
     ·rename_i hes hte hcl
      simp only [beq_iff_eq] at hes hte hcl
      subst hte;subst hes
      simp only [Option.some.injEq,Prod.mk.injEq] at h
      obtain ⟨rfl,rfl,rfl,rfl⟩:=h
      cases hs with
      | own _ p hp =>
      cases hx with
      | bx _ _ c p2 hp2 hmc =>
      have hok:=hm.row r _ hrow
      rw [hp] at hok
      rcases hok with ⟨_,_,hf⟩ | ⟨hzz,e1,e2,e3,e4,e5,arr,e6,e7,e8⟩
      ·cases hf
      have hcap:=e5 rfl
      have hok2:=hm.row q _ hrow2
      rw [hp2] at hok2
      obtain ⟨g0,g1,g2,arr2,g3,g4,g5⟩:=hok2
      rw [FP.val_of hzz]
      have hnl:(arr2.toList.take cs.length).length=cs.length:=by
       rw [List.length_take,Array.length_toList];exact Nat.min_eq_left g4
      have hnews:∀ (j:Nat) (v:Value),(arr2.toList.take cs.length)[j]? = some v→w.cell? ((⟨p2.blk,0,none⟩:Addr).add j)=some v:=by
       intro j v ev
       rw [Xy,X1d]
       rw [List.getElem?_take] at ev
       split at ev
       ·unfold X5;rw [g3];simpa using ev
       ·cases ev
      have hcap0:p.cap=0:=hcap
      have hfit:Builtin.nextslicecap (0 + m) p.cap * inf.bytes≤281474976710656:=by
       refine growslice_fits (by omega) ?_
       have hmb:(0 + m) * inf.bytes≤65536 * 65536:=Nat.mul_le_mul (by omega) (by rw [hby];exact hb.1.1.1)
       omega
      have hrun:=run_append_grow (P:=P) w ts ty t inf z hu hinf hz ⟨p.blk,0,none⟩ 0 p.cap [] (by simp) (fun j v ev=>by simp at ev) ⟨p2.blk,0,none⟩ m c (arr2.toList.take cs.length) (by rw [hnl,hcl,hsz]) hnews (by omega) (by omega) hfit
      have hlen0:p.len=0:=e3
      refine ⟨_,_,by rw [hlen0];exact hrun,?_⟩
      have hge:=grownCap_ge w (0 + m) p.cap t
      have hnone:=hm.out st.rows.length (Nat.le_refl _)
      obtain ⟨μ',k1,k2,k3⟩:=Post.new (w0:=w0) (μ:=μ) (lo:=st.rows.length) (w:=w.drew) (av := .bx st.rows.length m) (row := .box t cs) (ans:=ans) (C:=[]) (t:=t)
       (v := .slice (some ⟨w.heap.size,0,none⟩) (0 + m) (grownCap w (0 + m) p.cap t))
       (arr:=((([]:List Value).toArray ++ (arr2.toList.take cs.length).toArray ++ Builtin.zeroCells z.cells (grownCap w (0 + m) p.cap t - (0 + m)))))
       (p:=⟨w.heap.size,cs.length,m,grownCap w (0 + m) p.cap t,[],false⟩) hnone rfl rfl (fun μ' hs'=>by
        refine ⟨rfl,rfl,rfl,_,Xq _ _ _,?_,fun j c e => ?_⟩
        ·simp only [Array.size_append,List.size_toArray,hnl];omega
        ·have hj:j < cs.length:=by
          rcases Nat.lt_or_ge j cs.length with h | h
          ·exact h
          ·rw [List.getElem?_eq_none h] at e;cases e
         have:=(g5 j c e).mono hs'
         rw [Array.getD_eq_getD_getElem?] at this ⊢
         rw [Array.getElem?_append_left (by simp [hnl];omega),Array.getElem?_append_right (by simp)]
         have hget:((arr2.toList.take cs.length).toArray)[j - (([]:List Value).toArray).size]? = arr2[j]? := by
          simp [List.getElem?_take,hj]
         rw [hget]
         exact this) (fun μ' e=>by rw [Nat.zero_add];exact .bx _ _ _ _ e (by have hg:=hge;rw [Nat.zero_add] at hg;exact hg))
      have hlay:=hr.grow (w':=newB w.drew _ _) ⟨⟨k2.os,k2.tape,k2.output,k2.size,k2.block⟩,Nat.le_trans (Nat.le_succ _) k2.drawn⟩ k1 (Nat.le_refl _) (fun r h1 _=>hm.out r h1)
      rw [X1J] at hlay
      exact ⟨μ',hlay,k3⟩
     ·cases h
    ·cases h
   ·cases h
  ·cases h
 ·cases h
end Go.Ab
