/- slices.Sort over an own row of int64: the kit's contract, told as a call that writes a row. -/
import Derived.Test.YtiihcpcabmamiaaA35
import Derived.Shelf.SortM.Plain
import Derived.Shelf.SortM.SortNone
set_option linter.unusedVariables false
set_option linter.unusedSimpArgs false
namespace Go.Ab
open Go.RowKit Go.Shelf Go.Proofs

def sortI (l : List Int) : List Int := l.mergeSort fun x y => decide (x ≤ y)
@[simp] theorem length_sortI (l : List Int) : (sortI l).length = l.length := by simp [sortI]
theorem mem_sortI {l : List Int} {x : Int} : x ∈ sortI l ↔ x ∈ l := (List.mergeSort_perm _ _).mem_iff
theorem sortI_sorted {l : List Int} (h : l.Nodup) : (sortI l).Pairwise (· < ·) := by
  have h1 : (sortI l).Pairwise fun x y => decide (x ≤ y) = true := List.pairwise_mergeSort (fun a b c h1 h2 => by simp only [decide_eq_true_eq] at *; omega) (fun a b => by simp only [Bool.or_eq_true, decide_eq_true_eq]; omega) _
  have h2 : (sortI l).Nodup := (List.mergeSort_perm l _).nodup_iff.2 h
  have h3 := List.Pairwise.and h1 h2
  refine h3.imp fun ⟨a, b⟩ => ?_
  simp only [decide_eq_true_eq] at a
  have : _ ≠ _ := b
  omega

set_option maxHeartbeats 1000000 in
theorem sort_rowI {P : Program} {ρ : Ren} (L : SlLaysM.n5 P ρ) (t : TypeId) (hb : HasBody P (ρ.f 5)) (l : List Int) (hl : l.length ≤ 1073741824) :
    CallSt P (ρ.f 5) [.vec t 1 (l.map (cI .i64)) false] [.own 0] (.tup []) [.vec t 1 ((sortI l).map (cI .i64)) false] := by
  refine ⟨hb, fun w0 μ w vs hm hp => ?_⟩
  obtain ⟨v0, rfl, hv0⟩ : ∃ v0, vs = #[v0] ∧ Rep w0.heap μ (.own 0) v0 := by
    obtain ⟨hs, hh⟩ := hp
    match vs, hs with
    | ⟨[v]⟩, _ => exact ⟨v, rfl, hh 0 _ rfl⟩
  cases hv0 with
  | own _ p hμ =>
  have hok := hm.row 0 _ rfl
  rw [hμ] at hok
  rcases hok with ⟨hz, hlm, _⟩ | ⟨hz, e1, e2, e3, e4, _, arr, e6, e7, e8⟩
  · have : l = [] := by simpa using hlm
    subst this
    rw [FP.val_nul hz]
    refine (AnyM.slices_Sort_int_none L none 0 w).mono fun e w' ⟨he, hw⟩ => ?_
    subst hw
    exact ⟨_, μ, he, Sub.refl _, by simpa [sortI] using hm, .tup [] #[] rfl (fun j c e => by simp at e)⟩
  · rw [FP.val_of hz, e3]
    have hblk := (hm.own 0 p p.blk hμ (FP.mem_blk hz)).2
    have hcell : ∀ j (hj : j < l.length), arr[j]? = some (.int .i64 l[j]) := by
      intro j hj
      have hx : (l.map (cI .i64))[j]? = some (cI .i64 l[j]) := by rw [List.getElem?_map, List.getElem?_eq_getElem hj]; rfl
      obtain ⟨v, hv, hr⟩ := (e8 j _ hx).2 0 _ rfl
      cases hr
      have hv : arr[j * 1 + 0]? = _ := hv
      rw [show j * 1 + 0 = j from by omega] at hv
      exact hv
    have hH : Sort.Holds (Value.int .i64) w p.blk 0 l.toArray := by
      intro j hj
      have hj : j < l.length := by simpa using hj
      refine ⟨?_, by simp only [World.frozen?, e6]; simp⟩
      rw [cell_eq]; unfold cellAt; rw [e6, Nat.zero_add]
      show arr[j]? = _
      rw [hcell j hj]; simp [hj]
    have hsort := AnyM.slices_Sort_int L p.blk 0 p.cap l w hH hblk (by omega)
    have hlen : (l.map (cI .i64)).length = l.length := by simp
    rw [hlen]
    refine hsort.mono fun e w' ⟨he, n, os, hw⟩ => ⟨_, μ, he, Sub.refl _, ?_, .tup [] #[] rfl (fun j c e => by simp at e)⟩
    have hw : w' = Sort.grow (Sort.putRow (Value.int .i64) (Sort.ahead w n) p.blk 0 (sortI l).toArray) os := hw
    have hother : ∀ b, b < w.heap.size → b ≠ p.blk → w'.heap[b]? = w.heap[b]? := by
      intro b hbs hbn
      rw [hw]
      unfold Sort.grow Sort.putRow Sort.mapBlock Sort.ahead
      simp only
      rw [Array.getElem?_append_left (by simpa using hbs), Array.getElem?_modify, if_neg (fun e => hbn e.symm)]
    have hself : w'.heap[p.blk]? = some (.cells (Sort.putCells (Value.int .i64) 0 (sortI l).toArray arr) t (0, 0)) := by
      rw [hw]
      unfold Sort.grow Sort.putRow Sort.mapBlock Sort.ahead
      simp only
      rw [Array.getElem?_append_left (by simpa using hblk), Array.getElem?_modify, if_pos rfl, e6]
      rfl
    have hsize : w.heap.size ≤ w'.heap.size := by
      rw [hw]
      unfold Sort.grow Sort.putRow Sort.mapBlock Sort.ahead
      simp
    have hown := hm.own 0 p p.blk hμ (FP.mem_blk hz)
    refine ⟨⟨hm.bel.step (by rw [hw]; rfl) (by rw [hw]; rfl) (by rw [hw]; rfl) hsize (by rw [hw]; exact Nat.le_add_right _ _) (fun k hk ho => hother k (Nat.lt_of_lt_of_le hk hm.bel.size) fun e => by subst e; exact hown.1.elim (fun h => ho h) (fun h => by omega)), fun r row e => ?_, hm.sep, hm.nodup, fun r q b e hb => ?_⟩, hm.out, fun r e => ?_, hm.pin⟩
    · cases r with
      | succ r => simp at e
      | zero =>
        simp at e; subst e
        rw [hμ]
        refine .inr ⟨hz, e1, e2, by rw [e3]; simp, by simpa using e4, (fun h => by cases h), _, hself, by simp [Sort.putCells, e7], fun i cs hi => ?_⟩
        rw [List.getElem?_map, Option.map_eq_some_iff] at hi
        obtain ⟨x, hx, rfl⟩ := hi
        have hil : i < l.length := by
          rcases Nat.lt_or_ge i (sortI l).length with h | h
          · simpa using h
          · rw [List.getElem?_eq_none h] at hx; cases hx
        have hia : i < arr.size := by rw [e7]; simp at e4; omega
        have hcx : (Sort.putCells (Value.int .i64) 0 (sortI l).toArray arr)[i]? = some (.int .i64 x) := by
          simp only [Sort.putCells, Array.getElem?_mapIdx, Array.getElem?_eq_getElem hia, Option.map_some]
          rw [if_pos ⟨Nat.zero_le _, by simp; omega⟩]
          have : (sortI l).toArray[i - 0]! = x := by
            rw [Nat.sub_zero, Array.getElem!_eq_getD, Array.getD_eq_getD_getElem?]
            simp only [List.getElem?_toArray, hx]; rfl
          rw [this]
        refine ⟨rfl, fun j y hy => ?_⟩
        match j, hy with
        | 0, hy =>
          simp [cI] at hy; subst hy
          refine ⟨_, (show (Sort.putCells (Value.int .i64) 0 (sortI l).toArray arr)[i * 1 + 0]? = _ from by rw [show i * 1 + 0 = i from by omega]; exact hcx), rfl⟩
    · obtain ⟨h1, h2⟩ := hm.own r q b e hb
      exact ⟨h1, by omega⟩
    · cases r <;> simp at e
end Go.Ab
