/- What is proved here: the contract of slices.Insert of one element (no statement of the seat). -/
import Derived.Test.YtlnflhmepnbcmaaB66
namespace Go.Proofs.Ytlnflhmepnbcmaa
open Go Go.RowKit
set_option linter.unusedVariables false
set_option linter.unusedSimpArgs false
set_option maxHeartbeats 1000000

namespace M

theorem insEnd (xs : List Beat) (c : Beat) (h : xs.length ≤ 100000) : (runH enInsE [900] Try.f22 [.own 900, vI xs.length, .own 901] [(901, ⟨false, 29, 5, [eBeat c]⟩), (900, ⟨false, 29, 5, xs.map eBeat⟩)]).val = some (.own 900, [(901, ⟨false, 29, 5, [eBeat c]⟩), (900, ⟨false, 29, 5, (F.insAt xs.length c xs).map eBeat⟩)], [900]) := by
  rw [evInsE]
  have hb : Nat.ble ((xs.length + 1) * 48) 140737488355328 = true := ble_t (by omega)
  have hl : Nat.ble xs.length xs.length = true := ble_t (Nat.le_refl _)
  have e : F.insAt xs.length c xs = xs ++ [c] := by unfold F.insAt; rw [List.take_length, List.drop_length]
  rw [e, List.map_append]
  simp only [etaBeat, etaSpan, etaHole, etaLevel, etaFigs, etaRatio, etaRep, etaStay, Option.bind_some, List.length_map, unStrs, unInts, unBools, unBeats, uneL_eBeats, unSpans, unHoles, unLevels, unFigss, unRatios, unReps, unStays, F.lt, F.le, cond_true, cond_false, Bool.and_true, Bool.true_and, hb, hl, beq_self_eq_true, Bool.and_true]
  rfl

theorem insSpec {xs : List Beat} {i : Nat} {c : Beat} (hi : i < xs.length) (h5 : xs.length ≤ 100000) :
    SpecH Try.prog noG 22 [.own 900, vI i, .own 901] [(901, ⟨false, 29, 5, [eBeat c]⟩), (900, ⟨false, 29, 5, xs.map eBeat⟩)] (.own 900) [(901, ⟨false, 29, 5, [eBeat c]⟩), (900, ⟨false, 29, 5, (F.insAt i c xs).map eBeat⟩)] [900] := by
  intro w S β cargs inv hargs
  match cargs, hargs with
  | [u, vi, uv], ⟨h1, h2, h3, _⟩ =>
    obtain ⟨X, hX, hr1, -⟩ := rv_ownk2 h1
    obtain ⟨Y, hY, hs1, -⟩ := rv_ownk2 h3
    obtain ⟨hr, cur, ty, c1, c2, c3, c4, c5, c6, c7, c8⟩ := rows_cells inv hX rfl (by intro e; rw [e] at hi; exact absurd hi (by simp))
    obtain ⟨hs, curv, tv, d1, d2, d3, d4, d5, d6, d7, d8⟩ := rows_cells (xs := [c]) inv hY rfl (by simp)
    subst c7
    have d3 : Y.len = 1 := d3
    have hvi : vi = .int .i64 i := (rv_v h2).1
    subst hvi
    rw [hr1 hr, hs1 hs, c3, d3]
    have hne : Y.b ≠ X.b := fun e => absurd (inv.inj 901 900 Y X hY hX hs hr e) (by decide)
    obtain ⟨news, hn⟩ : ∃ news, news = curv.toList.take 5 := ⟨_, rfl⟩
    have hnl : news.length = 5 := by rw [hn, List.length_take, Array.length_toList]; have := Nat.mul_le_mul_right 5 (show 1 ≤ Y.cap by omega); omega
    have hnews : ∀ (j : Nat) v, news[j]? = some v → curv[j]? = some v := fun j v hj => by
      rw [hn, List.getElem?_take] at hj
      split at hj
      · simpa using hj
      · cases hj
    have hone := rows_one c8
    have h1v : ∀ v ∈ news, v.oneCell' = true := fun v hv => by
      obtain ⟨j, hj⟩ := List.getElem?_of_mem hv
      have hlt := (List.getElem?_eq_some_iff.1 hj).1
      exact rows_one d8 j v (by rw [hnl] at hlt; simpa using hlt) (hnews j v hj)
    obtain ⟨m1, m2, m3⟩ := inv.new 900 X hX hr
    have hil := K.insAt_len (c := c) (Nat.le_of_lt hi)
    by_cases hcap : xs.length + 1 ≤ X.cap
    · refine (ins_shift X.b xs.length X.cap i Y.b Y.cap cur curv 29 tv news w hi hcap c5 hne c1 c2 d1 hnl hnews hone h1v).mono ?_
      rintro e w' ⟨rfl, rfl⟩
      have hcl : cur.toList.length = X.cap * 5 := by rw [← c2]; simp
      have hK : (xs.length + 1) * 5 ≤ cur.toList.length := by rw [hcl]; exact Nat.mul_le_mul_right _ hcap
      obtain ⟨l1, l2⟩ := insAt_shift (cur := cur.toList) hi hnl hK
      generalize insCells i xs.length cur.toList news = R at l1 l2
      have hH : (w.drew.setRow X.b R.toArray).heap[X.b]? = some (.cells R.toArray 29 (0, 0)) := setRow_heap w.drew X.b cur R.toArray 29 (0, 0) c1
      have hO : ∀ b, b ≠ X.b → (w.drew.setRow X.b R.toArray).heap[b]? = w.heap[b]? := fun b hb => by
        show (w.drew.setRow X.b R.toArray).heap[b]? = w.drew.heap[b]?
        unfold World.setRow
        simp only [Array.getElem?_modify]
        rw [if_neg (fun e => hb e.symm)]
      have hsz : (w.drew.setRow X.b R.toArray).heap.size = w.heap.size := by
        show (w.drew.setRow X.b R.toArray).heap.size = w.drew.heap.size
        unfold World.setRow; simp
      have hB : Blw (ownFree w β) w (w.drew.setRow X.b R.toArray) := ⟨rfl, rfl, rfl, by rw [hsz]; exact Nat.le_refl _, fun b hb => hO b (fun e => m1 (e ▸ hb))⟩
      have hkeep : ∀ b, S b → (w.drew.setRow X.b R.toArray).heap[b]? = w.heap[b]? := fun b hb => hO b (fun e => m3 (e ▸ hb))
      generalize w.drew.setRow X.b R.toArray = w' at hH hO hsz hB hkeep
      have g : GrK (ownFree w β) [900] w S β w' S (upd β 900 ⟨true, X.b, xs.length + 1, X.cap, 5⟩) := ⟨hB, hkeep, fun _ h => h, fun _ h => .inl h, fun k x hk hx => by rw [upd_ne β _ (by simpa using hk)]; exact hx, fun k x _ hk hx => by rw [upd_ne β _ (by simpa using hk)] at hx; exact hx⟩
      have fin := inv_put (E := enInsE) inv (j := 900) ⟨true, X.b, xs.length + 1, X.cap, 5⟩ ⟨false, 29, 5, (F.insAt i c xs).map eBeat⟩ rfl g (fun k y hk hy hyr => hO y.b (fun e => hk (inv.inj k 900 y X hy hX hyr hr e))) (.inl ⟨X, hX, hr, rfl⟩) (by rw [hsz]; exact m2)
        ⟨R.toArray, 29, hH, by rw [List.size_toArray, l1, hcl], by rw [List.length_map, hil], hcap, c5, fun _ => ⟨rfl, rfl⟩, (fun h => by cases h), fun q row hq => by
          obtain ⟨z1, z2⟩ := ins_rows hi hkeep c8 d8 hn l2 q row hq
          exact ⟨z1, fun j a hj => by simpa using z2 j a hj⟩⟩
      exact ⟨_, S, _, rfl, hB, fun _ h => h, fun _ h => .inl h, fin, fun k x _ hk hx => by rw [upd_ne β _ (by simpa using hk)] at hx; exact hx, _, upd_self _ _ _, fun _ => rfl, fun h => by cases h⟩
    · refine (ins_grow X.b xs.length X.cap i Y.b Y.cap cur curv 29 tv news w hi (by omega) (by omega) (by omega) hne c1 c2 d1 hnl hnews hone h1v).mono ?_
      rintro e w' ⟨G, R0', hG, hG63, hRl, hRt, rfl, rfl⟩
      have hcl : cur.toList.length = X.cap * 5 := by rw [← c2]; simp
      have hK : xs.length * 5 ≤ cur.toList.length := by rw [hcl]; exact Nat.mul_le_mul_right _ (by omega)
      obtain ⟨l1, l2⟩ := insAt_grow (cur := cur.toList) hi hnl hK (by rw [hRl]; exact Nat.mul_le_mul_right _ hG) hRt
      generalize K.put ((i + 1) * 5) ((cur.toList.drop (i * 5)).take ((xs.length - i) * 5)) (K.put (i * 5) news R0') = R at l1 l2
      obtain ⟨W1, hW1⟩ : ∃ W1, W1 = w.drew.alloc (.cells R0'.toArray 29) := ⟨_, rfl⟩
      have a1 : W1.heap[w.heap.size]? = some (.cells R0'.toArray 29 (0, 0)) := by
        rw [hW1]
        show (w.heap.push _)[w.heap.size]? = _
        simp
      have a2 : ∀ b, b < w.heap.size → W1.heap[b]? = w.heap[b]? := fun b hb => by
        rw [hW1]
        show (w.heap.push _)[b]? = _
        rw [Array.getElem?_push, if_neg (by omega)]
      have a3 : W1.heap.size = w.heap.size + 1 := by
        rw [hW1]
        show (w.heap.push _).size = _
        simp
      have a4 : W1.os = w.os ∧ W1.tape = w.tape ∧ W1.output = w.output := by rw [hW1]; exact ⟨rfl, rfl, rfl⟩
      rw [← hW1]
      have hH := setRow_heap (W1.setRow w.heap.size (K.put (i * 5) news R0').toArray).drew w.heap.size _ R.toArray 29 (0, 0) (setRow_heap W1 w.heap.size R0'.toArray (K.put (i * 5) news R0').toArray 29 (0, 0) a1)
      have hO : ∀ b, b < w.heap.size → (((W1.setRow w.heap.size (K.put (i * 5) news R0').toArray).drew).setRow w.heap.size R.toArray).heap[b]? = w.heap[b]? := fun b hb => by
        rw [← a2 b hb]
        show (((W1.setRow w.heap.size (K.put (i * 5) news R0').toArray)).setRow w.heap.size R.toArray).heap[b]? = _
        unfold World.setRow
        simp only [Array.getElem?_modify]
        rw [if_neg (by omega), if_neg (by omega)]
      have hsz : (((W1.setRow w.heap.size (K.put (i * 5) news R0').toArray).drew).setRow w.heap.size R.toArray).heap.size = w.heap.size + 1 := by
        rw [← a3]
        show (((W1.setRow w.heap.size (K.put (i * 5) news R0').toArray)).setRow w.heap.size R.toArray).heap.size = _
        unfold World.setRow
        simp
      have hB : Blw (ownFree w β) w (((W1.setRow w.heap.size (K.put (i * 5) news R0').toArray).drew).setRow w.heap.size R.toArray) := ⟨a4.1, a4.2.1, a4.2.2, by rw [hsz]; omega, fun b hb => hO b hb.1⟩
      generalize ((W1.setRow w.heap.size (K.put (i * 5) news R0').toArray).drew).setRow w.heap.size R.toArray = w' at hH hO hsz hB ⊢
      have hkeep : ∀ b, S b → w'.heap[b]? = w.heap[b]? := fun b hb => hO b (inv.lt b hb)
      have g : GrK (ownFree w β) [900] w S β w' S (upd β 900 ⟨true, w.heap.size, xs.length + 1, G, 5⟩) := ⟨hB, hkeep, fun _ h => h, fun _ h => .inl h, fun k x hk hx => by rw [upd_ne β _ (by simpa using hk)]; exact hx, fun k x _ hk hx => by rw [upd_ne β _ (by simpa using hk)] at hx; exact hx⟩
      have fin := inv_put (E := enInsE) inv (j := 900) ⟨true, w.heap.size, xs.length + 1, G, 5⟩ ⟨false, 29, 5, (F.insAt i c xs).map eBeat⟩ rfl g (fun k y hk hy hyr => hO y.b (inv.new k y hy hyr).2.1) (.inr (Nat.le_refl _)) (by rw [hsz]; exact Nat.lt_succ_self _)
        ⟨R.toArray, 29, hH, by rw [List.size_toArray, l1, hRl], by rw [List.length_map, hil], hG, hG63, fun _ => ⟨rfl, rfl⟩, (fun h => by cases h), fun q row hq => by
          obtain ⟨z1, z2⟩ := ins_rows hi hkeep c8 d8 hn l2 q row hq
          exact ⟨z1, fun j a hj => by simpa using z2 j a hj⟩⟩
      exact ⟨_, S, _, rfl, hB, fun _ h => h, fun _ h => .inl h, fin, fun k x _ hk hx => by rw [upd_ne β _ (by simpa using hk)] at hx; exact hx, _, upd_self _ _ _, fun _ => rfl, fun h => by cases h⟩

theorem okInsO : OrcHOK Try.prog noG oInsO := by
  refine orcH_ok ⟨Try.f22, by kernel_rfl, by kernel_rfl, by kernel_rfl⟩ (fun a hp _ _ => ?_)
  obtain ⟨xs, i, c⟩ := a
  have hp : i ≤ xs.length ∧ xs.length ≤ 100000 := of_decide_eq_true hp
  by_cases hi : i = xs.length
  · subst hi
    exact runH_sound (E := enInsE) enInsE_ok mixed (fn := Try.f22) (by kernel_rfl) (no_loops (by kernel_rfl)) (insEnd xs c hp.2)
  · have hp1 : i ≤ xs.length := hp.1
    exact insSpec (show i < xs.length by omega) hp.2

end M
end Go.Proofs.Ytlnflhmepnbcmaa
