/- What is proved here: what slices.Insert of one element does to the world (no statement of the seat). -/
import Derived.Test.YtlnflhmepnbcmaaB19
import Derived.WalkKit
import Derived.Lib.Walk
import Derived.Lib.SliceRun
import Derived.Lib.JoinLaws
import Derived.Lib.AppendZeros
import Derived.Lib.AppendZerosOnto
import Derived.Lib.Overlaps
import Derived.Laws.Externs
import Derived.Laws.CopyRow
import Derived.Laws.NewBlocks
import Derived.Deep.RegionLaw
namespace Go.Proofs.Ytlnflhmepnbcmaa
open Go Go.RowKit Go.Lib
set_option linter.unusedVariables false
set_option linter.unusedSimpArgs false
set_option maxHeartbeats 4000000
set_option maxRecDepth 100000

namespace K

theorem run_copy_rowK {P : Program} (w : World) (dT sT ty elem : TypeId) (g o dLen dCap : Nat) (a : Addr) (sLen sCap : Nat) (cur : Array Value) (t : TypeId) (cs : List Value) (K : Nat)
    (hu : P.underlying dT = some (.slice elem)) (hs : (P.info? elem).map (·.size) = some K)
    (hg : w.heap[g]? = some (.cells cur t (0, 0))) (hn : cs.length = Nat.min sLen dLen * K)
    (hsrc : ∀ j v, cs[j]? = some v → w.cell? (a.add j) = some v) (hfit : o + cs.length ≤ cur.size) (h1 : ∀ v ∈ cs, v.oneCell' = true) :
    (Builtin.copy_ #[dT, sT] ty #[.slice (some ⟨g, o, none⟩) dLen dCap, .slice (some a) sLen sCap]).run P w =
      .ok (goInt (Nat.min sLen dLen)) (w.setRow g (cur.toList.take o ++ cs ++ cur.toList.drop (o + cs.length)).toArray) := by
  have hl := run_loadCells_list (P := P) w a cs hsrc
  have hst := run_storeCells_at P g o t cs 0 cur w hg (by simpa using hfit) h1
  cases hq : P.info? elem with
  | none => simp [hq] at hs
  | some i =>
    have hi : i.size = K := by simpa [hq] using hs
    simp [Builtin.copy_, run_underlying hu, Builtin.lenOf, Builtin.firstCells, sizeOf, typeInfo, hq, hi, ← hn, hl, hst]

end K

theorem ins_und : Try.prog.underlying 22 = some (.slice 29) := by kernel_rfl

theorem ins_size : (Try.prog.info? 29).map (·.size) = some 5 := by kernel_rfl

theorem wp_copy_runI {P : Program} (w : World) {o : Oper} {a : Act} {K : Act → World → Prop} {Q : Exit → Act → World → Prop} (d s : Operand) (t t' : TypeId)
    (ho : o.op = .call { callee := .builtin .copy, args := #[d, s], argTypes := #[t, t'] }) (v u : Value) (hd : a.eval d = v) (hs : a.eval s = u) {v' : Value} {w' : World}
    (hr : (Builtin.copy_ #[t, t'] o.type #[v, u]).run P w = .ok v' w') (h : K (a.put o.dst v') w') : o.wp P a w K Q := by
  unfold Oper.wp execOp
  simp only [ho, resolve, invoke, builtin, Sem.run_bind, Sem.run_pure, Result.andThen_ok, List.map_toArray, List.map_cons, List.map_nil, hd, hs, hr]
  exact h

theorem wpList_copy_runI {P : Program} (w : World) {ops : Array Oper} {rest : List Oper} {o : Oper} {a : Act} {Q : Exit → Act → World → Prop} (hgd : o.guard = none) (d s : Operand) (t t' : TypeId)
    (ho : o.op = .call { callee := .builtin .copy, args := #[d, s], argTypes := #[t, t'] }) (v u : Value) (hd : a.eval d = v) (hs : a.eval s = u) {v' : Value} {w' : World}
    (hr : (Builtin.copy_ #[t, t'] o.type #[v, u]).run P w = .ok v' w') (h : wpList P ops Q rest (a.put o.dst v') w') : wpList P ops Q (o :: rest) a w :=
  wpList_plain hgd fun _ hK => wp_copy_runI w d s t t' ho v u hd hs hr (hK _ _ h)

theorem step_copy_runI {P : Program} {ops : Array Oper} {o : Oper} {a : Act} {w : World} {K : Act → World → Prop} {Q : Exit → Act → World → Prop} {E : Prop}
    (hg : o.guard = none) (d x : Operand) (dT sT : TypeId) (hop : o.op = Op.call { callee := Callee.builtin Builtin.copy, args := #[d, x], argTypes := #[dT, sT] })
    (v u : Value) (hd : a.eval d = v) (hx : a.eval x = u) {v' : Value} {w' : World} (hr : (Builtin.copy_ #[dT, sT] o.type #[v, u]).run P w = .ok v' w') (hK : K (a.put o.dst v') w') :
    if Region.wanted o (yielded ops a.tmps) = true then Oper.wp P o a w K Q else E := by
  have hw : Region.wanted o (yielded ops a.tmps) = true := by simp [Region.wanted, hg]
  rw [if_pos hw]
  unfold Oper.wp
  simp [execOp, hop, resolve, invoke, builtin, hd, hx, hr, Result.andThen]
  exact hK

/-- The cells of a row of n elements, with one put in at place i. -/
def insCells (i n : Nat) (cur news : List Value) : List Value :=
  let A := cur.take ((i + 1) * 5) ++ (cur.drop (i * 5)).take ((n - i) * 5) ++ cur.drop ((i + 1) * 5 + (n - i) * 5)
  A.take (i * 5) ++ news ++ A.drop (i * 5 + 5)

theorem ins_shift (b n c i vb vc : Nat) (cur curv : Array Value) (t tv : TypeId) (news : List Value) (w : World) (hi : i < n) (hroom : n + 1 ≤ c) (hc63 : c ≤ 9223372036854775807) (hvb : vb ≠ b)
    (hb : w.heap[b]? = some (.cells cur t (0, 0))) (hsz : cur.size = c * 5) (hv : w.heap[vb]? = some (.cells curv tv (0, 0))) (hnl : news.length = 5) (hnews : ∀ (j : Nat) v, news[j]? = some v → curv[j]? = some v)
    (h1c : ∀ (j : Nat) v, j < n * 5 → cur[j]? = some v → v.oneCell' = true) (h1v : ∀ v ∈ news, v.oneCell' = true) :
    Calls Try.prog 22 #[.slice (some ⟨b, 0, none⟩) n c, .int .i64 i, .slice (some ⟨vb, 0, none⟩) 1 vc] w fun e w' =>
      e = .returned (.slice (some ⟨b, 0, none⟩) (n + 1) c) ∧ w' = w.drew.setRow b (insCells i n cur.toList news).toArray := by
  have hz2 : ¬ ((i : Int) = (n : Int)) := by omega
  have hn1 : IntKind.i64.wrap ((n : Int) + 1) = (n : Int) + 1 := by rw [IntKind.wrap_i64]; omega
  have hi1 : IntKind.i64.wrap ((i : Int) + 1) = (i : Int) + 1 := by rw [IntKind.wrap_i64]; omega
  have hcv : 5 ≤ curv.size := by
    have h := List.getElem?_eq_getElem (l := news) (i := 5 - 1) (by omega)
    have := (Array.getElem?_eq_some_iff.1 (hnews _ _ h)).1
    omega
  have hov : ∀ lb cb, (callFunc 39 #[.slice (some ⟨vb, 0, none⟩) 1 vc, .slice (some ⟨b, (i + 1) * 5, none⟩) lb cb]).run Try.prog w = .ok (.value (.bool false)) w := fun lb cb => by
    rw [run_callFunc_extern (fn := Try.f39) (by kernel_rfl) (by kernel_rfl) (by kernel_rfl) (by kernel_rfl) (e := Extern.SlicesOverlaps.overlaps #[22, 22] #[4]) (by kernel_rfl),
      Lib.run_overlaps_apart w 22 4 29 ins_und 5 (fun w => by unfold Go.sizeOf; kernel_rfl) ⟨vb, 0, none⟩ ⟨b, (i + 1) * 5, none⟩ 1 vc lb cb hvb tv t curv.size cur.size (by simp [World.shape?, hv]) (by simp [World.shape?, hb]) (by rw [hsz]; have := Nat.mul_le_mul_right 5 (show 1 ≤ c by omega); omega) (by simp [World.frozen?, hv]) (by simp [World.frozen?, hv])]
    rfl
  obtain ⟨cs, hcs⟩ : ∃ cs, cs = (cur.toList.drop (i * 5)).take ((n - i) * 5) := ⟨_, rfl⟩
  have hcn : n * 5 ≤ cur.size := by rw [hsz]; exact Nat.mul_le_mul_right _ (by omega)
  have hcl : cs.length = (n - i) * 5 := by rw [hcs, List.length_take, List.length_drop, Array.length_toList]; omega
  have hcsat : ∀ (j : Nat) v, cs[j]? = some v → cur[i * 5 + j]? = some v ∧ i * 5 + j < n * 5 := fun j v hj => by
    have hlt := (List.getElem?_eq_some_iff.1 hj).1
    rw [hcs, List.getElem?_take, List.getElem?_drop] at hj
    split at hj
    · refine ⟨by simpa using hj, by omega⟩
    · cases hj
  have hmin1 : Nat.min (n + 1 - i) (n - i) = n - i := by simp only [Nat.min_def]; split <;> omega
  have hfit1 : (i + 1) * 5 + cs.length ≤ cur.size := by
    have : (n + 1) * 5 ≤ cur.size := by rw [hsz]; exact Nat.mul_le_mul_right _ (by omega)
    omega
  obtain ⟨A1, hA1⟩ : ∃ A1, A1 = (cur.toList.take ((i + 1) * 5) ++ cs ++ cur.toList.drop ((i + 1) * 5 + cs.length)).toArray := ⟨_, rfl⟩
  have hA1s : A1.size = cur.size := by rw [hA1]; simp only [List.size_toArray, List.length_append, List.length_take, List.length_drop, Array.length_toList]; omega
  have hcp1 : ∀ ty dc sc, (Builtin.copy_ #[22, 22] ty #[.slice (some ⟨b, (i + 1) * 5, none⟩) (n - i) dc, .slice (some ⟨b, i * 5, none⟩) (n + 1 - i) sc]).run Try.prog w.drew = .ok (goInt (Nat.min (n + 1 - i) (n - i))) (w.drew.setRow b A1) := fun ty dc sc => by
    rw [hA1]
    exact K.run_copy_rowK w.drew _ _ ty 29 b ((i + 1) * 5) (n - i) dc ⟨b, i * 5, none⟩ (n + 1 - i) sc cur t cs 5 ins_und ins_size hb (by rw [hcl, hmin1])
      (fun j v hj => by rw [Addr.add_lit]; simp only [World.cell?]; rw [show w.drew.heap = w.heap from rfl, hb]; simpa using (hcsat j v hj).1) hfit1 (fun v hv => by
        obtain ⟨j, hj⟩ := List.getElem?_of_mem hv
        exact h1c _ v (hcsat j v hj).2 (hcsat j v hj).1)
  have hH1 : (w.drew.setRow b A1).heap[b]? = some (.cells A1 t (0, 0)) := setRow_heap w.drew b cur A1 t (0, 0) hb
  have hV1 : (w.drew.setRow b A1).heap[vb]? = some (.cells curv tv (0, 0)) := by
    rw [← hv]
    show (w.drew.setRow b A1).heap[vb]? = w.drew.heap[vb]?
    unfold World.setRow
    simp only [Array.getElem?_modify]
    rw [if_neg (fun e => hvb e.symm)]
  have hfit2 : i * 5 + news.length ≤ A1.size := by
    have : (n + 1) * 5 ≤ cur.size := by rw [hsz]; exact Nat.mul_le_mul_right _ (by omega)
    omega
  have hmin2 : Nat.min 1 (n + 1 - i) = 1 := by simp only [Nat.min_def]; split <;> omega
  have hcp2 : ∀ ty dc, (Builtin.copy_ #[22, 22] ty #[.slice (some ⟨b, i * 5, none⟩) (n + 1 - i) dc, .slice (some ⟨vb, 0, none⟩) 1 vc]).run Try.prog (w.drew.setRow b A1) = .ok (goInt (Nat.min 1 (n + 1 - i))) ((w.drew.setRow b A1).setRow b (A1.toList.take (i * 5) ++ news ++ A1.toList.drop (i * 5 + news.length)).toArray) := fun ty dc =>
    K.run_copy_rowK (w.drew.setRow b A1) _ _ ty 29 b (i * 5) (n + 1 - i) dc ⟨vb, 0, none⟩ 1 vc A1 t news 5 ins_und ins_size hH1 (by rw [hnl, hmin2])
      (fun j v hj => by rw [Addr.add_lit]; simp only [World.cell?]; rw [hV1, Nat.zero_add]; simpa using hnews j v hj) hfit2 h1v
  have hfin : (w.drew.setRow b A1).setRow b (A1.toList.take (i * 5) ++ news ++ A1.toList.drop (i * 5 + news.length)).toArray = w.drew.setRow b (insCells i n cur.toList news).toArray := by
    rw [setRow_setRow, hA1, hnl, hcl, hcs]
    rfl
  rw [hfin] at hcp2
  clear hfin
  generalize w.drew.setRow b (insCells i n cur.toList news).toArray = W2 at hcp2 ⊢
  generalize hW1 : w.drew.setRow b A1 = W1 at hcp1 hcp2
  clear hW1 hH1 hV1 hfit1 hfit2 hA1s hA1 hcsat hcl hcs hmin1 hmin2 hcn
  have hb1 : (0 : Int) ≤ (i : Int) + 1 := by omega
  have htn : ((i : Int) + 1).toNat = i + 1 := by omega
  have hb2 : ¬ (c = i + 1) := by omega
  have hb3 : (i : Int) ≤ (n : Int) + 1 := by omega
  have hb4 : ¬ (c = i) := by omega
  have hin : i ≤ n := by omega
  have hin1 : i + 1 ≤ n + 1 := by omega
  have hin2 : ¬ (n + 1 < i + 1) := by omega
  go_enter Try.func22, Try.ntmps22
  go_wp2_with (simp only [hov])
  go_region_law (refine step_copy_runI rfl _ _ 22 22 rfl _ _ (by simp [Act.eval, Act.put]) (by simp [Act.eval, Act.put]) (hcp1 _ _ _) ?_)
  go_wp2_with (at_builtin; refine wpList_copy_runI _ rfl _ _ 22 22 rfl _ _ rfl rfl (hcp2 _ _) ?_)
  go_ret
  exact ⟨rfl, rfl⟩

namespace K

/-- Cells put over those from a place on. -/
def put (o : Nat) (xs R : List Value) : List Value := R.take o ++ xs ++ R.drop (o + xs.length)

theorem put_len {o : Nat} {xs R : List Value} (h : o + xs.length ≤ R.length) : (put o xs R).length = R.length := by
  unfold put
  simp only [List.length_append, List.length_take, List.length_drop]
  omega

theorem put_at {o : Nat} {xs R : List Value} (h : o + xs.length ≤ R.length) (q : Nat) : (put o xs R)[q]? = if q < o then R[q]? else if q < o + xs.length then xs[q - o]? else R[q]? := by
  unfold put
  have ht : (R.take o).length = o := by rw [List.length_take]; omega
  by_cases h1 : q < o
  · rw [if_pos h1, List.append_assoc, List.getElem?_append_left (by omega), List.getElem?_take, if_pos h1]
  · rw [if_neg h1, List.append_assoc, List.getElem?_append_right (by omega), ht]
    by_cases h2 : q < o + xs.length
    · rw [if_pos h2, List.getElem?_append_left (by omega)]
    · rw [if_neg h2, List.getElem?_append_right (by omega), List.getElem?_drop]
      congr 1
      omega

end K

theorem ins_grow (b n c i vb vc : Nat) (cur curv : Array Value) (t tv : TypeId) (news : List Value) (w : World) (hi : i < n) (hnc : n ≤ c) (hroom : c < n + 1) (hbig : (n + 1) * 48 ≤ 140737488355328) (hvb : vb ≠ b)
    (hb : w.heap[b]? = some (.cells cur t (0, 0))) (hsz : cur.size = c * 5) (hv : w.heap[vb]? = some (.cells curv tv (0, 0))) (hnl : news.length = 5) (hnews : ∀ (j : Nat) v, news[j]? = some v → curv[j]? = some v)
    (h1c : ∀ (j : Nat) v, j < n * 5 → cur[j]? = some v → v.oneCell' = true) (h1v : ∀ v ∈ news, v.oneCell' = true) :
    Calls Try.prog 22 #[.slice (some ⟨b, 0, none⟩) n c, .int .i64 i, .slice (some ⟨vb, 0, none⟩) 1 vc] w fun e w' =>
      ∃ (G : Nat) (R : List Value), n + 1 ≤ G ∧ G ≤ 9223372036854775807 ∧ R.length = G * 5 ∧ R.take (i * 5) = cur.toList.take (i * 5) ∧ e = .returned (.slice (some ⟨w.heap.size, 0, none⟩) (n + 1) G) ∧
      w' = (((w.drew.alloc (.cells R.toArray 29)).setRow w.heap.size (K.put (i * 5) news R).toArray).drew).setRow w.heap.size (K.put ((i + 1) * 5) ((cur.toList.drop (i * 5)).take ((n - i) * 5)) (K.put (i * 5) news R)).toArray := by
  obtain ⟨i0, hi0, hz0, hzs, hzb⟩ := info_parts (show (Try.prog.info? 29).map (fun i => (i.zero, i.size, i.bytes)) = some (some (.agg #[.string ⟨#[]⟩, .int .i64 0, .int .i64 0, .int .i64 0, .int .i64 0]), 5, 48) by kernel_rfl)
  have hz2 : ¬ ((i : Int) = (n : Int)) := by omega
  have hz3 : (c : Int) < (n : Int) + 1 := by omega
  have hn1 : IntKind.i64.wrap ((n : Int) + 1) = (n : Int) + 1 := by rw [IntKind.wrap_i64]; omega
  have hi1 : IntKind.i64.wrap ((i : Int) + 1) = (i : Int) + 1 := by rw [IntKind.wrap_i64]; omega
  have hni : IntKind.i64.wrap ((n : Int) + 1 - (i : Int)) = (n : Int) + 1 - (i : Int) := by rw [IntKind.wrap_i64]; omega
  have hik : i + (n + 1 - i) = n + 1 := by omega
  have hkk : (n : Int) + 1 - (i : Int) = ((n + 1 - i : Nat) : Int) := by omega
  have hcn : n * 5 ≤ cur.size := by rw [hsz]; exact Nat.mul_le_mul_right _ (by omega)
  have hbl : b < w.heap.size := (Array.getElem?_eq_some_iff.1 hb).1
  have hvl : vb < w.heap.size := (Array.getElem?_eq_some_iff.1 hv).1
  obtain ⟨olds, holds⟩ : ∃ l, l = cur.toList.take (i * 5) := ⟨_, rfl⟩
  have hol : olds.length = i * 5 := by rw [holds, List.length_take, Array.length_toList]; omega
  have hold : (Builtin.firstCells i0.size i (.slice (some ⟨b, 0, none⟩) i c)).run Try.prog w.drew = .ok olds.toArray w.drew := by
    have hl := run_loadCells_list (P := Try.prog) w.drew ⟨b, 0, none⟩ olds (fun j v hj => by
      rw [Addr.add_lit]
      simp only [World.cell?]
      rw [show w.drew.heap = w.heap from rfl, hb, Nat.zero_add]
      rw [holds, List.getElem?_take] at hj
      split at hj
      · simpa using hj
      · cases hj)
    rw [hzs]
    simp [Builtin.firstCells, ← hol, hl]
  have hrz : ∀ ty, (Builtin.append_ #[22, 3] ty #[.slice (some ⟨b, 0, none⟩) i c, .int .i64 ((n : Int) + 1 - (i : Int))]).run Try.prog w =
      .ok (.slice (some ⟨w.heap.size, 0, none⟩) (n + 1) (grownCap w (n + 1) c 29)) (w.drew.alloc (.cells (olds.toArray ++ Builtin.zeroCells (Value.cells (.agg #[.string ⟨#[]⟩, .int .i64 0, .int .i64 0, .int .i64 0, .int .i64 0])) (n + 1 - i) ++ Builtin.zeroCells (Value.cells (.agg #[.string ⟨#[]⟩, .int .i64 0, .int .i64 0, .int .i64 0, .int .i64 0])) (grownCap w (n + 1) c 29 - (n + 1))) 29)) := fun ty => by
    have h := Lib.run_append_grow_zeros w 22 3 ty 29 i0 _ .i64 .i64 ins_und (by kernel_rfl) hi0 hz0 (some ⟨b, 0, none⟩) i c olds hold (n + 1 - i) (by omega) (by rw [hzs]; decide) (by omega) (by omega) (by rw [hzb]; omega) (by rw [hzb, hik]; exact growslice_fits hroom hbig)
    rw [hik] at h
    rw [hkk]
    exact h
  obtain ⟨G, hG⟩ : ∃ G, G = grownCap w (n + 1) c 29 := ⟨_, rfl⟩
  have hGn : n + 1 ≤ G := by rw [hG]; exact grownCap_ge w _ _ _
  have hG63 : G ≤ 9223372036854775807 := by
    have := grownCap_le_maxLen w (n + 1) c 29 (by unfold maxLen; omega)
    rw [← hG] at this
    unfold maxLen at this
    omega
  rw [← hG] at hrz
  obtain ⟨R, hR⟩ : ∃ R : List Value, R = (olds.toArray ++ Builtin.zeroCells (Value.cells (.agg #[.string ⟨#[]⟩, .int .i64 0, .int .i64 0, .int .i64 0, .int .i64 0])) (n + 1 - i) ++ Builtin.zeroCells (Value.cells (.agg #[.string ⟨#[]⟩, .int .i64 0, .int .i64 0, .int .i64 0, .int .i64 0])) (G - (n + 1))).toList := ⟨_, rfl⟩
  have hRl : R.length = G * 5 := by
    rw [hR]
    have e : (Value.cells (.agg #[.string ⟨#[]⟩, .int .i64 0, .int .i64 0, .int .i64 0, .int .i64 0])).size = 5 := by rfl
    simp only [Array.toList_append, List.length_append, Array.length_toList, size_zeroCells, e, hol]
    omega
  have hRt : R.take (i * 5) = cur.toList.take (i * 5) := by
    rw [hR, ← holds, Array.toList_append, Array.toList_append, List.append_assoc, ← hol, List.take_left' (by simp)]
  rw [show olds.toArray ++ Builtin.zeroCells (Value.cells (.agg #[.string ⟨#[]⟩, .int .i64 0, .int .i64 0, .int .i64 0, .int .i64 0])) (n + 1 - i) ++ Builtin.zeroCells (Value.cells (.agg #[.string ⟨#[]⟩, .int .i64 0, .int .i64 0, .int .i64 0, .int .i64 0])) (G - (n + 1)) = R.toArray by rw [hR]] at hrz
  have hGK : (n + 1) * 5 ≤ G * 5 := Nat.mul_le_mul_right _ hGn
  obtain ⟨cs, hcs⟩ : ∃ cs, cs = (cur.toList.drop (i * 5)).take ((n - i) * 5) := ⟨_, rfl⟩
  have hcl : cs.length = (n - i) * 5 := by rw [hcs, List.length_take, List.length_drop, Array.length_toList]; omega
  have hcsat : ∀ (j : Nat) v, cs[j]? = some v → cur[i * 5 + j]? = some v ∧ i * 5 + j < n * 5 := fun j v hj => by
    have hlt := (List.getElem?_eq_some_iff.1 hj).1
    rw [hcs, List.getElem?_take, List.getElem?_drop] at hj
    split at hj
    · refine ⟨by simpa using hj, by omega⟩
    · cases hj
  have hNb : w.heap.size ≠ b := by omega
  have hNv : w.heap.size ≠ vb := by omega
  obtain ⟨W1, hW1⟩ : ∃ W1, W1 = w.drew.alloc (.cells R.toArray 29) := ⟨_, rfl⟩
  have hN : W1.heap[w.heap.size]? = some (.cells R.toArray 29 (0, 0)) := by
    rw [hW1]
    show (w.heap.push _)[w.heap.size]? = _
    simp
  have hold1 : ∀ g, g < w.heap.size → W1.heap[g]? = w.heap[g]? := fun g hg => by
    rw [hW1]
    show (w.heap.push _)[g]? = _
    rw [Array.getElem?_push, if_neg (by omega)]
  have hmin1 : Nat.min 1 (n + 1 - i) = 1 := by simp only [Nat.min_def]; split <;> omega
  have hfit1 : i * 5 + news.length ≤ R.toArray.size := by rw [List.size_toArray, hRl, hnl]; omega
  obtain ⟨A1, hA1⟩ : ∃ A1, A1 = (K.put (i * 5) news R).toArray := ⟨_, rfl⟩
  have hA1s : A1.size = G * 5 := by rw [hA1, List.size_toArray, K.put_len (by simpa using hfit1), hRl]
  have hcpA : ∀ ty dc, (Builtin.copy_ #[22, 22] ty #[.slice (some ⟨w.heap.size, i * 5, none⟩) (n + 1 - i) dc, .slice (some ⟨vb, 0, none⟩) 1 vc]).run Try.prog W1 = .ok (goInt (Nat.min 1 (n + 1 - i))) (W1.setRow w.heap.size A1) := fun ty dc => by
    rw [hA1]
    exact K.run_copy_rowK W1 _ _ ty 29 w.heap.size (i * 5) (n + 1 - i) dc ⟨vb, 0, none⟩ 1 vc R.toArray 29 news 5 ins_und ins_size hN (by rw [hnl, hmin1])
      (fun j v hj => by rw [Addr.add_lit]; simp only [World.cell?]; rw [hold1 vb hvl, hv, Nat.zero_add]; simpa using hnews j v hj) hfit1 h1v
  obtain ⟨W2, hW2⟩ : ∃ W2, W2 = W1.setRow w.heap.size A1 := ⟨_, rfl⟩
  have hN2 : W2.drew.heap[w.heap.size]? = some (.cells A1 29 (0, 0)) := by rw [hW2]; exact setRow_heap W1 w.heap.size R.toArray A1 29 (0, 0) hN
  have hB2 : W2.drew.heap[b]? = some (.cells cur t (0, 0)) := by
    rw [← hb, ← hold1 b hbl, hW2]
    show (W1.setRow w.heap.size A1).heap[b]? = _
    unfold World.setRow
    simp only [Array.getElem?_modify]
    rw [if_neg hNb]
  have hmin2 : Nat.min (n - i) (n - i) = n - i := by simp only [Nat.min_def]; split <;> omega
  have hfit2 : (i + 1) * 5 + cs.length ≤ A1.size := by rw [hA1s, hcl]; omega
  have hcpB : ∀ ty dc sc, (Builtin.copy_ #[22, 22] ty #[.slice (some ⟨w.heap.size, (i + 1) * 5, none⟩) (n - i) dc, .slice (some ⟨b, i * 5, none⟩) (n - i) sc]).run Try.prog W2.drew = .ok (goInt (Nat.min (n - i) (n - i))) (W2.drew.setRow w.heap.size (K.put ((i + 1) * 5) cs A1.toList).toArray) := fun ty dc sc =>
    K.run_copy_rowK W2.drew _ _ ty 29 w.heap.size ((i + 1) * 5) (n - i) dc ⟨b, i * 5, none⟩ (n - i) sc A1 29 cs 5 ins_und ins_size hN2 (by rw [hcl, hmin2])
      (fun j v hj => by rw [Addr.add_lit]; simp only [World.cell?]; rw [hB2]; simpa using (hcsat j v hj).1) hfit2 (fun v hv => by
        obtain ⟨j, hj⟩ := List.getElem?_of_mem hv
        exact h1c _ v (hcsat j v hj).2 (hcsat j v hj).1)
  have hfin : W2.drew.setRow w.heap.size (K.put ((i + 1) * 5) cs A1.toList).toArray = (((w.drew.alloc (.cells R.toArray 29)).setRow w.heap.size (K.put (i * 5) news R).toArray).drew).setRow w.heap.size (K.put ((i + 1) * 5) ((cur.toList.drop (i * 5)).take ((n - i) * 5)) (K.put (i * 5) news R)).toArray := by
    rw [hW2, hW1, hA1, hcs]
  rw [← hW2] at hcpA
  refine Calls.mono (R := fun e w' => e = .returned (.slice (some ⟨w.heap.size, 0, none⟩) (n + 1) G) ∧ w' = W2.drew.setRow w.heap.size (K.put ((i + 1) * 5) cs A1.toList).toArray) ?_ (fun e w' h => ⟨G, R, hGn, hG63, hRl, hRt, h.1, h.2.trans hfin⟩)
  rw [← hW1] at hrz
  clear hfin
  generalize W2.drew.setRow w.heap.size (K.put ((i + 1) * 5) cs A1.toList).toArray = W3 at hcpB ⊢
  clear hW1 hW2 hN hN2 hB2 hfit1 hfit2 hA1s hA1 hcsat hcl hcs hmin1 hmin2 hcn hRl hRt hR hG hold hol holds hold1 hGK hkk hik hz0 hzs hzb hi0 h1c h1v hnews hnl hsz
  have hb1 : (0 : Int) ≤ (i : Int) + 1 := by omega
  have htn : ((i : Int) + 1).toNat = i + 1 := by omega
  have hGi : ¬ (G = i) := by omega
  have hGim : ¬ (G = i + 1) := by omega
  have hci : ¬ (c = i) := by omega
  have hin : i ≤ n := by omega
  have hin1 : i + 1 ≤ n + 1 := by omega
  have hin2 : ¬ (n + 1 < i + 1) := by omega
  have hb3 : (i : Int) ≤ (n : Int) := by omega
  have hb4 : (i : Int) ≤ (n : Int) + 1 := by omega
  go_enter Try.func22, Try.ntmps22
  go_wp2_with (first
    | (at_builtin; refine Lib.wpList_append_run _ rfl _ _ _ _ rfl _ _ rfl rfl _ _ (hrz _) ?_)
    | (at_builtin; refine wpList_copy_runI _ rfl _ _ 22 22 rfl _ _ rfl rfl (hcpA _ _) ?_))
  go_region_law (refine step_copy_runI rfl _ _ 22 22 rfl _ _ (by simp [Act.eval, Act.put]) (by simp [Act.eval, Act.put]) (hcpB _ _ _) ?_)
  go_wp2
  go_ret
  exact ⟨rfl, rfl⟩

end Go.Proofs.Ytlnflhmepnbcmaa
