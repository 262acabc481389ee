/- What is proved here: what slices.Delete of one element does to the world (no statement of the seat). -/
import Derived.Test.YtlnflhmepnbcmaaDoorC66
namespace Go.Proofs.YtlnflhmepnbcmaaDoor
open Go Go.RowKit Go.Lib
set_option linter.unusedVariables false
set_option linter.unusedSimpArgs false
set_option maxHeartbeats 4000000
set_option maxRecDepth 100000

namespace K

theorem run_append_rowK {P : Program} (w : World) (t ty elem : TypeId) (g sLen sCap : Nat) (a : Addr) (m mc : Nat) (cur : Array Value) (rt : TypeId) (cs : List Value) (i : TypeInfo)
    (hu : P.underlying t = some (.slice elem)) (hi : P.info? elem = some i)
    (hg : w.heap[g]? = some (.cells cur rt (0, 0))) (hn : cs.length = m * i.size)
    (hsrc : ∀ j v, cs[j]? = some v → w.cell? (a.add j) = some v) (hroom : sLen + m ≤ sCap) (hfit : sLen * i.size + cs.length ≤ cur.size) (h1 : ∀ v ∈ cs, v.oneCell' = true) :
    (Builtin.append_ #[t, t] ty #[.slice (some ⟨g, 0, none⟩) sLen sCap, .slice (some a) m mc]).run P w =
      .ok (.slice (some ⟨g, 0, none⟩) (sLen + m) sCap) (w.setRow g (put (sLen * i.size) cs cur.toList).toArray) := by
  have hl := run_loadCells_list (P := P) w a cs hsrc
  have hst := run_storeCells_at P g (sLen * i.size) rt cs 0 cur w hg (by simpa using hfit) h1
  have ha : (⟨g, 0, none⟩ : Addr).add (sLen * i.size) = ⟨g, sLen * i.size, none⟩ := by rw [Addr.add_lit, Nat.zero_add]
  simp only [Nat.add_zero] at hst
  unfold put
  simp [Builtin.append_, run_underlying hu, sizeOf, typeInfo, hi, Builtin.lenOf, Builtin.firstCells, ← hn, hl, hroom, ha, hst]

theorem run_clear_rowK {P : Program} (w : World) (t ty elem : TypeId) (g o n c : Nat) (cur : Array Value) (rt : TypeId) (z : Value) (hn : 0 < n)
    (hu : P.underlying t = some (.slice elem)) (hz : ∀ w, (zeroValue elem).run P w = .ok z w)
    (hg : w.heap[g]? = some (.cells cur rt (0, 0))) (hfit : o + (Builtin.zeroCells z.cells n).toList.length ≤ cur.size) (h1 : ∀ v ∈ (Builtin.zeroCells z.cells n).toList, v.oneCell' = true) :
    (Builtin.clear_ #[t] ty #[.slice (some ⟨g, o, none⟩) n c]).run P w =
      .ok (.tuple #[]) (w.setRow g (put o (Builtin.zeroCells z.cells n).toList cur.toList).toArray) := by
  have hst := run_storeCells_at P g o rt (Builtin.zeroCells z.cells n).toList 0 cur w hg (by simpa using hfit) h1
  simp only [Nat.add_zero] at hst
  obtain ⟨m, rfl⟩ : ∃ m, n = m + 1 := ⟨n - 1, by omega⟩
  unfold put
  simp [Builtin.clear_, run_underlying hu, hz, hst]

end K

theorem step_append_runI {P : Program} {ops : Array Oper} {o : Oper} {a : Act} {w : World} {K : Act → World → Prop} {Q : Exit → Act → World → Prop} {E : Prop}
    (hg : o.guard = none) (d x : Operand) (dT sT : TypeId) (hop : o.op = Op.call { callee := Callee.builtin Builtin.append, args := #[d, x], argTypes := #[dT, sT] })
    (v u : Value) (hd : a.eval d = v) (hx : a.eval x = u) {v' : Value} {w' : World} (hr : (Builtin.append_ #[dT, sT] o.type #[v, u]).run P w = .ok v' w') (hK : K (a.put o.dst v') w') :
    if Region.wanted o (yielded ops a.tmps) = true then Oper.wp P o a w K Q else E := by
  have hw : Region.wanted o (yielded ops a.tmps) = true := by simp [Region.wanted, hg]
  rw [if_pos hw]
  unfold Oper.wp
  simp [execOp, hop, resolve, invoke, builtin, hd, hx, hr, Result.andThen]
  exact hK

theorem wpList_clear_runI {P : Program} (w : World) {ops : Array Oper} {rest : List Oper} {o : Oper} {a : Act} {Q : Exit → Act → World → Prop} (hgd : o.guard = none) (d : Operand) (t : TypeId)
    (ho : o.op = .call { callee := .builtin .clear, args := #[d], argTypes := #[t] }) (v : Value) (hd : a.eval d = v) {v' : Value} {w' : World}
    (hr : (Builtin.clear_ #[t] o.type #[v]).run P w = .ok v' w') (h : wpList P ops Q rest (a.put o.dst v') w') : wpList P ops Q (o :: rest) a w :=
  wpList_plain hgd fun K hK => by
    unfold Oper.wp execOp
    simp only [ho, resolve, invoke, builtin, Sem.run_bind, Sem.run_pure, Result.andThen_ok, List.map_toArray, List.map_cons, List.map_nil, hd, hr]
    exact hK _ _ h

/-- The zero cells of a caption. -/
def zCap : List Value := (Builtin.zeroCells (Value.cells (.agg #[.int .i64 0, .int .i64 0, .slice none 0 0, .int .i64 0, .bool false, .bool false])) 1).toList

theorem zCap_len : zCap.length = 6 := by kernel_rfl

theorem zCap_one : ∀ v ∈ zCap, v.oneCell' = true := by
  have : zCap.all (fun v => v.oneCell') = true := by kernel_rfl
  exact fun v hv => List.all_eq_true.1 this v hv

theorem del_walk (b n c i : Nat) (cur : Array Value) (t : TypeId) (w : World) (hi : i < n) (hnc : n ≤ c) (hc63 : c ≤ 9223372036854775807)
    (hb : w.heap[b]? = some (.cells cur t (0, 0))) (hsz : cur.size = c * 6)
    (h1c : ∀ (j : Nat) v, j < n * 6 → cur[j]? = some v → v.oneCell' = true) :
    Calls Tryd.prog 51 #[.slice (some ⟨b, 0, none⟩) n c, .int .i64 i, .int .i64 ((i : Int) + 1)] w fun e w' =>
      e = .returned (.slice (some ⟨b, 0, none⟩) (n - 1) c) ∧ w' = w.drew.setRow b (K.put ((n - 1) * 6) zCap (K.put (i * 6) ((cur.toList.drop ((i + 1) * 6)).take ((n - (i + 1)) * 6)) cur.toList)).toArray := by
  obtain ⟨i0, hi0, hz0, hzs, hzb⟩ := info_parts (show (Tryd.prog.info? 67).map (fun i => (i.zero, i.size, i.bytes)) = some (some (.agg #[.int .i64 0, .int .i64 0, .slice none 0 0, .int .i64 0, .bool false, .bool false]), 6, 56) by kernel_rfl)
  have hcn : n * 6 ≤ cur.size := by rw [hsz]; exact Nat.mul_le_mul_right _ hnc
  obtain ⟨cs, hcs⟩ : ∃ cs, cs = (cur.toList.drop ((i + 1) * 6)).take ((n - (i + 1)) * 6) := ⟨_, rfl⟩
  have hcl : cs.length = (n - (i + 1)) * 6 := by rw [hcs, List.length_take, List.length_drop, Array.length_toList]; omega
  have hcsat : ∀ (j : Nat) v, cs[j]? = some v → cur[(i + 1) * 6 + j]? = some v ∧ (i + 1) * 6 + j < n * 6 := fun j v hj => by
    have hlt := (List.getElem?_eq_some_iff.1 hj).1
    rw [hcs, List.getElem?_take, List.getElem?_drop] at hj
    split at hj
    · refine ⟨by simpa using hj, by omega⟩
    · cases hj
  have hfit : i * i0.size + cs.length ≤ cur.size := by rw [hzs, hcl]; omega
  have hsum : i + (n - (i + 1)) = n - 1 := by omega
  have hap : ∀ ty mc, (Builtin.append_ #[29, 29] ty #[.slice (some ⟨b, 0, none⟩) i c, .slice (some ⟨b, (i + 1) * 6, none⟩) (n - (i + 1)) mc]).run Tryd.prog w.drew = .ok (.slice (some ⟨b, 0, none⟩) (n - 1) c) (w.drew.setRow b (K.put (i * 6) cs cur.toList).toArray) := fun ty mc => by
    have h := K.run_append_rowK (P := Tryd.prog) w.drew 29 ty 67 b i c ⟨b, (i + 1) * 6, none⟩ (n - (i + 1)) mc cur t cs i0 ins_und hi0 hb (by rw [hcl, hzs])
      (fun j v hj => by rw [Addr.add_lit]; simp only [World.cell?]; rw [show w.drew.heap = w.heap from rfl, hb]; simpa using (hcsat j v hj).1) (by omega) hfit (fun v hv => by
        obtain ⟨j, hj⟩ := List.getElem?_of_mem hv
        exact h1c _ v (hcsat j v hj).2 (hcsat j v hj).1)
    rw [hsum, hzs] at h
    exact h
  have hap0 : c = i + 1 → ∀ ty, (Builtin.append_ #[29, 29] ty #[.slice (some ⟨b, 0, none⟩) i c, .slice (some ⟨b, 0, none⟩) (n - (i + 1)) 0]).run Tryd.prog w.drew = .ok (.slice (some ⟨b, 0, none⟩) (n - 1) c) (w.drew.setRow b (K.put (i * 6) cs cur.toList).toArray) := fun hc ty => by
    have hz : cs = [] := List.length_eq_zero_iff.1 (by rw [hcl]; omega)
    have h := K.run_append_rowK (P := Tryd.prog) w.drew 29 ty 67 b i c ⟨b, 0, none⟩ (n - (i + 1)) 0 cur t cs i0 ins_und hi0 hb (by rw [hcl, hzs])
      (fun j v hj => by rw [hz] at hj; simp at hj) (by omega) hfit (fun v hv => by rw [hz] at hv; exact absurd hv List.not_mem_nil)
    rw [hsum, hzs] at h
    exact h
  obtain ⟨A1, hA1⟩ : ∃ A1, A1 = (K.put (i * 6) cs cur.toList).toArray := ⟨_, rfl⟩
  have hA1s : A1.size = cur.size := by rw [hA1, List.size_toArray, K.put_len (by rw [hzs] at hfit; simpa using hfit), Array.length_toList]
  rw [← hA1] at hap hap0
  have hH1 : (w.drew.setRow b A1).heap[b]? = some (.cells A1 t (0, 0)) := setRow_heap w.drew b cur A1 t (0, 0) hb
  have hcle : ∀ ty cc, (Builtin.clear_ #[29] ty #[.slice (some ⟨b, (n - 1) * 6, none⟩) 1 cc]).run Tryd.prog (w.drew.setRow b A1) = .ok (.tuple #[]) ((w.drew.setRow b A1).setRow b (K.put ((n - 1) * 6) zCap A1.toList).toArray) := fun ty cc =>
    K.run_clear_rowK (P := Tryd.prog) (w.drew.setRow b A1) 29 ty 67 b ((n - 1) * 6) 1 cc A1 t (.agg #[.int .i64 0, .int .i64 0, .slice none 0 0, .int .i64 0, .bool false, .bool false]) (by decide) ins_und (fun w => by unfold zeroValue; kernel_rfl) hH1
      (by show (n - 1) * 6 + zCap.length ≤ A1.size; rw [zCap_len, hA1s]; omega) zCap_one
  have hfin : (w.drew.setRow b A1).setRow b (K.put ((n - 1) * 6) zCap A1.toList).toArray = w.drew.setRow b (K.put ((n - 1) * 6) zCap (K.put (i * 6) ((cur.toList.drop ((i + 1) * 6)).take ((n - (i + 1)) * 6)) cur.toList)).toArray := by
    rw [setRow_setRow, hA1, hcs]
  rw [hfin] at hcle
  clear hfin
  have hcle0 : c = i + 1 → ∀ ty cc, (Builtin.clear_ #[29] ty #[.slice (some ⟨b, i * 6, none⟩) (n - i) cc]).run Tryd.prog w.drew = .ok (.tuple #[]) (w.drew.setRow b (K.put ((n - 1) * 6) zCap (K.put (i * 6) ((cur.toList.drop ((i + 1) * 6)).take ((n - (i + 1)) * 6)) cur.toList)).toArray) := fun hc ty cc => by
    have hz : cs = [] := List.length_eq_zero_iff.1 (by rw [hcl]; omega)
    have hA : A1 = cur := by
      rw [hA1, hz]
      unfold K.put
      simp
    have h := hcle ty cc
    rw [hA, setRow_self w.drew b cur t (0, 0) hb, show n - 1 = i by omega] at h
    rw [show n - i = 1 by omega, show n - 1 = i by omega]
    exact h
  generalize w.drew.setRow b (K.put ((n - 1) * 6) zCap (K.put (i * 6) ((cur.toList.drop ((i + 1) * 6)).take ((n - (i + 1)) * 6)) cur.toList)).toArray = W2 at hcle hcle0 ⊢
  generalize hW1 : w.drew.setRow b A1 = W1 at hap hap0 hcle
  clear hW1 hH1 hfit hA1s hA1 hcsat hcl hcs hcn hsum hi0 hz0 hzs hzb h1c hsz
  have hb1 : (0 : Int) ≤ (i : Int) + 1 := by omega
  have htn : ((i : Int) + 1).toNat = i + 1 := by omega
  have hb3 : (i : Int) ≤ (n : Int) := by omega
  have hb5 : (i : Int) + 1 ≤ (n : Int) := by omega
  have hb6 : (i : Int) ≤ (i : Int) + 1 := by omega
  have hb7 : ¬ ((i : Int) = (i : Int) + 1) := by omega
  have hb8 : (n : Int) ≤ (c : Int) := by omega
  have hb9 : ((i : Int) == (i : Int) + 1) = false := by simp; omega
  have hin : i ≤ n := by omega
  have hin1 : i + 1 ≤ n := by omega
  have hin2 : n - 1 ≤ n := by omega
  have hin3 : n - (n - 1) = 1 := by omega
  have hic : i ≤ c := by omega
  have hic1 : i + 1 ≤ c := by omega
  have hn1 : n - 1 ≤ c := by omega
  by_cases hcc : c = i + 1
  · have hcle0 := hcle0 hcc
    clear hap hap0 hcle
    subst hcc
    have hcd : ¬ (i + 1 = i) := by omega
    have hne : n - (i + 1) = 0 := by omega
    have hii : i + 0 = i := rfl
    go_enter Tryd.func51, Tryd.ntmps51
    go_wp2
    go_region_law (fail)
    go_wp2_with (at_builtin; refine wpList_clear_runI _ rfl _ 29 rfl _ rfl (hcle0 _ _) ?_)
    go_ret
    exact ⟨by rw [show n - 1 = i by omega]; rfl, rfl⟩
  · have hcd : ¬ (c = n - 1) := by omega
    clear hap0 hcle0
    go_enter Tryd.func51, Tryd.ntmps51
    go_wp2
    go_region_law (refine step_append_runI rfl _ _ 29 29 rfl _ _ (by simp [Act.eval, Act.put]) (by simp [Act.eval, Act.put]) (hap _ (c - (i + 1))) ?_)
    go_wp2_with (at_builtin; refine wpList_clear_runI _ rfl _ 29 rfl _ rfl (hcle _ _) ?_)
    go_ret
    exact ⟨rfl, rfl⟩

end Go.Proofs.YtlnflhmepnbcmaaDoor
