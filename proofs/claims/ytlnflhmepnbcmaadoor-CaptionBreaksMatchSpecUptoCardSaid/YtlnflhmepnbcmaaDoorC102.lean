/- What is proved here: the walk of costs of the reference: a matrix filled from its last row on (no statement of the seat). -/
import Derived.Test.YtlnflhmepnbcmaaDoorC101
namespace Go.Proofs.YtlnflhmepnbcmaaDoor
open Go Go.RowKit Go.Lib Go.Deep
set_option linter.unusedVariables false
set_option linter.unusedSimpArgs false
set_option maxHeartbeats 4000000
set_option maxRecDepth 100000

theorem cs_undSS : Tryd.prog.underlying 61 = some (.slice 37) := by kernel_rfl
theorem cs_undS : Tryd.prog.underlying 37 = some (.slice 3) := by kernel_rfl
theorem cs_infoS : (Tryd.prog.info? 37).map (fun i => (i.zero, i.size, i.bytes)) = some (some (.slice none 0 0), 1, 24) := by kernel_rfl
theorem cs_infoI : (Tryd.prog.info? 3).map (fun i => (i.zero, i.size, i.bytes)) = some (some (.int .i64 0), 1, 8) := by kernel_rfl

namespace M

theorem slice_of {w : World} {S : Nat → Prop} {rows : List Row} {v : Value} (h : R0 w S (.sl rows) v) : ∃ A cap, v = .slice A rows.length cap := by
  generalize hr : (AV.sl rows) = x at h
  cases h <;> cases hr
  exact ⟨_, _, rfl⟩

theorem w64_eq (n : Int) : wrap64 n = IntKind.i64.wrap n := by rw [IntKind.wrap_i64]; unfold wrap64; omega

theorem next_c {Z : Nat → Nat → Int} {i k : Nat} {c : Nat → Int} {u : Int} (h : ∀ k', k' < k → c k' = Z k' i) (hu : u = Z k i) : ∀ k', k' < k + 1 → (if k' = k then u else c k') = Z k' i := fun k' hk => by
  by_cases e : k' = k
  · subst e; rw [if_pos rfl, hu]
  · rw [if_neg e, h k' (by omega)]

theorem lacks_at {w : World} {S : Nat → Prop} {v : Value} {ws : List ByteArray} {wd : Int} {i j : Nat} (h1 : i ≤ j) (h2 : j ≤ ws.length) (h3 : ws.length ≤ 2000) (h4 : F.smL ws = true) (hS : ∀ b, S b → b < w.heap.size) (hG : ∀ g r, noG g = some r → GlobAt w S g r) (hv : R0 w S (.sl (ws.map eStr)) v) (hw : okAtom (.int .i64 wd)) :
    Calls Tryd.prog 36 #[v, .int .i64 (i : Int), .int .i64 (j : Int), .int .i64 wd] w fun e w' => e = .returned (.int .i64 (F.lacks ws wd i j)) ∧ Below w.heap.size w w' := by
  have hsp := orc_at okLk encLk_inj (ws, i, j, wd) (by simp only [preLk1, Bool.and_eq_true, decide_eq_true_eq]; exact ⟨⟨h1, h2, by omega⟩, h4⟩)
  have oi : ∀ n : Nat, n ≤ 2000 → okAtom (.int .i64 (n : Int)) := fun n hn => by
    simp [okAtom, IntKind.min, IntKind.max, IntKind.signed, IntKind.bits]; omega
  refine (hsp w S [v, .int .i64 (i : Int), .int .i64 (j : Int), .int .i64 wd] hS hG ⟨hv, .v (oi i (by omega)), .v (oi j (by omega)), .v hw, trivial⟩).mono ?_
  rintro e w' ⟨u, S', β', rfl, hb, _, _, _, _, _, _, _, hr⟩
  rw [(rv_v hr).1]
  exact ⟨rfl, hb⟩

theorem costs_any {W : World} {S : Nat → Prop} {vw : Value} {ws : List ByteArray} {wd : Int} {R : Nat} (hn : ws.length ≤ 2000) (hR : R ≤ 15) (hs : F.smL ws = true) (hS : ∀ b, S b → b < W.heap.size) (hG : ∀ g r, noG g = some r → GlobAt W S g r) (hv : R0 W S (.sl (ws.map eStr)) vw) (hw : okAtom (.int .i64 wd)) :
    Calls Tryd.prog 35 #[vw, .int .i64 wd, .int .i64 (R : Int)] W fun e w' => ∃ g, e = .returned (.slice (some ⟨W.heap.size, 0, none⟩) (ws.length + 1) (ws.length + 1)) ∧ Outer W w' ws.length (R + 1) 0 g (F.cz ws wd) := by
  obtain ⟨i1, hi1, hz1, hs1, hb1⟩ := info_parts cs_infoS
  obtain ⟨i2, hi2, hz2, hs2, hb2⟩ := info_parts cs_infoI
  have hlk : ∀ (wr : World) (i j : Nat), W.Since W.heap.size wr → i ≤ j → j ≤ ws.length → Calls Tryd.prog 36 #[vw, .int .i64 (i : Int), .int .i64 (j : Int), .int .i64 wd] wr fun e w' => e = .returned (.int .i64 (F.lacks ws wd i j)) ∧ Below wr.heap.size wr w' :=
    fun wr i j hsi h1 h2 => lacks_at h1 h2 hn hs (fun b hb => Nat.lt_of_lt_of_le (hS b hb) hsi.size) (fun g r hg => (hG g r hg).mono (fun b hb => hsi.block b (hS b hb)) fun _ h => h) (hv.mono (fun b hb => hsi.block b (hS b hb)) fun _ h => h) hw
  obtain ⟨A, cap, rfl⟩ := slice_of hv
  rw [List.length_map] at *
  generalize hN : ws.length = n at *
  clear hv
  go_enter Tryd.func35, Tryd.ntmps35
  go_wp2_with (first
    | (at_make; go_loud (refine wpl_make _ rfl _ _ 61 rfl 37 i1 _ cs_undSS hi1 hz1 hs1 rfl _ _ (n + 1) rfl rfl (by omega) (by omega) (by rw [hb1]; omega) (by omega) ?_))
    | go_in)
  go_loopw [8] (fun i wr => ∃ (r : Nat) (g : Nat → Nat), r ≤ n + 1 ∧ i = .int .i64 ((r : Int) - 1) ∧ Hid (Outer W wr n (R + 1) r g (F.cz ws wd)))
    (fun i _ => (RowKit.intOf i + 1).toNat)
  case atStart => exact ⟨n + 1, fun _ => 0, Nat.le_refl _, by congr 1; omega, outer_start _ _ _ _ _⟩
  case round =>
    obtain ⟨r, g, hr, rfl, hO⟩ := hrel
    by_cases h0 : 0 < r
    · obtain ⟨i, rfl⟩ : ∃ i, r = i + 1 := ⟨r - 1, by omega⟩
      have ei : ((i + 1 : Nat) : Int) - 1 = (i : Int) := by omega
      rw [ei]
      have hst1 : ∀ o, (wr.alloc o).cell? ⟨W.heap.size, i, none⟩ = some (.slice none 0 0) := fun o => by
        have := (hO.out.top.alloc o).cell (i := i) (by omega)
        rw [if_neg (by omega)] at this
        exact this
      have hst2 : ∀ o, (wr.alloc o).frozen? ⟨W.heap.size, i, none⟩ = false := fun o => (hO.out.top.alloc o).frozen i
      go_wp2_with (first
        | (at_make; go_loud (refine wpl_make _ rfl _ _ 37 rfl 3 i2 _ cs_undS hi2 hz2 hs2 rfl _ _ (R + 1) rfl rfl (by omega) (by omega) (by rw [hb2]; omega) (by omega) ?_))
        | go_in)
      have hM0 : Hid (Mat W _ n (R + 1) i _ (F.cz ws wd) (fun _ => 0)) := mat_start hO.out (by omega)
      generalize hg2 : (fun j => if j = i then wr.heap.size else g j) = g2 at hM0
      clear hst1 hst2
      go_loopw [30] (fun v w' => ∃ (k : Nat) (c : Nat → Int), k ≤ R + 1 ∧ v = .int .i64 (k : Int) ∧ Hid (Mat W w' n (R + 1) i g2 (F.cz ws wd) c) ∧ Hid (∀ k', k' < k → c k' = F.cz ws wd k' i))
        (fun v _ => R + 1 - (RowKit.intOf v).toNat)
      case atStart => exact ⟨0, _, Nat.zero_le _, rfl, hM0, fun k' h => by omega⟩
      case round =>
        obtain ⟨k, c, hk, rfl, hM, hc⟩ := hrel
        by_cases hk1 : k < R + 1
        · have hgi := hM.out.lt i (Nat.le_refl _) (by omega)
          have hne1 : ¬ W.heap.size = g2 i := by omega
          have hne2 : ¬ g2 i = W.heap.size := by omega
          have t1 : wr.cell? ⟨W.heap.size, i, none⟩ = some (.slice (some ⟨g2 i, 0, none⟩) (R + 1) (R + 1)) := by
            have := hM.out.top.cell (i := i) (by omega)
            rw [if_pos (Nat.le_refl _)] at this
            exact this
          have t2 : wr.cell? ⟨g2 i, k, none⟩ = some (.int .i64 (c k)) := hM.out.cur.cell hk1
          have t3 : wr.frozen? ⟨g2 i, k, none⟩ = false := hM.out.cur.frozen k
          by_cases hk0 : k = 0
          · have hkz : ((k : Int) == 0) = true := by rw [hk0]; rfl
            have hkn : ¬ (0 : Int) < (k : Int) := by omega
            by_cases hin : i = n
            · have hib : ((i : Int) == (n : Int)) = true := by rw [hin]; simp
              have hM1 := mat_set (mat_set hM.out (by omega) k F.far) (by omega) k 0
              have hcn : ∀ k', k' < k + 1 → (if k' = k then 0 else if k' = k then F.far else c k') = F.cz ws wd k' i := fun k' h => by
                have e : k' = k := by omega
                rw [if_pos e, e, hk0, F.cz, hN, hin, beq_self_eq_true]; rfl
              have hM1 : Hid (Mat W ((wr.setCell ⟨g2 i, k, none⟩ (.int .i64 1099511627776)).setCell ⟨g2 i, k, none⟩ (.int .i64 0)) n (R + 1) i g2 (F.cz ws wd) (fun k' => if k' = k then 0 else if k' = k then F.far else c k')) := hM1
              clear hin hk0
              go_wp2
              refine wp_loop_rounds 1 ?_
              rw [rounds_succ]
              go_wp2
              go_roundw
              case rel => exact ⟨k + 1, _, by omega, by go_num, hM1, hcn⟩
              case measure => simp [RowKit.intOf]; omega
            · have hib : ((i : Int) == (n : Int)) = false := beq_eq_false_iff_ne.2 (by omega)
              have hM1 : Hid (Mat W (wr.setCell ⟨g2 i, k, none⟩ (.int .i64 1099511627776)) n (R + 1) i g2 (F.cz ws wd) (fun k' => if k' = k then F.far else c k')) := mat_set hM.out (by omega) k F.far
              have hcn : ∀ k', k' < k + 1 → (if k' = k then F.far else c k') = F.cz ws wd k' i := fun k' h => by
                have e : k' = k := by omega
                rw [if_pos e, e, hk0, F.cz, hN, beq_eq_false_iff_ne.2 hin]; rfl
              clear hin hk0
              go_wp2
              refine wp_loop_rounds 1 ?_
              rw [rounds_succ]
              go_wp2
              go_roundw
              case rel => exact ⟨k + 1, _, by omega, by go_num, hM1, hcn⟩
              case measure => simp [RowKit.intOf]; omega
          · have hkz : ((k : Int) == 0) = false := beq_eq_false_iff_ne.2 (by omega)
            have hkp : (0 : Int) < (k : Int) := by omega
            go_wp2
            have hM1 : Hid (Mat W _ n (R + 1) i g2 (F.cz ws wd) (fun k' => if k' = k then F.far else c k')) := mat_set hM.out (by omega) k F.far
            have hcz : F.cz ws wd k i = F.cj (fun j => F.lacks ws wd i j) (fun j => F.cz ws wd (k - 1) j) (n - i) (i + 1) F.far := by
              obtain ⟨m, rfl⟩ : ∃ m, k = m + 1 := ⟨k - 1, by omega⟩
              rw [Nat.add_sub_cancel, F.cz, hN]
            clear t1 t2 t3 hM
            simp only [show decide ((k : Int) < (R : Int) + 1) = true from decide_eq_true (by omega)]
            go_loopw [10] (fun v w' => ∃ (j : Nat) (u : Int), i + 1 ≤ j ∧ j ≤ n + 1 ∧ v = .int .i64 (j : Int) ∧ Hid (Mat W w' n (R + 1) i g2 (F.cz ws wd) (fun k' => if k' = k then u else c k')) ∧ Hid (F.cj (fun j => F.lacks ws wd i j) (fun j => F.cz ws wd (k - 1) j) (n + 1 - j) j u = F.cz ws wd k i))
              (fun v _ => n + 1 - (RowKit.intOf v).toNat)
            case atStart => exact ⟨i + 1, F.far, Nat.le_refl _, by omega, by go_num, hM1, by show _ = _; rw [hcz, show n + 1 - (i + 1) = n - i by omega]⟩
            case round =>
              obtain ⟨j, u, hj1, hj2, rfl, hM, hu⟩ := hrel
              by_cases hj : j ≤ n
              · obtain ⟨x, hx⟩ : ∃ x, F.lacks ws wd i j = x := ⟨_, rfl⟩
                have hcall := hlk wr i j hM.out.since (by omega) hj
                rw [hx] at hcall
                have hu1 : Hid ((bif x == F.far then u else F.cj (fun j => F.lacks ws wd i j) (fun j => F.cz ws wd (k - 1) j) (n - j) (j + 1) (min u (IntKind.i64.wrap (x + F.cz ws wd (k - 1) j)))) = F.cz ws wd k i) := by
                  have := hu.out
                  rw [show n + 1 - j = (n - j) + 1 by omega, F.cj, hx] at this
                  exact this
                have hM' : Hid (∀ w3, Below wr.heap.size wr w3 → Mat W w3 n (R + 1) i g2 (F.cz ws wd) (fun k' => if k' = k then u else c k')) := fun w3 hb => mat_below hM.out hb
                clear hu hM hM1
                have hjn : (j : Int) ≤ (n : Int) := by omega
                by_cases hxf : x = 1099511627776
                · subst hxf
                  go_wp2_with (first
                    | (go_at_call 36; refine hcall.mono ?_; rintro e w3 ⟨rfl, hb3⟩)
                    | go_in)
                  go_roundw
                  case rel => exact ⟨k + 1, _, by omega, by go_num, hM' w3 hb3, next_c hc.out hu1.out⟩
                  case measure => simp [RowKit.intOf]; omega
                · have hxz : (x == 1099511627776) = false := beq_eq_false_iff_ne.2 hxf
                  go_wp2_with (first
                    | (go_at_call 36; refine hcall.mono ?_; rintro e w3 ⟨rfl, hb3⟩)
                    | go_in)
                  have hM3 := hM' w3 hb3
                  have t1 : w3.cell? ⟨W.heap.size, i, none⟩ = some (.slice (some ⟨g2 i, 0, none⟩) (R + 1) (R + 1)) := by
                    have := hM3.top.cell (i := i) (by omega)
                    rw [if_pos (Nat.le_refl _)] at this
                    exact this
                  have t2 : w3.cell? ⟨g2 i, k, none⟩ = some (.int .i64 u) := by
                    have := hM3.cur.cell (i := k) hk1
                    rw [if_pos rfl] at this
                    exact this
                  have t3 : w3.frozen? ⟨g2 i, k, none⟩ = false := hM3.cur.frozen k
                  have t4 : w3.cell? ⟨W.heap.size, j, none⟩ = some (.slice (some ⟨g2 j, 0, none⟩) (R + 1) (R + 1)) := by
                    have := hM3.top.cell (i := j) (by omega)
                    rw [if_pos (by omega)] at this
                    exact this
                  have t5 : w3.cell? ⟨g2 j, k - 1, none⟩ = some (.int .i64 (F.cz ws wd (k - 1) j)) := (hM3.done j (by omega) hj).cell (by omega)
                  have hM3 : Hid (Mat W w3 n (R + 1) i g2 (F.cz ws wd) (fun k' => if k' = k then u else c k')) := hM3
                  clear hM' hcall hb3
                  generalize hzz : F.cz ws wd (k - 1) j = z at t5 hu1
                  go_region
                  all_goals go_wp2
                  have hxf2 : (x == F.far) = false := hxz
                  go_roundw
                  case rel =>
                    refine ⟨j + 1, min u (wrap64 (x + z)), by omega, by omega, by go_num, ?_, ?_⟩
                    · show Mat _ _ _ _ _ _ _ _
                      refine mat_congr (mat_drew (mat_set hM3.out (by omega) k (min u (wrap64 (x + z))))) fun k' _ => ?_
                      by_cases e : k' = k
                      · rw [if_pos e, if_pos e]
                      · rw [if_neg e, if_neg e, if_neg e]
                    · have := hu1.out
                      rw [hxf2, cond_false, ← w64_eq] at this
                      show _ = _
                      rw [show n + 1 - (j + 1) = n - j by omega]
                      exact this
                  case measure => simp [RowKit.intOf]; omega
              · obtain rfl : j = n + 1 := by omega
                rw [Nat.sub_self] at hu
                go_wp2
                go_roundw
                case rel => exact ⟨k + 1, _, by omega, by go_num, hM, next_c hc.out hu.out⟩
                case measure => simp [RowKit.intOf]; omega
        · obtain rfl : k = R + 1 := by omega
          have hO2 : Hid (Outer W wr n (R + 1) i g2 (F.cz ws wd)) := mat_done hM.out (by omega) hc.out
          go_wp2
          go_roundw
          case rel => exact ⟨i, g2, by omega, by go_num, hO2⟩
          case measure => simp [RowKit.intOf]
    · obtain rfl : r = 0 := by omega
      go_wp2
      go_ret
      exact ⟨g, rfl, hO.out⟩

end M
end Go.Proofs.YtlnflhmepnbcmaaDoor
