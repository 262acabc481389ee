/- What is proved here: what dates of the reference returns (chapter 6): the walk. -/
import Derived.Test.YtkfhfjcgegimbaaRefDates
namespace Go.Proofs.Ytkfhfjcgegimbaa
open Go.RowKit
set_option linter.unusedVariables false

theorem rowv_below {W w' : World} {B g : Nat} {e : TypeId} {vs : List Value} (h : RowV W g e vs) (hb : Below B W w') (hg : g < B) : RowV w' g e vs := h.keep (hb.block g hg)
set_option maxRecDepth 100000 in
set_option maxHeartbeats 6000000 in
theorem refDates_any (l : Lst) (A : Option Addr) (c : Nat) (w : World) (hg : GoodD l.entries) (hA : SlR 7 entR w (In w) l.entries A) :
    Calls Try.prog 58 #[.agg #[.int .i64 l.target, .int .i64 l.first, .int .i64 l.breaks, .slice A l.entries.length c, .bool l.ended]] w fun r w' => ∃ v, r = .returned (.tuple #[v, .int .i64 (datesF l.entries).2]) ∧ intsV w' (datesF l.entries).1 v ∧ Ext w w' := by
  obtain ⟨T, F, B, es, E⟩ := l
  simp only at hg hA ⊢
  have hn := hg.1.1
  have HG := Lib.hid hg
  clear hg
  have hmk := run_make1 (P := Try.prog) Try.underlying66 info_bool rfl es.length (by omega) (by omega)
  go_enter Try.func58, Try.ntmps58
  go_wp2
  go_loopw [4, 6] (fun v i wr => ∃ (k : Nat) (xs : List Int) (ks : List Bool), k ≤ es.length ∧ i = .int .i64 k ∧ Below (w.heap.size + 1) (w.alloc (.cells #[.int .i64 T, .int .i64 F, .int .i64 B, .slice A es.length c, .bool E] 24)) wr ∧ RowV wr (w.heap.size + 1) 4 (bools ks) ∧ OwnL 1 3 intR (w.heap.size + 2) wr v xs ∧ w.heap.size + 2 ≤ wr.heap.size ∧ Hid (FwdR es xs ks k)) (fun v i wr => es.length - (intOf i).toNat)
  case atStart =>
    refine ⟨0, [], List.replicate es.length false, Nat.zero_le _, rfl, (Below.refl _ _).alloc (by simp) _, ?_, OwnL.nil, by simp, ⟨rfl, by simp, fun j d hj => absurd hj (by omega), fun j _ hj => by simp [hj]⟩⟩
    have := RowV.new (w.alloc (.cells #[.int .i64 T, .int .i64 F, .int .i64 B, .slice A es.length c, .bool E] 24)) 4 (bools (List.replicate es.length false))
    simpa [bools] using this
  case round =>
    obtain ⟨k, xs, ks, hk, rfl, hb, hrow, hown, hsz2, hv⟩ := hrel
    obtain ⟨t0, t1, t2, t3, t4, hs1⟩ := lst_box hb
    have hgl : w.heap.size + 1 < wr.heap.size := hsz2
    by_cases hlt : k < es.length
    · obtain ⟨b, off, X, cx, rfl, hin, c0, c1, c2, c3, c4, c5, c6, g1, g2, g3, g4, g5, g6, g7, g8⟩ := ent_at (hA.ext keeps_ent (Ext.ofBox hb)) hlt
      have hin' : b < wr.heap.size := hin
      obtain ⟨y, hck⟩ : ∃ y, wr.cell? ⟨w.heap.size + 1, k, none⟩ = some (.bool y) := ⟨_, by rw [hrow.cell, bools_at (by have := hv.out.2.1; omega)]⟩
      have hfk := hrow.frozen k
      have hD := (HG.out.2 _ (mem_at hlt)).2
      by_cases hd0 : 0 ≤ es[k].date
      · have HF : Hid ((forO es)[k]? = some (some es[k].date)) := by
          unfold Hid
          rcases k with _ | k
          · rw [forO_0 hlt]; unfold stepF; rw [if_pos hd0]
          · obtain ⟨p, hp⟩ := forO_at (show k < es.length by omega)
            rw [forO_next hlt hp]; unfold stepF; rw [if_pos hd0]
        go_wp2_with (at_builtin; go_must (refine wpList_app_one keeps_int _ rfl _ _ 44 3 rfl (w.heap.size + 2) info_int Try.underlying44 rfl (by decide) _ xs rfl ((hown.farI (by simp) _).keep keeps_int (Ext.new _ _)) (es[k].date) _ _ _ rfl ?_ ?_ rfl ?_ ?_ ?_ ?_ ?_; (· simp); (· exact ⟨rfl, by constructor <;> omega⟩); (· simp [Value.oneCell']); (· have := hv.out.1; omega); (· have := hv.out.1; simp only [maxLen]; omega); (· simp; omega); intro v' w' hown' hbl hsz hkp hob))
        go_roundw
        case rel =>
          refine ⟨k + 1, xs ++ [es[k].date], ks.set k true, by omega, by go_num, ?_, ?_, hown', ?_, hv.out.step hlt HF.out rfl (by simp) (fun j hj => by rw [List.getElem?_set_ne (by omega)]) (by rw [List.getElem?_set_self (by rw [hv.out.2.1]; exact hlt)]; rfl)⟩
          · exact (Below.call (hb.setCell (p := ⟨w.heap.size + 1, k, none⟩) (by simp) _) (by simp; omega) (Ext.new _ _)).trans (hbl.mono (by omega))
          · exact rowv_below (hrow.setB.ext (Ext.new _ _)) hbl (by omega)
          · simp at hsz; omega
        case measure => simp [intOf]; omega
      · by_cases hp : k = 0 ∨ es[k].brk = true
        · have HF : Hid ((forO es)[k]? = some none) := by
            unfold Hid
            rcases k with _ | k
            · rw [forO_0 hlt]; unfold stepF; rw [if_neg hd0]; simp
            · obtain ⟨p, hpp⟩ := forO_at (show k < es.length by omega)
              rw [forO_next hlt hpp]; unfold stepF; rw [if_neg hd0, if_neg (by rcases hp with h | h <;> simp_all)]
          by_cases hk0 : k = 0
          · subst hk0
            simp only [Nat.zero_mul, Nat.add_zero] at c0 c1 c2 c3 c4 c5 c6
            go_wp2_with (at_builtin; go_must (refine wpList_app_one keeps_int _ rfl _ _ 44 3 rfl (w.heap.size + 2) info_int Try.underlying44 rfl (by decide) _ xs rfl (hown.keep keeps_int (Ext.new _ _)) (-1) _ _ _ rfl ?_ ?_ rfl ?_ ?_ ?_ ?_ ?_; (· simp); (· exact ⟨rfl, by constructor <;> omega⟩); (· simp [Value.oneCell']); (· have := hv.out.1; omega); (· have := hv.out.1; simp only [maxLen]; omega); (· simp; omega); intro v' w' hown' hbl hsz hkp hob))
            go_roundw
            case rel =>
              refine ⟨0 + 1, xs ++ [-1], ks, by omega, by go_num, ?_, ?_, hown', ?_, hv.out.step hlt HF.out rfl rfl (fun _ _ => rfl) (hv.out.2.2.2 _ (Nat.le_refl _) hlt)⟩
              · exact (Below.call hb hs1 (Ext.new _ _)).trans (hbl.mono (by omega))
              · exact rowv_below (hrow.ext (Ext.new _ _)) hbl (by omega)
              · simp at hsz; omega
            case measure => simp [intOf]; omega
          · have hbk : es[k].brk = true := by rcases hp with h | h; exact absurd h hk0; exact h
            have hkp : (0 : Int) < k := by omega
            clear hp
            go_wp2_with (at_builtin; go_must (refine wpList_app_one keeps_int _ rfl _ _ 44 3 rfl (w.heap.size + 2) info_int Try.underlying44 rfl (by decide) _ xs rfl (hown.keep keeps_int (Ext.new _ _)) (-1) _ _ _ rfl ?_ ?_ rfl ?_ ?_ ?_ ?_ ?_; (· simp); (· exact ⟨rfl, by constructor <;> omega⟩); (· simp [Value.oneCell']); (· have := hv.out.1; omega); (· have := hv.out.1; simp only [maxLen]; omega); (· simp; omega); intro v' w' hown' hbl hsz hkp hob))
            go_roundw
            case rel =>
              refine ⟨k + 1, xs ++ [-1], ks, by omega, by go_num, ?_, ?_, hown', ?_, hv.out.step hlt HF.out rfl rfl (fun _ _ => rfl) (hv.out.2.2.2 _ (Nat.le_refl _) hlt)⟩
              · exact (Below.call hb hs1 (Ext.new _ _)).trans (hbl.mono (by omega))
              · exact rowv_below (hrow.ext (Ext.new _ _)) hbl (by omega)
              · simp at hsz; omega
            case measure => simp [intOf]; omega
        · have hbk : es[k].brk = false := by cases h : es[k].brk <;> simp_all
          obtain ⟨j, rfl⟩ : ∃ j, k = j + 1 := ⟨k - 1, by omega⟩
          clear hp
          have hlt0 : j < es.length := by omega
          obtain ⟨p, hpp⟩ := forO_at hlt0
          have hj := (hv.out.2.2.1 j p (by omega) hpp)
          have hcj : wr.cell? ⟨w.heap.size + 1, j, none⟩ = some (.bool p.isSome) := by
            have hl := (List.getElem?_eq_some_iff.1 hj.2).1
            rw [hrow.cell, bools_at hl, (List.getElem?_eq_some_iff.1 hj.2).2]
          have HJ := Lib.hid hj
          have HP := Lib.hid hpp
          clear hj hpp
          cases p with
          | none =>
            have HF : Hid ((forO es)[j + 1]? = some none) := by unfold Hid; rw [forO_next hlt HP.out]; unfold stepF; rw [if_neg hd0, if_pos hbk]; rfl
            have hcj' : wr.cell? ⟨w.heap.size + 1, j, none⟩ = some (.bool false) := hcj
            clear hcj
            go_wp2_with (at_builtin; go_must (refine wpList_app_one keeps_int _ rfl _ _ 44 3 rfl (w.heap.size + 2) info_int Try.underlying44 rfl (by decide) _ xs rfl (hown.keep keeps_int (Ext.new _ _)) (-1) _ _ _ rfl ?_ ?_ rfl ?_ ?_ ?_ ?_ ?_; (· simp); (· exact ⟨rfl, by constructor <;> omega⟩); (· simp [Value.oneCell']); (· have := hv.out.1; omega); (· have := hv.out.1; simp only [maxLen]; omega); (· simp; omega); intro v' w' hown' hbl hsz hkp hob))
            go_roundw
            case rel =>
              refine ⟨j + 1 + 1, xs ++ [-1], ks, by omega, by go_num, ?_, ?_, hown', ?_, hv.out.step hlt HF.out rfl rfl (fun _ _ => rfl) (hv.out.2.2.2 _ (Nat.le_refl _) hlt)⟩
              · exact (Below.call hb hs1 (Ext.new _ _)).trans (hbl.mono (by omega))
              · exact rowv_below (hrow.ext (Ext.new _ _)) hbl (by omega)
              · simp at hsz; omega
            case measure => simp [intOf]; omega
          | some p =>
            have hcj' : wr.cell? ⟨w.heap.size + 1, j, none⟩ = some (.bool true) := hcj
            have hp0 : 0 ≤ p := forO_pos HG.out.1 HP.out
            have hp1 : p ≤ 253402300799999 + 3600000 * j := forO_top HG.out HP.out
            obtain ⟨m1, m2⟩ := HG.out.1.at hlt0
            have HF : Hid ((forO es)[j + 1]? = some (some (p + es[j].milli))) := by unfold Hid; rw [forO_next hlt HP.out]; unfold stepF; rw [if_neg hd0, if_pos hbk]; rfl
            clear hcj
            have hjx : j < xs.length := by have := hv.out.1; omega
            have hxj : Hid (xs[j] = p) := by have h := HJ.out.1; rw [List.getElem?_eq_getElem hjx] at h; injection h
            have hown2 := hown.keep keeps_int (Ext.new _ (.cells #[.string es[j + 1].uri, .int .i64 es[j + 1].milli, .bool false, .int .i64 es[j + 1].date, .string es[j + 1].key, .bool es[j + 1].gap, .slice X es[j + 1].extra.length cx] 32))
            have hrow2 := hrow.ext (Ext.new _ (.cells #[.string es[j + 1].uri, .int .i64 es[j + 1].milli, .bool false, .int .i64 es[j + 1].date, .string es[j + 1].key, .bool es[j + 1].gap, .slice X es[j + 1].extra.length cx] 32))
            have hb2 := Below.call hb hs1 (Ext.new _ (.cells #[.string es[j + 1].uri, .int .i64 es[j + 1].milli, .bool false, .int .i64 es[j + 1].date, .string es[j + 1].key, .bool es[j + 1].gap, .slice X es[j + 1].extra.length cx] 32))
            obtain ⟨gx, cap, rfl, hgb, _, hcap, _⟩ := hown.atI hjx
            have hxl : xs.length = j + 1 := hv.out.1
            rw [hxl] at hown hown2 hcap ⊢
            have HXL := Lib.hid hxl
            clear hxl hown
            go_wp2
            generalize hWW : wr.alloc (.cells #[.string es[j + 1].uri, .int .i64 es[j + 1].milli, .bool false, .int .i64 es[j + 1].date, .string es[j + 1].key, .bool es[j + 1].gap, .slice X es[j + 1].extra.length cx] 32) = W at hown2 hrow2 hb2 ⊢
            have hszW : w.heap.size + 2 ≤ W.heap.size := by rw [← hWW]; simp; omega
            clear hWW
            obtain ⟨b', off', X', cx', hbo, hin2, d0, d1, d2, d3, d4, d5, d6, _⟩ := ent_at (hA.ext keeps_ent (Ext.ofBox hb2)) hlt0
            obtain ⟨rfl, rfl⟩ : b = b' ∧ off = off' := by injection hbo with h; injection h with h1 h2; exact ⟨h1, h2⟩
            clear hbo
            obtain ⟨t0, t1, t2, t3, t4, hs2⟩ := lst_box hb2
            obtain ⟨gx', cap', hvv, _, hgW, _, e1, _⟩ := (show OwnL 1 3 intR (w.heap.size + 2) W (.slice (some ⟨gx, 0, none⟩) xs.length cap) xs from by rw [HXL.out]; exact hown2).atI hjx
            obtain ⟨rfl, rfl⟩ : gx = gx' ∧ cap = cap' := by injection hvv with h1 h2 h3; injection h1 with h1; injection h1 with h1; exact ⟨h1, h3⟩
            rw [hxj.out] at e1
            clear hvv
            obtain ⟨y2, e2⟩ : ∃ y, W.cell? ⟨w.heap.size + 1, j + 1, none⟩ = some (.bool y) := ⟨_, by rw [hrow2.cell, bools_at (by rw [hv.out.2.1]; exact hlt)]⟩
            have e3 := hrow2.frozen (j + 1)
            have q1 : IntKind.i64.wrap (j : Int) = j := IntWalk.i64_in _ ⟨by omega, by omega⟩
            have q2 : IntKind.i64.wrap (p + es[j].milli) = p + es[j].milli := IntWalk.i64_in _ ⟨by omega, by omega⟩
            have q3 : (0 : Int) ≤ (j : Int) + 1 := by omega
            have q4 : ((j : Int) + 1).toNat = j + 1 := by omega
            have q5 : (j : Int) + 1 < (es.length : Int) := by omega
            have q6 : (j : Int) < (j : Int) + 1 := by omega
            go_still_tail 17, (by kernel_rfl)
            change wpList _ _ _ _ _ W.drew
            clear q1 q2 q4
            have hrow3 : RowV W.drew (w.heap.size + 1) 4 (bools ks) := hrow2
            have hown3 : OwnL 1 3 intR (w.heap.size + 2) W.drew (.slice (some ⟨gx, 0, none⟩) (j + 1) cap) xs := hown2.sameI rfl
            have hb3 := hb2.drew
            have hszW3 : w.heap.size + 2 ≤ W.drew.heap.size := hszW
            have e2' : W.drew.cell? ⟨w.heap.size + 1, j + 1, none⟩ = some (.bool y2) := e2
            have e3' : W.drew.frozen? ⟨w.heap.size + 1, j + 1, none⟩ = false := e3
            generalize W.drew = W2 at hrow3 hown3 hb3 hszW3 e2' e3' ⊢
            clear hrow2 hown2 hb2 hszW e1 e2 e3 d0 d1 d2 d3 d4 d5 d6 t0 t1 t2 t3 t4
            go_wp2_with (at_builtin; go_must (refine wpList_app_one keeps_int _ rfl _ _ 44 3 rfl (w.heap.size + 2) info_int Try.underlying44 rfl (by decide) _ xs rfl (hown3.farI (by simp) _) (p + es[j].milli) _ _ _ rfl ?_ ?_ rfl ?_ ?_ ?_ ?_ ?_; (· simp); (· exact ⟨rfl, by constructor <;> omega⟩); (· simp [Value.oneCell']); (· have := hv.out.1; omega); (· have := hv.out.1; simp only [maxLen]; omega); (· simp; omega); intro v' w' hown' hbl hsz hkp hob))
            go_roundw
            case rel =>
              refine ⟨j + 1 + 1, xs ++ [p + es[j].milli], ks.set (j + 1) true, by omega, by go_num, ?_, ?_, hown', ?_, hv.out.step hlt HF.out rfl (by simp) (fun i hi => by rw [List.getElem?_set_ne (by omega)]) (by rw [List.getElem?_set_self (by rw [hv.out.2.1]; exact hlt)]; rfl)⟩
              · exact (hb3.setCell (p := ⟨w.heap.size + 1, j + 1, none⟩) (by simp) _).trans (hbl.mono (by omega))
              · exact rowv_below hrow3.setB hbl (by omega)
              · simp at hsz; omega
            case measure => simp [intOf]; omega
    · have hk' : k = es.length := by omega
      have HB : Hid (BwdR es xs ks ((es.length : Int) - 2)) := by have h := hv.out; rw [hk'] at h; exact BwdR.start h
      have hxl : Hid (xs.length = es.length) := HB.out.1
      clear hk' hv
      obtain ⟨wo, rfl⟩ : ∃ wo : World, wo = wr := ⟨_, rfl⟩
      obtain ⟨Ao, co, rfl⟩ := hown.form
      rw [hxl.out] at hown ⊢
      go_wp2
      clear t0 t1 t2 t3 t4 hs1 hgl
      go_loopw [9] (fun i wr => ∃ (z : Int) (ys : List Int) (ks : List Bool), i = .int .i64 z ∧ -2 ≤ z ∧ z ≤ (es.length : Int) - 2 ∧ Below (w.heap.size + 1) (w.alloc (.cells #[.int .i64 T, .int .i64 F, .int .i64 B, .slice A es.length c, .bool E] 24)) wr ∧ RowV wr (w.heap.size + 1) 4 (bools ks) ∧ OwnL 1 3 intR (w.heap.size + 2) wr (.slice Ao es.length co) ys ∧ Hid (BwdR es ys ks z)) (fun i wr => (intOf i + 2).toNat)
      case atStart => exact ⟨_, xs, ks, rfl, by omega, by omega, hb, hrow, hown, HB⟩
      case round =>
        clear hb hrow HB hown hsz2
        obtain ⟨z, ys, ks, rfl, hz2, hzn, hb, hrow, hown, hv⟩ := hrel
        obtain ⟨t0, t1, t2, t3, t4, hs1⟩ := lst_box hb
        have hgl := hrow.lt
        by_cases hz : 0 ≤ z
        · obtain ⟨k, rfl⟩ := Int.eq_ofNat_of_zero_le hz
          have hlt : k < es.length := by omega
          have hlt1 : k + 1 < es.length := by omega
          obtain ⟨f, hf⟩ := forO_at hlt
          obtain ⟨y, hy⟩ : ∃ y, (datO es)[k + 1]? = some y := ⟨_, List.getElem?_eq_getElem (by rw [datO_len]; exact hlt1)⟩
          have hxk := hv.out.2.2.2 k f (by omega) hf
          have hxk1 := hv.out.2.2.1 (k + 1) y (by omega) hy
          have ck : wr.cell? ⟨w.heap.size + 1, k, none⟩ = some (.bool f.isSome) := by
            have hl := (List.getElem?_eq_some_iff.1 hxk.2).1
            rw [hrow.cell, bools_at hl, (List.getElem?_eq_some_iff.1 hxk.2).2]
          have ck1 : wr.cell? ⟨w.heap.size + 1, k + 1, none⟩ = some (.bool y.isSome) := by
            have hl := (List.getElem?_eq_some_iff.1 hxk1.2).1
            rw [hrow.cell, bools_at hl, (List.getElem?_eq_some_iff.1 hxk1.2).2]
          have fk := hrow.frozen k
          obtain ⟨b, off, X, cx, rfl, hin, c0, c1, c2, c3, c4, c5, c6, _⟩ := ent_at (hA.ext keeps_ent (Ext.ofBox hb)) hlt
          obtain ⟨b', off', X', cx', hbo, hin2, d0, d1, d2, d3, d4, d5, d6, _⟩ := ent_at (hA.ext keeps_ent (Ext.ofBox hb)) hlt1
          obtain ⟨rfl, rfl⟩ : b = b' ∧ off = off' := by injection hbo with h; injection h with h1 h2; exact ⟨h1, h2⟩
          clear hbo
          have hin' : b < wr.heap.size := hin
          obtain ⟨m1, m2⟩ := HG.out.1.at hlt
          have HXK := Lib.hid hxk
          have HXK1 := Lib.hid hxk1
          have Hf := Lib.hid hf
          have Hy := Lib.hid hy
          clear hxk hxk1 hf hy
          cases f with
          | some x =>
            have ck' : wr.cell? ⟨w.heap.size + 1, k, none⟩ = some (.bool true) := ck
            clear ck
            go_wp2
            go_roundw
            case rel => exact ⟨_, ys, ks, rfl, by omega, by omega, hb, hrow, hown, hv.out.step hlt (datO_some Hf.out) HXK.out⟩
            case measure => simp [intOf]; omega
          | none =>
            have ck' : wr.cell? ⟨w.heap.size + 1, k, none⟩ = some (.bool false) := ck
            clear ck
            cases y with
            | none =>
              have HD : Hid ((datO es)[k]? = some none) := by unfold Hid; rw [datO_none hlt1 Hf.out Hy.out]; simp
              have ck1' : wr.cell? ⟨w.heap.size + 1, k + 1, none⟩ = some (.bool false) := ck1
              clear ck1
              go_wp2
              go_roundw
              case rel => exact ⟨_, ys, ks, rfl, by omega, by omega, hb, hrow, hown, hv.out.step hlt HD.out HXK.out⟩
              case measure => simp [intOf]; omega
            | some y =>
              have hyo := datO_low HG.out (es.length - 1 - (k + 1)) (k + 1) y (by omega) Hy.out
              have hy0 : -3600000000 ≤ y := by omega
              have hy1 : y ≤ 253402300799999 + 3600000 * 1000 := hyo.2
              clear hyo
              have ck1' : wr.cell? ⟨w.heap.size + 1, k + 1, none⟩ = some (.bool true) := ck1
              clear ck1
              cases hbk : es[k + 1].brk
              · have HD : Hid ((datO es)[k]? = some (some (y - es[k].milli))) := by unfold Hid; rw [datO_none hlt1 Hf.out Hy.out, if_pos hbk]; rfl
                have hyl : Hid (ys.length = es.length) := hv.out.1
                have hk1y : k + 1 < ys.length := by rw [hyl.out]; exact hlt1
                have hky : k < ys.length := by omega
                have hyv : Hid (ys[k + 1] = y) := by have h := HXK1.out.1; rw [List.getElem?_eq_getElem hk1y] at h; injection h
                obtain ⟨gx, cap, hvv, hgb, hgW, _, e1, _⟩ := hown.atI hk1y
                obtain ⟨gx', cap', hvv', _, _, _, e2, e3⟩ := hown.atI hky
                obtain ⟨rfl, rfl⟩ : Ao = some ⟨gx, 0, none⟩ ∧ co = cap := by injection hvv with h1 h2 h3; exact ⟨h1, h3⟩
                obtain rfl : gx = gx' := by injection hvv' with h1; injection h1 with h1; injection h1 with h1
                rw [hyv.out] at e1
                clear hvv hvv'
                have hne : ¬ gx = w.heap.size + 1 := by omega
                have hne2 : ¬ w.heap.size + 1 = gx := by omega
                have q1 : IntKind.i64.wrap ((k : Int) + 1) = (k : Int) + 1 := IntWalk.i64_in _ ⟨by omega, by omega⟩
                have q2 : IntKind.i64.wrap (y - es[k].milli) = y - es[k].milli := IntWalk.i64_in _ ⟨by omega, by omega⟩
                have q3 : (0 : Int) ≤ (k : Int) + 1 := by omega
                have q4 : ((k : Int) + 1).toNat = k + 1 := by omega
                have q5 : (k : Int) + 1 < (es.length : Int) := by omega
                have q6 : (k : Int) < (es.length : Int) := by omega
                go_wp2
                go_region
                clear q1 q2 q4
                go_wp2
                go_roundw
                case rel =>
                  refine ⟨_, ys.set k (y - es[k].milli), ks.set k true, rfl, by omega, by omega, ?_, ?_, ?_, hv.out.stepSet hlt HD.out⟩
                  · first
                    | exact ((hb.setCell (p := ⟨gx, k, none⟩) (by simp; omega) _).setCell (p := ⟨w.heap.size + 1, k, none⟩) (by simp) _).drew
                    | exact (hb.drew.setCell (p := ⟨gx, k, none⟩) (by simp; omega) _).setCell (p := ⟨w.heap.size + 1, k, none⟩) (by simp) _
                    | exact ((hb.setCell (p := ⟨w.heap.size + 1, k, none⟩) (by simp) _).setCell (p := ⟨gx, k, none⟩) (by simp; omega) _).drew
                  · first
                    | exact (hrow.far (p := ⟨gx, k, none⟩) hne2 _).setB
                    | exact hrow.setB.far (p := ⟨gx, k, none⟩) hne2 _
                  · have h0 : OwnL 1 3 intR (w.heap.size + 2) wr (.slice (some ⟨gx, 0, none⟩) ys.length co) ys := by rw [hyl.out]; exact hown
                    have h := (h0.setI hky (x := y - es[k].milli) (by constructor <;> omega)).farI (p := ⟨w.heap.size + 1, k, none⟩) (by simp) (.bool true)
                    rw [List.length_set, hyl.out] at h
                    exact h.sameI rfl
                case measure => simp [intOf]; omega
              · have HD : Hid ((datO es)[k]? = some none) := by unfold Hid; rw [datO_none hlt1 Hf.out Hy.out, if_neg (by simp [hbk])]
                go_wp2
                go_roundw
                case rel => exact ⟨_, ys, ks, rfl, by omega, by omega, hb, hrow, hown, hv.out.step hlt HD.out HXK.out⟩
                case measure => simp [intOf]; omega
        · have hD : Hid (∀ (j : Nat) (d : Option Int), (datO es)[j]? = some d → ys[j]? = some (gd d) ∧ ks[j]? = some d.isSome) := fun j d hd => hv.out.2.2.1 j d (by omega) hd
          have hyl : Hid (ys.length = es.length) := hv.out.1
          clear hv
          go_wp2
          clear t0 t1 t2 t3 t4 hs1
          go_loop [10] (fun i => ∃ k : Nat, k ≤ es.length ∧ i = .int .i64 k ∧ Hid (∀ (j : Nat) (d : Option Int), j < k → (datO es)[j]? = some d → okD d = true)) (fun i => es.length - (intOf i).toNat)
          case atStart => exact ⟨0, Nat.zero_le _, rfl, fun j d hj => absurd hj (by omega)⟩
          case round =>
            obtain ⟨k, hk, rfl, ho⟩ := hrel
            by_cases hlt : k < es.length
            · obtain ⟨d, hd⟩ : ∃ d, (datO es)[k]? = some d := ⟨_, List.getElem?_eq_getElem (by rw [datO_len]; exact hlt)⟩
              have hx := hD.out k d hd
              have ck : wr.cell? ⟨w.heap.size + 1, k, none⟩ = some (.bool d.isSome) := by
                have hl := (List.getElem?_eq_some_iff.1 hx.2).1
                rw [hrow.cell, bools_at hl, (List.getElem?_eq_some_iff.1 hx.2).2]
              have hky : k < ys.length := by rw [hyl.out]; exact hlt
              obtain ⟨gx, cap, hvv, hgb, hgW, _, e1, _⟩ := hown.atI hky
              obtain ⟨rfl, rfl⟩ : Ao = some ⟨gx, 0, none⟩ ∧ co = cap := by injection hvv with h1 h2 h3; exact ⟨h1, h3⟩
              have hyv : Hid (ys[k] = gd d) := by have h := hx.1; rw [List.getElem?_eq_getElem hky] at h; injection h
              rw [hyv.out] at e1
              have Hd := Lib.hid hd
              clear hvv hx hd hyv
              cases d with
              | none =>
                have ck' : wr.cell? ⟨w.heap.size + 1, k, none⟩ = some (.bool false) := ck
                clear ck
                go_wp2
                go_round
                case rel =>
                  refine ⟨k + 1, by omega, by go_num, fun j d' hj hd' => ?_⟩
                  rcases Nat.lt_or_ge j k with h | h
                  · exact ho.out j d' h hd'
                  · have : j = k := by omega
                    subst this
                    rw [Hd.out] at hd'; injection hd' with hd'; subst hd'; rfl
                case measure => simp [intOf]; omega
              | some x =>
                have ck' : wr.cell? ⟨w.heap.size + 1, k, none⟩ = some (.bool true) := ck
                have e1' : wr.cell? ⟨gx, k, none⟩ = some (.int .i64 x) := e1
                clear ck e1
                by_cases hok : x < 0 ∨ 253402300799999 < x
                · have HE := Lib.hid (datesF_bad Hd.out (okD_bad hok))
                  have hob : outB x 0 253402300799999 = true := outB_t hok
                  go_wp2_with (go_at_call 42; refine (within_any _ _ _ _).mono ?_; rintro r w' ⟨rfl, rfl⟩)
                  go_ret2
                  exact ⟨_, ret_vi (by rw [HE.out]), by rw [HE.out]; exact intsV_nil _, Ext.ofBox hb⟩
                · have hob : outB x 0 253402300799999 = false := outB_f (by omega) (by omega)
                  go_wp2_with (go_at_call 42; refine (within_any _ _ _ _).mono ?_; rintro r w' ⟨rfl, rfl⟩)
                  go_round
                  case rel =>
                    refine ⟨k + 1, by omega, by go_num, fun j d' hj hd' => ?_⟩
                    rcases Nat.lt_or_ge j k with h | h
                    · exact ho.out j d' h hd'
                    · have : j = k := by omega
                      subst this
                      rw [Hd.out] at hd'; injection hd' with hd'; subst hd'; exact okD_of (by omega) (by omega)
                  case measure => simp [intOf]; omega
            · have HE : Hid (datesF es = (ys, 0)) := by
                unfold Hid
                rw [datesF_ok fun j d hd => ho.out j d (by have := (List.getElem?_eq_some_iff.1 hd).1; rw [datO_len] at this; omega) hd]
                congr 1
                apply List.ext_getElem?
                intro j
                rw [List.getElem?_map]
                cases hd : (datO es)[j]? with
                | none =>
                  have : ys.length ≤ j := by rw [hyl.out, ← datO_len es]; exact List.getElem?_eq_none_iff.1 hd
                  simp [List.getElem?_eq_none this]
                | some d => simp [(hD.out j d hd).1]
              go_wp2
              go_ret2
              refine ⟨_, ret_vi (by rw [HE.out]), ?_, Ext.ofBox hb⟩
              rw [HE.out]
              exact hown.read keeps_int (by have := hyl.out; omega)
end Go.Proofs.Ytkfhfjcgegimbaa
