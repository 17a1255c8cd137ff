/-
  The reference's tables of seconds: reached, listed.
-/
import Derived.Test.YteehjciepccomaaRRight
import Derived.Test.YteehjciepccomaaFBest
import Derived.Test.YteehjciepccomaaFUse
namespace Go.Proofs.Yteehjciepccomaa
open Go.RowKit
set_option maxRecDepth 100000
set_option maxHeartbeats 20000000

/-- The block B is a row of 72001 truth values: those of the seconds of L are true. -/
def BoolRow (w : World) (B : Nat) (L : List Int) : Prop := ∃ cs, Blk w B 4 cs ∧ cs.length = 72001 ∧ ∀ j, j < 72001 → cs[j]? = some (.bool (decide ((j : Int) ∈ L)))
theorem BoolRow.lt {w : World} {B : Nat} {L : List Int} (h : BoolRow w B L) : B < w.heap.size := by
  obtain ⟨cs, h1, _⟩ := h
  exact h1.lt
theorem BoolRow.cell {w : World} {B : Nat} {L : List Int} (h : BoolRow w B L) {j : Nat} (hj : j < 72001) : w.cell? ⟨B, j, none⟩ = some (.bool (decide ((j : Int) ∈ L))) ∧ w.frozen? ⟨B, j, none⟩ = false := by
  obtain ⟨cs, h1, h2, h3⟩ := h
  exact ⟨(h1.cell j).trans (h3 j hj), h1.frozen j⟩
theorem BoolRow.same {w : World} {B : Nat} {L L' : List Int} (h : BoolRow w B L) (hs : ∀ x, x ∈ L ↔ x ∈ L') : BoolRow w B L' := by
  obtain ⟨cs, h1, h2, h3⟩ := h
  refine ⟨cs, h1, h2, fun j hj => ?_⟩
  rw [h3 j hj]
  exact congrArg (fun b => some (Value.bool b)) (decide_eq_decide.2 (hs _))
theorem BoolRow.upd {w w' : World} {B : Nat} {L : List Int} {l : List Nat} (h : BoolRow w B L) (hu : Upd l w w') (hB : B ∉ l) : BoolRow w' B L := by
  obtain ⟨cs, h1, h2⟩ := h
  exact ⟨cs, h1.upd hu hB, h2⟩
theorem BoolRow.far {w : World} {B G j : Nat} {L : List Int} (h : BoolRow w B L) (hB : B ≠ G) (u : Value) : BoolRow (w.setCell ⟨G, j, none⟩ u) B L := by
  obtain ⟨cs, h1, h2⟩ := h
  exact ⟨cs, h1.far hB u, h2⟩
theorem BoolRow.put {w : World} {B : Nat} {L : List Int} (h : BoolRow w B L) {j : Nat} (hj : j < 72001) : BoolRow (w.setCell ⟨B, j, none⟩ (.bool true)) B (L ++ [(j : Int)]) := by
  obtain ⟨cs, h1, h2, h3⟩ := h
  refine ⟨cs.set j (.bool true), h1.set_ j _, by rw [List.length_set]; exact h2, fun i hi => ?_⟩
  rw [List.getElem?_set]
  split
  · next e => subst e; rw [if_pos (by omega)]; simp
  · next e =>
    rw [h3 i hi]
    refine congrArg (fun b => some (Value.bool b)) (decide_eq_decide.2 ?_)
    rw [List.mem_append, List.mem_singleton]
    exact ⟨.inl, fun h => h.resolve_right (by omega)⟩
theorem info_bool : (Try.prog.info? 4).map (fun i => (i.zero, i.size, i.bytes)) = some (some (.bool false), 1, 1) := by kernel_rfl
theorem make_bools (w : World) : (Instr.makeSlice 81 (.int .i64 72001) (.int .i64 72001)).run Try.prog w = .ok (.slice (some ⟨w.heap.size, 0, none⟩) 72001 72001) (w.alloc (.cells (madeCells #[.bool false] 72001) 4)) := by
  obtain ⟨i, hi, hz, hs, hb⟩ := info_parts info_bool
  have hr := run_make (P := Try.prog) w 81 4 i (.bool false) Try.underlying81 hi hz .i64 .i64 72001 72001 (by omega) (Int.le_refl _) (by rw [hb]; omega) (by omega)
  rw [hr, hs]
  rfl
theorem bools_new (w : World) : BoolRow (w.alloc (.cells (madeCells #[.bool false] 72001) 4)) w.heap.size [] := by
  refine ⟨(madeCells (#[Value.bool false]) 72001).toList, ?_, ?_, fun j hj => ?_⟩
  · have := Blk.new w 4 (madeCells #[.bool false] 72001).toList
    rwa [Array.toArray_toList] at this
  · rw [Array.length_toList]
    unfold madeCells
    rw [Array.size_map, Array.size_range]
  · have := made_rep (.bool false) 1 72001 j (by omega) hj
    simpa using this

theorem reached_any {n₀ : Nat} (a : Option Addr) (c : Nat) (l : List Pc) (n : Nat) (w : World) (hI : PcsAt n₀ w a l) (_hn : n₀ ≤ w.heap.size) (hok : ∀ p ∈ l, PcOk p) (hl : l.length ≤ 20) (hn2 : n ≤ l.length) :
    Calls Try.prog 48 #[.slice a l.length c, .int .i64 (n : Int)] w fun e w' => ∃ B, e = .returned (.slice (some ⟨B, 0, none⟩) 72001 72001) ∧ BoolRow w' B (reachS (l.take n) [0]) ∧ Upd [] w w' := by
  have HI := hide hI
  have HOK := hide hok
  have HBD := hide (reachS_bound hok)
  obtain ⟨len, hz⟩ : ∃ len, l.length = len := ⟨_, rfl⟩
  rw [hz] at hl hn2 ⊢
  have HZ := hide hz
  have hmk := make_bools
  have hkn := bools_new
  obtain ⟨K, hK⟩ : ∃ K, madeCells (#[Value.bool false]) 72001 = K := ⟨_, rfl⟩
  rw [hK] at hmk hkn
  have HKN := hide hkn
  have b0 := fun W => ((hkn W).cell (j := 0) (by omega)).1
  have b1 := fun W => ((hkn W).cell (j := 0) (by omega)).2
  clear hkn hK hz hI hok
  go_enter Try.func48, Try.ntmps48
  go_wp2_with fail
  have s0 := (HKN.out w).put (j := 0) (by omega)
  rw [World.setCell_alloc_at _ _ _ _ _ rfl] at s0
  have S0 := hide s0
  have V0 := hide ((Upd.refl [] w).alloc (.cells (K.setIfInBounds 0 (.bool true)) 4))
  clear s0
  go_loopw [5, 6] (fun s5 s6 wr => ∃ (i B : Nat), i ≤ n ∧ s6 = .int .i64 i ∧ s5 = .slice (some ⟨B, 0, none⟩) 72001 72001 ∧ Hid (w.heap.size ≤ B) ∧ Hid (Upd [] w wr) ∧ Hid (BoolRow wr B (reachS (l.take i) [0]))) (fun _ i _ => n - (intOf i).toNat)
  case atStart => exact ⟨0, w.heap.size, Nat.zero_le _, rfl, rfl, Nat.le_refl _, V0.out, S0.out⟩
  case round =>
    obtain ⟨i, B, hi, rfl, rfl, hB, hu, hrow⟩ := hrel
    obtain ⟨wo, rfl⟩ : ∃ wo : World, wo = wr := ⟨_, rfl⟩
    by_cases hlt : i < n
    · obtain ⟨p, hp⟩ : ∃ p, l[i]? = some p := ⟨_, List.getElem?_eq_getElem (by have := HZ.out; omega)⟩
      have hpk := HOK.out p (List.mem_of_getElem? hp)
      obtain ⟨b, o, pa, pn, pc, ea, hb, hI1, hpm, c0, c1, c2⟩ := HI.out i p hp
      subst ea
      obtain ⟨L, hL⟩ : ∃ L, reachS (l.take i) [0] = L := ⟨_, rfl⟩
      have HSUC := hide (show reachS (l.take (i + 1)) [0] = nextS p L by rw [reachS_take hp, hL])
      have HLB := hide (show ∀ x ∈ L, 0 ≤ x ∧ x ≤ 68400 from fun x hx => by
        rw [← hL] at hx
        have := HBD.out i (by have := HZ.out; omega) x hx
        omega)
      rw [hL] at hrow
      have HROW := hide hrow.out
      have HC0 := hide (show ∀ W, Upd [] w W → W.cell? ⟨b, o + i * 3, none⟩ = some (.slice pa pn pc) ∧ W.cell? ⟨b, o + i * 3 + 2, none⟩ = some (.int .i64 p.join) from fun W hW => ⟨keep_cell _ _ _ _ hW c0, keep_cell _ _ _ _ hW c2⟩)
      have HPN := hide hI1.form.1
      have HPC := hide (show ∀ j z, p.lens[j]? = some z → ∃ b o, pa = some ⟨b, o, none⟩ ∧ ∀ W, Upd [] w W → W.cell? ⟨b, o + j, none⟩ = some (.int .i64 z) from fun j z hz => by
        obtain ⟨b2, o2, e2, h2, h3⟩ := hI1.form.2 j z hz
        exact ⟨b2, o2, e2, fun W hW => keep_cell _ _ _ _ hW h3⟩)
      have HPK := hide hpk
      have hpn8 : pn ≤ 8 := by have := hpk.1.2; have := hI1.form.1; omega
      have hin : (i : Int) < n := by omega
      have hil : (i : Int) < len := by omega
      clear hp hpk hb hI1 hpm c0 c1 c2 hL hrow
      go_wp2_with fail
      have S1 := hide (HKN.out wo)
      have V1 := hide (hu.out.alloc (.cells K 4))
      have R1 := hide (HROW.out.upd ((Upd.refl [] wo).alloc (.cells K 4)) (by simp))
      obtain ⟨G, hG⟩ : ∃ G, wo.heap.size = G := ⟨_, rfl⟩
      have HG := hide (show w.heap.size ≤ G ∧ B ≠ G from ⟨by rw [← hG]; exact hu.out.size, by have := HROW.out.lt; omega⟩)
      rw [hG] at S1 ⊢
      clear hG
      go_loopw [8] (fun s8 wr2 => ∃ k : Nat, k ≤ 72001 ∧ s8 = .int .i64 k ∧ Hid (Upd [] w wr2) ∧ Hid (BoolRow wr2 B L) ∧ Hid (BoolRow wr2 G (nextS p (memb L k)))) (fun k _ => 72001 - (intOf k).toNat)
      case atStart => exact ⟨0, Nat.zero_le _, rfl, V1.out, R1.out, S1.out⟩
      case round =>
        obtain ⟨k, hk, rfl, hv, hr, hg⟩ := hrel
        obtain ⟨wm, rfl⟩ : ∃ wm : World, wm = wr := ⟨_, rfl⟩
        by_cases hkl : k < 72001
        · have hki : (k : Int) ≤ 72000 := by omega
          have hki' : (k : Int) < 72001 := by omega
          have f0 := (HC0.out wm hv.out).1
          have f1 := (HC0.out wm hv.out).2
          have f2 := (hr.out.cell hkl).1
          by_cases hm : (k : Int) ∈ L
          · rw [decide_eq_true hm] at f2
            have HM := hide hm
            clear hm
            by_cases hmt : meetsS p (k : Int) = true
            · have HSN := hide (show nextS p (memb L (k + 1)) = nextS p (memb L k) ++ p.lens.map (fun z => (k : Int) + z) by rw [memb_yes HM.out, nextS_append, nextS_one_yes hmt])
              have hpj : p.join < 0 ∨ p.join = (k : Int) := by
                unfold meetsS at hmt
                simpa using hmt
              clear hmt
              have INNER : ∀ (Q : Prop), True := fun _ => trivial
              by_cases hj0 : p.join < 0
              · have hj1 : ¬ 0 ≤ p.join := by omega
                clear hpj INNER
                go_wp2_with fail
                go_loopw [9] (fun s9 wr3 => ∃ q : Nat, q ≤ pn ∧ s9 = .int .i64 q ∧ Hid (Upd [] w wr3) ∧ Hid (BoolRow wr3 B L) ∧ Hid (BoolRow wr3 G (nextS p (memb L k) ++ (p.lens.take q).map (fun z => (k : Int) + z)))) (fun q _ => pn - (intOf q).toNat)
                case atStart => exact ⟨0, Nat.zero_le _, rfl, hv, hr, by rw [List.take_zero, List.map_nil, List.append_nil]; exact hg.out⟩
                case round =>
                  obtain ⟨q, hq, rfl, hv, hr, hg⟩ := hrel
                  obtain ⟨wi, rfl⟩ : ∃ wi : World, wi = wr := ⟨_, rfl⟩
                  have g0 := (HC0.out wi hv.out).1
                  by_cases hql : q < pn
                  · obtain ⟨z, hz⟩ : ∃ z, p.lens[q]? = some z := ⟨_, List.getElem?_eq_getElem (by have := HPN.out; omega)⟩
                    obtain ⟨pb, po, eb, hzc⟩ := HPC.out q z hz
                    subst eb
                    have g1 := hzc wi hv.out
                    have hzb := len_ok HPK.out (List.mem_of_getElem? hz)
                    have hkb := HLB.out _ HM.out
                    obtain ⟨y, hy⟩ : ∃ y : Nat, (k : Int) + z = (y : Int) := ⟨((k : Int) + z).toNat, by omega⟩
                    have hw : IntKind.i64.wrap ((k : Int) + z) = (y : Int) := by rw [Go.IntWalk.i64_in _ (by omega)]; exact hy
                    have hyl : y < 72001 := by omega
                    have hyl' : (y : Int) < 72001 := by omega
                    have g2 := (hg.out.cell hyl).1
                    have g3 := (hg.out.cell hyl).2
                    have hqi : (q : Int) < pn := by omega
                    have HTK := hide (show (p.lens.take (q + 1)).map (fun z => (k : Int) + z) = (p.lens.take q).map (fun z => (k : Int) + z) ++ [(y : Int)] by
                      rw [List.take_add_one, hz, List.map_append]
                      show _ ++ [(k : Int) + z] = _
                      rw [hy])
                    have V2 := hide (hv.out.setCell (p := ⟨G, y, none⟩) (.inr HG.out.1) (.bool true))
                    have R2 := hide (hr.out.far (j := y) HG.out.2 (.bool true))
                    have G2 := hide (hg.out.put hyl)
                    clear hz hzc hy hzb hkb
                    go_wp2_with fail
                    go_roundw
                    case rel => exact ⟨q + 1, by omega, by go_num, V2.out, R2.out, by rw [HTK.out, ← List.append_assoc]; exact G2.out⟩
                    case measure => simp [intOf] <;> omega
                  · have hqi : ¬ (q : Int) < pn := by omega
                    have G3 := hide (show BoolRow wi G (nextS p (memb L (k + 1))) by
                      have h := hg.out
                      rwa [List.take_of_length_le (by have := HPN.out; omega), ← HSN.out] at h)
                    go_wp2_with fail
                    go_roundw
                    case rel => exact ⟨k + 1, by omega, by go_num, hv, hr, G3.out⟩
                    case measure => simp [intOf] <;> omega
              · have hj1 : 0 ≤ p.join := by omega
                have hj2 : p.join = (k : Int) := hpj.resolve_left hj0
                rw [hj2] at f1
                have hj3 : 0 ≤ (k : Int) := by omega
                clear hpj INNER hj2 hj0 hj1
                go_wp2_with fail
                go_loopw [9] (fun s9 wr3 => ∃ q : Nat, q ≤ pn ∧ s9 = .int .i64 q ∧ Hid (Upd [] w wr3) ∧ Hid (BoolRow wr3 B L) ∧ Hid (BoolRow wr3 G (nextS p (memb L k) ++ (p.lens.take q).map (fun z => (k : Int) + z)))) (fun q _ => pn - (intOf q).toNat)
                case atStart => exact ⟨0, Nat.zero_le _, rfl, hv, hr, by rw [List.take_zero, List.map_nil, List.append_nil]; exact hg.out⟩
                case round =>
                  obtain ⟨q, hq, rfl, hv, hr, hg⟩ := hrel
                  obtain ⟨wi, rfl⟩ : ∃ wi : World, wi = wr := ⟨_, rfl⟩
                  have g0 := (HC0.out wi hv.out).1
                  by_cases hql : q < pn
                  · obtain ⟨z, hz⟩ : ∃ z, p.lens[q]? = some z := ⟨_, List.getElem?_eq_getElem (by have := HPN.out; omega)⟩
                    obtain ⟨pb, po, eb, hzc⟩ := HPC.out q z hz
                    subst eb
                    have g1 := hzc wi hv.out
                    have hzb := len_ok HPK.out (List.mem_of_getElem? hz)
                    have hkb := HLB.out _ HM.out
                    obtain ⟨y, hy⟩ : ∃ y : Nat, (k : Int) + z = (y : Int) := ⟨((k : Int) + z).toNat, by omega⟩
                    have hw : IntKind.i64.wrap ((k : Int) + z) = (y : Int) := by rw [Go.IntWalk.i64_in _ (by omega)]; exact hy
                    have hyl : y < 72001 := by omega
                    have hyl' : (y : Int) < 72001 := by omega
                    have g2 := (hg.out.cell hyl).1
                    have g3 := (hg.out.cell hyl).2
                    have hqi : (q : Int) < pn := by omega
                    have HTK := hide (show (p.lens.take (q + 1)).map (fun z => (k : Int) + z) = (p.lens.take q).map (fun z => (k : Int) + z) ++ [(y : Int)] by
                      rw [List.take_add_one, hz, List.map_append]
                      show _ ++ [(k : Int) + z] = _
                      rw [hy])
                    have V2 := hide (hv.out.setCell (p := ⟨G, y, none⟩) (.inr HG.out.1) (.bool true))
                    have R2 := hide (hr.out.far (j := y) HG.out.2 (.bool true))
                    have G2 := hide (hg.out.put hyl)
                    clear hz hzc hy hzb hkb
                    go_wp2_with fail
                    go_roundw
                    case rel => exact ⟨q + 1, by omega, by go_num, V2.out, R2.out, by rw [HTK.out, ← List.append_assoc]; exact G2.out⟩
                    case measure => simp [intOf] <;> omega
                  · have hqi : ¬ (q : Int) < pn := by omega
                    have G3 := hide (show BoolRow wi G (nextS p (memb L (k + 1))) by
                      have h := hg.out
                      rwa [List.take_of_length_le (by have := HPN.out; omega), ← HSN.out] at h)
                    go_wp2_with fail
                    go_roundw
                    case rel => exact ⟨k + 1, by omega, by go_num, hv, hr, G3.out⟩
                    case measure => simp [intOf] <;> omega
            · have HSN := hide (show nextS p (memb L (k + 1)) = nextS p (memb L k) by
                rw [memb_yes HM.out, nextS_append, nextS_one_no (by simpa using hmt), List.append_nil])
              have hpj : 0 ≤ p.join ∧ ¬ p.join = (k : Int) := by
                unfold meetsS at hmt
                simp at hmt
                omega
              obtain ⟨hpj1, hpj2⟩ := hpj
              obtain ⟨jn, hjn⟩ : ∃ jn, p.join = jn := ⟨_, rfl⟩
              rw [hjn] at f1 hpj1 hpj2
              have hjb : (jn != (k : Int)) = true := by simpa using hpj2
              clear hmt hjn hpj2
              go_wp2_with fail
              go_roundw
              case rel => exact ⟨k + 1, by omega, by go_num, hv, hr, by rw [HSN.out]; exact hg.out⟩
              case measure => simp [intOf] <;> omega
          · rw [decide_eq_false hm] at f2
            have HSN := hide (show nextS p (memb L (k + 1)) = nextS p (memb L k) by rw [memb_no hm])
            clear hm
            go_wp2_with fail
            go_roundw
            case rel => exact ⟨k + 1, by omega, by go_num, hv, hr, by rw [HSN.out]; exact hg.out⟩
            case measure => simp [intOf] <;> omega
        · have hki : ¬ (k : Int) ≤ 72000 := by omega
          have hk72 : k = 72001 := by omega
          have hg1 := hg.out
          rw [hk72] at hg1
          clear hk72
          have G1 := hide (hg1.same (nextS_same (p := p) (fun x => memb_mem (L := L) (fun x hx => by have := HLB.out x hx; omega) x)))
          clear hg1
          go_wp2_with fail
          go_roundw
          case rel => exact ⟨i + 1, G, by omega, by go_num, rfl, HG.out.1, hv, by rw [HSUC.out]; exact G1.out⟩
          case measure => simp [intOf] <;> omega
    · obtain rfl : i = n := by omega
      have hin : ¬ (i : Int) < i := by omega
      go_wp2_with fail
      go_ret
      exact ⟨B, rfl, hrow.out, hu.out⟩
end Go.Proofs.Yteehjciepccomaa
