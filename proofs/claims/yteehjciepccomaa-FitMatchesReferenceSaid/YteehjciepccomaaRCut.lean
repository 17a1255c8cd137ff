/-
  The law's cut: the first pieces of a list that came in, with their first lengths.
-/
import Derived.Test.YteehjciepccomaaREnt
namespace Go.Proofs.Yteehjciepccomaa
open Go.RowKit
set_option maxRecDepth 100000
set_option maxHeartbeats 20000000

/-- Pieces that came in. -/
def RawAt (W : World) (a : Option Addr) (l : List Pc) : Prop := ∀ i p, l[i]? = some p → ∃ b o pa pn pc, a = some ⟨b, o, none⟩ ∧ b < W.heap.size ∧ IntsArg W pa pn pc p.lens ∧
  W.cell? ⟨b, o + i * 3, none⟩ = some (.slice pa pn pc) ∧ W.cell? ⟨b, o + i * 3 + 1, none⟩ = some (.int .i64 p.want) ∧ W.cell? ⟨b, o + i * 3 + 2, none⟩ = some (.int .i64 p.join)

theorem cut_any (W0 : World) (a : Option Addr) (n c : Nat) (l : List Pc) (w : World) (hR : RawAt W0 a l) (hu : Upd [] W0 w) (hl : l.length = n) :
    Calls Try.prog 14 #[.slice a n c] w fun e w' => ∃ (A : Option Addr) (len cap : Nat) (l' : List Pc), e = .returned (.slice A len cap) ∧ l'.length = len ∧ len ≤ 4 ∧ len ≤ cap ∧ PcsAt w'.heap.size w' A l' ∧ Upd [] w w' := by
  have HR := hide hR
  have HU0 := hide hu
  have HL := hide hl
  clear hR hu hl
  go_enter Try.func14, Try.ntmps14
  go_wp2_with fail
  go_loopw [3, 4] (fun s3 s4 wr => ∃ (k : Nat) (A : Option Addr) (cap : Nat) (es : List (Value × Pc)), k ≤ n ∧ k ≤ 4 ∧ s4 = .int .i64 k ∧ s3 = .slice A k cap ∧ Hid (es.length = k) ∧ Hid (EntAt W0.heap.size wr es) ∧ Hid (wr.ownsRow w.heap.size 50 3 (.slice A k cap) k (entCells es)) ∧ Hid (Upd [] w wr)) (fun _ k _ => 4 - (intOf k).toNat)
  case atStart => exact ⟨0, none, 0, [], Nat.zero_le _, Nat.zero_le _, rfl, rfl, rfl, fun e he => (by simp at he), World.ownsRow_nil _ _ _ _, Upd.refl _ _⟩
  case round =>
    obtain ⟨k, A, cap, es, hk, hk4, rfl, rfl, hes, hE, hrow, hu⟩ := hrel
    obtain ⟨wo, rfl⟩ : ∃ wo : World, wo = wr := ⟨_, rfl⟩
    by_cases hgo : k < n ∧ k < 4
    · obtain ⟨hkn, hk5⟩ := hgo
      obtain ⟨p, hp⟩ : ∃ p, l[k]? = some p := ⟨_, List.getElem?_eq_getElem (by have := HL.out; omega)⟩
      obtain ⟨b, o, pa, pn, pc, ea, hb, hIA, c0, c1, c2⟩ := HR.out k p hp
      subst ea
      have hu0 := HU0.out.trans hu.out (by simp)
      have k0 := keep_cell _ _ _ _ hu0 c0
      have k1 := keep_cell _ _ _ _ hu0 c1
      have k2 := keep_cell _ _ _ _ hu0 c2
      have hki : (k : Int) < n := by omega
      have hki4 : (k : Int) < 4 := by omega
      have L1 := Blk.new wo 50 [.slice pa pn pc, .int .i64 p.want, .int .i64 p.join]
      have x0 := L1.cell 0
      have x1 := L1.cell 1
      have x2 := L1.cell 2
      have x3 := L1.frozen 0
      have hI0 : Ints W0.heap.size W0 (.slice pa pn pc) p.lens := by
        have := hIA.ints pn (Nat.le_refl _) pc
        rwa [List.take_of_length_le (by have := hIA.1; omega)] at this
      have U1 := hu0.alloc (.cells #[.slice pa pn pc, .int .i64 p.want, .int .i64 p.join] 50)
      have FW := few_any (n₀ := W0.heap.size) pa pn pc 9 p.lens (wo.alloc (.cells #[.slice pa pn pc, .int .i64 p.want, .int .i64 p.join] 50)) (hI0.upd U1 (Nat.le_refl _) (by simp)) hIA.2.1 hIA.2.2.1 (by omega)
      have HF := hide FW
      have HSW := hide (show w.heap.size ≤ wo.heap.size from hu.out.size)
      have HS0 := hide hu0.size
      clear hp hb hIA c0 c1 c2 hI0 FW L1 hu0 U1
      go_wp2_with fail
      refine HF.out.mono ?_
      rintro e w' ⟨m, c', rfl, hm9, hmn, hmc, hcc, hIm, rfl⟩
      have L2 := Blk.new wo 50 [.slice pa m c', .int .i64 p.want, .int .i64 p.join]
      have y0 := L2.cell 0
      have y1 := L2.cell 1
      have y2 := L2.cell 2
      have UA := hide ((Upd.refl [] wo).alloc (.cells #[.slice pa m c', .int .i64 p.want, .int .i64 p.join] 50))
      have HIM := hide hIm
      have hIm2 : Ints W0.heap.size wo (.slice pa m c') (p.lens.take m) := by
        refine Ints.of hIm.form.1 fun j z hz => ?_
        obtain ⟨b2, o2, e2, h2, h3⟩ := hIm.form.2 j z hz
        refine ⟨b2, o2, e2, h2, ?_⟩
        rwa [(((Upd.refl [] wo).alloc (.cells #[.slice pa pn pc, .int .i64 p.want, .int .i64 p.join] 50)).cell (p := ⟨b2, o2 + j, none⟩) (Nat.lt_of_lt_of_le h2 HS0.out) (by simp))] at h3
      have HI2 := hide hIm2
      have O1 := hide (show ∀ u ∈ [Value.slice pa m c', .int .i64 p.want, .int .i64 p.join], u.oneCell' = true by intro u hu; simp at hu; rcases hu with rfl | rfl | rfl <;> rfl)
      have O3 := hide (show k + 1 ≤ maxLen by unfold maxLen; omega)
      have O4 := hide (show (k + 1) * 40 ≤ 140737488355328 by omega)
      have OB := hide ((hrow.out.alloc (.cells #[.slice pa m c', .int .i64 p.want, .int .i64 p.join] 50)).alloc (.cells #[.slice pa m c', .int .i64 p.want, .int .i64 p.join] 50))
      have hra : ∀ g ∈ (A.map (·.block)).toList, w.heap.size ≤ g := fun g hg => (row_lt hrow.out g (by rw [ownBlock_slice]; simpa using hg)).1
      have HRA := hide hra
      have CN := hide (show ∀ j u, [Value.slice pa m c', .int .i64 p.want, .int .i64 p.join][j]? = some u → ((wo.alloc (.cells #[.slice pa m c', .int .i64 p.want, .int .i64 p.join] 50)).alloc (.cells #[.slice pa m c', .int .i64 p.want, .int .i64 p.join] 50)).cell? ((⟨wo.heap.size + 1, 0, none⟩ : Addr).add j) = some u from fun j u hj => by
        have := cell_three_new (wo.alloc (.cells #[.slice pa m c', .int .i64 p.want, .int .i64 p.join] 50)) _ _ _ 50 j u hj
        rwa [World.size_alloc] at this)
      clear L2 hIm hIm2 hra
      go_wp2_with (at_builtin; refine wpList_append_base rfl (.tmp 24) (.tmp 26) _ rfl w.heap.size 50 _ 3 40 Try.underlying22 info_piece rfl (by decide) A k cap (entCells es) rfl OB.out ⟨wo.heap.size + 1, 0, none⟩ 1 1 [.slice pa m c', .int .i64 p.want, .int .i64 p.join] rfl rfl CN.out O1.out O3.out O4.out (by have := HSW.out; simp; omega) ?_; intro A5 c5 w9 h9 u9 a9; have H9 := hide h9; have U9 := hide u9; clear h9 u9 a9)
      have UB := hide (UA.out.alloc (.cells #[.slice pa m c', .int .i64 p.want, .int .i64 p.join] 50))
      have V1 := hide (show Upd [] w w9 from (hu.out.trans UB.out (by simp)).trans U9.out (fun g hg => .inr (HRA.out g hg)))
      have E1 := hide (EntAt.snoc (e := (Value.slice pa m c', ⟨p.lens.take m, p.want, p.join⟩)) hE.out rfl HI2.out (by have := HI2.out.form.1; show (p.lens.take m).length ≤ maxLen; unfold maxLen; omega))
      have E2 := hide ((E1.out.upd UB.out HS0.out (by simp)).upd U9.out (Nat.le_trans HS0.out UB.out.size) (fun g hg => Nat.le_trans HU0.out.size (HRA.out g hg)))
      have R9 := hide (show w9.ownsRow w.heap.size 50 3 (.slice A5 (k + 1) c5) (k + 1) (entCells (es ++ [(Value.slice pa m c', ⟨p.lens.take m, p.want, p.join⟩)])) by rw [entCells_snoc]; exact H9.out)
      go_wp2_with fail
      go_roundw
      case rel => exact ⟨k + 1, A5, c5, es ++ [(Value.slice pa m c', ⟨p.lens.take m, p.want, p.join⟩)], by omega, by omega, by go_num, rfl, hide (by rw [List.length_append, hes.out]; rfl), E2, R9, V1⟩
      case measure => simp [intOf] <;> omega
    · have hN := hide (ent_row hrow.out hes.out hE.out (Nat.le_trans HU0.out.size hu.out.size))
      by_cases hkn : k < n
      · have hki : (k : Int) < n := by omega
        have hki4 : ¬ (k : Int) < 4 := by omega
        clear hgo
        go_wp2_with fail
        go_ret
        exact ⟨A, k, cap, rfl, es.map (·.2), by rw [List.length_map]; exact hes.out, hk4, hN.out.2, hN.out.1, hu.out⟩
      · have hki : ¬ (k : Int) < n := by omega
        clear hgo
        go_wp2_with fail
        go_ret
        exact ⟨A, k, cap, rfl, es.map (·.2), by rw [List.length_map]; exact hes.out, hk4, hN.out.2, hN.out.1, hu.out⟩
end Go.Proofs.Yteehjciepccomaa
