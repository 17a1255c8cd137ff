/-
  The reference's Visible, Sync, Read.
-/
import Derived.Test.YthjcgaahnpbcdaaRefC
import Derived.Test.YthjcgaahnpbcdaaMem2
namespace Go.Proofs.Ythjcgaahnpbcdaa
open Go.RowKit
set_option maxRecDepth 100000
set_option maxHeartbeats 1000000

theorem chg_cell {w : World} {gp n c : Nat} {s : Option Nat} {o : Nat} {l : List (Nat × List UInt8)} {j : Nat} {u : Value} (h : w.ownsRow 0 80 2 (.slice (some ⟨gp, o, s⟩) n c) n (pCells l)) (hu : (pCells l)[j]? = some u) : w.cell? ⟨gp, j, none⟩ = some u ∧ o = 0 ∧ s = none := by
  rcases h.2 with ⟨hv, h0⟩ | ⟨g, cap, cur, hv, _⟩
  · simp at hv
  · obtain ⟨⟨rfl, rfl, rfl⟩, rfl⟩ : (gp = g ∧ o = 0 ∧ s = none) ∧ c = cap := by simpa using hv
    refine ⟨?_, rfl, rfl⟩
    have := World.ownsRow.cells h (g := gp) rfl j u (by simpa using hu)
    have e : (⟨gp, 0, none⟩ : Addr).add j = ⟨gp, j, none⟩ := by unfold Addr.add; split <;> simp_all
    first | exact this | (rw [e] at this; exact this)
theorem chg_form {w : World} {n c : Nat} {A : Option Addr} {l : List (Nat × List UInt8)} (h : w.ownsRow 0 80 2 (.slice A n c) n (pCells l)) (hn : 0 < n) : ∃ gp, A = some ⟨gp, 0, none⟩ := by
  rcases h.2 with ⟨hv, h0⟩ | ⟨g, cap, cur, hv, _⟩
  · omega
  · obtain ⟨rfl, rfl⟩ : A = some ⟨g, 0, none⟩ ∧ c = cap := by simpa using hv
    exact ⟨g, rfl⟩

theorem refVisible {F : List Nat} {g gd cs c : Nat} {r : List Value} {A : Option Addr} {D : DiskS} (w : World) (h : IsRefAt w F g gd cs r A c D) (hp : D.pend.length ≤ 1000000000) :
    Calls Try.prog 34 #[.pointer (some ⟨g, 0, none⟩)] w fun e w' => ∃ gb cb rb, e = .returned (.slice (some ⟨gb, 0, none⟩) D.sure.length cb) ∧ w.heap.size ≤ gb ∧ Blk w' gb 5 (bCells (puts D.sure D.pend) ++ rb) ∧ D.sure.length + rb.length = cb ∧ cb ≤ maxLen ∧ Upd [] w w' := by
  have c0 : w.cell? ⟨g, 0, none⟩ = some (.slice (some ⟨gd, 0, none⟩) D.sure.length cs) := h.head.cell 0
  have c1 : w.cell? ⟨g, 1, none⟩ = some (.slice A D.pend.length c) := h.head.cell 1
  have H := hide h
  have hgl := h.head.lt
  have O1 := hide (show World.ownsRow (w.alloc (.cells #[] 5)) w.heap.size 5 1 (.slice (some ⟨w.heap.size, 0, none⟩) 0 0) 0 [] from ⟨rfl, .inr ⟨w.heap.size, 0, #[], rfl, Nat.le_refl _, heap_alloc_new w _, Nat.le_refl _, Nat.zero_le _, rfl, rfl⟩⟩)
  have HC := hide (show ∀ j u, (bCells D.sure)[j]? = some u → (w.alloc (.cells #[] 5)).cell? ((⟨gd, 0, none⟩ : Addr).add j) = some u by
    intro j u hj
    have e : (⟨gd, 0, none⟩ : Addr).add j = ⟨gd, j, none⟩ := by unfold Addr.add; split <;> simp_all
    rw [e, (h.sure.alloc _).cell, List.getElem?_append_left (List.getElem?_eq_some_iff.1 hj).1]
    exact hj)
  have O2 := hide (bCells_one D.sure)
  have hmx := h.ok.max
  obtain ⟨n, En⟩ : ∃ n, Hid (D.sure.length = n) := ⟨_, rfl⟩
  obtain ⟨m, Em⟩ : ∃ m, Hid (D.pend.length = m) := ⟨_, rfl⟩
  rw [En.out] at c0
  rw [Em.out] at c1
  rw [En.out]
  rw [En.out] at hmx
  rw [Em.out] at hp
  have O3 := hide (show 0 + n ≤ maxLen by unfold maxLen; omega)
  have O4 := hide (show (0 + n) * 1 ≤ 140737488355328 by omega)
  have O5 := hide (show (bCells D.sure).length = n * 1 by rw [bCells_length, En.out]; omega)
  clear h
  go_enter Try.func34, Try.ntmps34
  go_wp2_with (at_builtin; refine wpList_append_base rfl (.tmp 5) (.tmp 9) _ rfl w.heap.size 5 _ 1 1 Try.underlying40 info_byte rfl (by decide) (some ⟨w.heap.size, 0, none⟩) 0 0 [] rfl O1.out ⟨gd, 0, none⟩ n cs (bCells D.sure) rfl O5.out HC.out O2.out O3.out O4.out (by simp) ?_; intro A' c' w1 h1 u1 a1; have H1 := hide h1; have U1 := hide u1; clear h1 u1 a1)
  have h1 := H1.out
  simp only [Nat.zero_add, List.nil_append] at h1 ⊢
  obtain ⟨gb, rb, rfl, hgb, hbl, _, hrb, hcb⟩ := own_open h1 (by have := H.out.ok.pos; have := En.out; omega)
  have U01 := hide (((Upd.refl [] w).alloc (.cells #[] 5)).trans U1.out (by simp))
  have HB := hide hbl
  have HR := hide (show n + rb.length = c' ∧ c' ≤ maxLen from ⟨hrb, hcb⟩)
  clear h1 hbl hrb hcb H1 U1
  go_loopw [4] (fun i wr => ∃ k : Nat, k ≤ m ∧ i = .int .i64 k ∧ Upd [] w wr ∧ Blk wr gb 5 (bCells (puts D.sure (D.pend.take k)) ++ rb))
    (fun i _ => m - (intOf i).toNat)
  case atStart => exact ⟨0, Nat.zero_le _, rfl, U01.out, HB.out⟩
  case round =>
    obtain ⟨k, hk, rfl, hu, hg⟩ := hrel
    have HU := hide hu
    have HG := hide hg
    have j1 : wr.cell? ⟨g, 1, none⟩ = some (.slice A m c) := by rw [(H.out.head.upd hu (by simp)).cell 1, ← Em.out]; rfl
    clear hu hg
    by_cases hlt : k < m
    · obtain ⟨gp, rfl⟩ := chg_form H.out.pend (by rw [Em.out]; omega)
      obtain ⟨p, hpk⟩ : ∃ p, D.pend[k]? = some p := ⟨_, List.getElem?_eq_getElem (by rw [Em.out]; exact hlt)⟩
      obtain ⟨po, ps⟩ := p
      have hpe := own_kept H.out.pend HU.out (by simp)
      have q0 := (chg_cell hpe (pCells_get D.pend hpk).1).1
      have q1 := (chg_cell hpe (pCells_get D.pend hpk).2).1
      simp only at q0 q1
      have hpf := H.out.ok.fits (po, ps) (List.mem_of_getElem? hpk)
      have HPK := hide hpk
      have hln : (puts D.sure (D.pend.take k)).length = n := by
        rw [puts_length _ _ (fun x hx => H.out.ok.fits x (List.mem_of_mem_take hx)), En.out]
      have AP := hide (apply_any (off := po) (c := c') ⟨ps.toArray⟩ _ rb wr.drew HG.out hln (by simp only at hpf; show po + ps.toArray.size ≤ n; rw [← En.out]; simpa using hpf) hmx)
      clear hpk hpe hpf hln
      go_wp2_with fail
      go_still_tail 17, (by kernel_rfl)
      change wpList _ _ _ _ _ wr.drew
      go_wp2_with fail
      refine AP.out.mono ?_
      rintro e w5 ⟨rfl, g5, u5⟩
      have U5 := hide (HU.out.drew.trans u5 (by intro x hx; simp at hx; subst hx; exact .inr hgb))
      have G5 := hide (show Blk w5 gb 5 (bCells (puts D.sure (D.pend.take (k + 1))) ++ rb) by rw [puts_snoc _ _ HPK.out]; exact g5)
      clear g5 u5 AP
      go_wp2_with fail
      go_roundw
      case rel => exact ⟨k + 1, by omega, by go_num, U5.out, G5.out⟩
      case measure => simp [intOf] <;> omega
    · obtain rfl : k = m := by omega
      go_wp2_with fail
      go_ret
      refine ⟨gb, _, rb, rfl, hgb, ?_, HR.out.1, HR.out.2, HU.out⟩
      have := HG.out
      rwa [List.take_of_length_le (by rw [Em.out]; exact Nat.le_refl _)] at this

theorem refSync {F : List Nat} {g : Nat} {D : DiskS} (w : World) (h : IsRef w F g D) (hp : D.pend.length ≤ 1000000000) (hs : D.vis = puts D.sure D.pend) :
    Calls Try.prog 31 #[.pointer (some ⟨g, 0, none⟩)] w fun e w' => e = .returned (.int .i64 D.sync.2) ∧ MovedR F w w' g D.sync.1 := by
  obtain ⟨gd, cs, r, A, c, h⟩ := h
  cases ho : D.off with
  | true =>
    have hc : w.cell? ⟨g, 2, none⟩ = some (.bool true) := by rw [← ho]; exact h.head.cell 2
    have e2 : D.sync = (D, 331) := by simp [DiskS.sync, ho]
    rw [e2]
    have H := hide h
    clear h ho e2 hs hp
    go_enter Try.func31, Try.ntmps31
    go_wp2_with fail
    go_ret
    exact ⟨rfl, H.out.moved (Upd.refl _ _)⟩
  | false =>
    have hc : w.cell? ⟨g, 2, none⟩ = some (.bool false) := by rw [← ho]; exact h.head.cell 2
    have e2 : D.sync = (D.settled D.vis, 0) := by simp [DiskS.sync, ho]
    rw [e2]
    have VI := hide (refVisible w h hp)
    have H := hide h
    have HO := hide ho
    have HS := hide hs
    clear h ho e2 hs hp
    go_enter Try.func31, Try.ntmps31
    go_wp2_with fail
    refine VI.out.mono ?_
    rintro e w1 ⟨gb, cb, rb, rfl, hgb, hbl, hrb, hcb, hu⟩
    have b1 := H.out.head.upd hu (by simp)
    have k0 := b1.cell 0
    have k1 := b1.cell 1
    have f0 := b1.frozen 0
    have f1 := b1.frozen 1
    have HU := hide hu
    have B1 := hide b1
    have G1 := hide hbl
    have HR := hide (show D.sure.length + rb.length = cb ∧ cb ≤ maxLen from ⟨hrb, hcb⟩)
    have HGB := hide hgb
    clear hu b1 hbl hrb hcb hgb VI
    go_wp2_with fail
    go_ret
    have hh := (B1.out.set_ 0 (.slice (some ⟨gb, 0, none⟩) D.sure.length cb)).set_ 1 (.slice none 0 0)
    have ug : Upd [g] w1 ((w1.setCell ⟨g, 0, none⟩ (.slice (some ⟨gb, 0, none⟩) D.sure.length cb)).setCell ⟨g, 1, none⟩ (.slice none 0 0)) := ((Upd.refl [g] w1).setCell (.inl (by simp)) _).setCell (.inl (by simp)) _
    have hlen : D.vis.length = D.sure.length := H.out.ok.len
    have hne : gb ∉ [g] := by
      have := H.out.head.lt
      have := HGB.out
      simp
      omega
    refine ⟨rfl, [g, gb], ⟨gb, cb, rb, none, 0, ⟨?_, ?_, ?_, World.ownsRow_nil _ _ _ _, rfl, ?_⟩⟩, ?_, ?_⟩
    · show Blk _ g _ [.slice (some ⟨gb, 0, none⟩) D.vis.length cb, .slice none 0 0, .bool D.off, .int .i64 (D.left : Int)]
      rw [hlen]
      exact hh
    · show Blk _ gb _ (bCells D.vis ++ rb)
      rw [HS.out]
      exact G1.out.upd ug hne
    · show D.vis.length + rb.length = cb ∧ cb ≤ maxLen
      rw [hlen]
      exact HR.out
    · exact ⟨rfl, by show 1 ≤ D.vis.length; rw [hlen]; exact H.out.ok.pos, by show D.vis.length ≤ _; rw [hlen]; exact H.out.ok.max, by simp [DiskS.settled], H.out.ok.left⟩
    · exact ((HU.out.mono (by simp)).trans ug (by simp [H.out.fp]))
    · intro k hk
      simp at hk
      rcases hk with rfl | rfl
      · exact .inl (by simp [H.out.fp])
      · exact .inr HGB.out
end Go.Proofs.Ythjcgaahnpbcdaa
