/-
  aircheckref01.PutInt on small numbers.
-/
import Derived.Test.YtafjolibfbccbaaGreatDoorKLawF
import Derived.Test.YtafjolibfbccbaaGreatDoorMem2
namespace Go.Proofs.YtafjolibfbccbaaGreatDoor
open Go.RowKit Go.Shelf
set_option maxRecDepth 100000
set_option maxHeartbeats 20000000

theorem it_own_some {w : World} {base e size n c : Nat} {A : Option Addr} {xs : List Value} (h : w.ownsRow base e size (.slice A n c) n xs) (hn : 0 < n) : ∃ g cur, A = some ⟨g, 0, none⟩ ∧ base ≤ g ∧ w.heap[g]? = some (.cells cur e (0, 0)) := by
  rcases h.2 with ⟨_, h0⟩ | ⟨g, cap, cur, hv, hb, hg, _⟩
  · omega
  · obtain ⟨rfl, rfl⟩ : A = some ⟨g, 0, none⟩ ∧ c = cap := by simpa using hv
    exact ⟨g, cur, rfl, hb, hg⟩
theorem refZig (x : Nat) (w : World) (h : x ≤ 3600) :
    Calls Tryz.prog 86 #[.int .i64 x] w fun e w' => e = .returned (.int .u64 ((2 * x : Nat) : Int)) ∧ w = w' := by
  have h0 : ¬ (x : Int) < 0 := by omega
  have h0d : decide ((x : Int) < 0) = false := decide_eq_false h0
  have a1 : IntKind.u64.wrap (x : Int) = x := by rw [IntKind.wrap_u64]; omega
  obtain ⟨z, hz⟩ : ∃ z : Nat, 2 * x = z := ⟨_, rfl⟩
  have a2 : IntKind.u64.wrap ((x : Int) * 2) = (z : Int) := by rw [IntKind.wrap_u64]; omega
  rw [hz]
  clear hz h
  go_enter Tryz.func86, Tryz.ntmps86
  go_wp2_with fail
  go_ret
  exact ⟨rfl, rfl⟩
theorem put_conv (z : Nat) (base g c : Nat) (W : World) (hrow : W.ownsRow base 5 1 (.slice (some ⟨g, 0, none⟩) (groupsS z).length c) (groupsS z).length ((groupsS z).map gCell)) :
    (convert 39 9 (.slice (some ⟨g, 0, none⟩) (groupsS z).length c)).run Tryz.prog W = .ok (.string ⟨((groupsS z).map fun y => UInt8.ofNat (grpB y)).toArray⟩) W := by
  obtain ⟨bs, hbs⟩ : ∃ bs, ByteArray.mk ((groupsS z).map fun x => UInt8.ofNat (grpB x)).toArray = bs := ⟨_, rfl⟩
  have hsz : bs.size = (groupsS z).length := by rw [← hbs]; simp [ByteArray.size]
  have hby : Lib.Bytes W g 0 bs := fun i hi => by
    have h1 := putS_bytes z i (by rw [hbs]; exact hi)
    have h2 := World.ownsRow.cells hrow (g := g) rfl i _ h1
    have e : (⟨g, 0, none⟩ : Addr).add i = ⟨g, i, none⟩ := by unfold Addr.add; split <;> simp_all
    rw [e] at h2
    rw [Nat.zero_add, h2]
    subst hbs
    rfl
  have hconv := Lib.run_convert_whole (P := Tryz.prog) W 39 5 9 Tryz.underlying39 Tryz.underlying5 Tryz.underlying9 g 0 bs hby c
  rw [hsz] at hconv
  rw [hconv, hbs]
theorem refPutInt (x : Nat) (w : World) (h : x ≤ 3600) :
    Calls Tryz.prog 56 #[.int .i64 x] w fun e w' => e = .returned (.tuple #[.string ⟨(putS x).toArray⟩, .int .i64 0]) ∧ Upd [] w w' := by
  have d1 : ¬ (x : Int) < -4611686018427387903 := by omega
  have d2 : ¬ (4611686018427387903 : Int) < x := by omega
  have d3 : decide ((4611686018427387903 : Int) < x) = false := decide_eq_false d2
  obtain ⟨Z, hZ⟩ : ∃ Z : Nat, 2 * x = Z := ⟨_, rfl⟩
  have hp : putS x = (groupsS Z).map fun y => UInt8.ofNat (grpB y) := by
    unfold putS zigS
    rw [if_neg (by omega)]
    have : (2 * (x : Int)).toNat = Z := by omega
    rw [this]
  have ZG := hide (fun W => refZig x W h)
  rw [hp]
  have hZ9 : Z ≤ 7200 := by omega
  have HZ := hide hZ
  clear hp hZ
  go_enter Tryz.func56, Tryz.ntmps56
  go_wp2_with fail
  refine (ZG.out _).mono ?_
  rintro e w' ⟨rfl, rfl⟩
  rw [HZ.out]
  go_wp2_with fail
  go_loopw [4, 5] (fun s4 s5 wr => ∃ (z : Nat) (A : Option Addr) (n c : Nat) (pre : List (Nat × Bool)), z ≤ 7200 ∧ s4 = .int .u64 z ∧ s5 = .slice A n c ∧ n + z ≤ 7200 ∧ Hid (n = pre.length ∧ groupsS Z = pre ++ groupsS z) ∧ Hid (wr.ownsRow w.heap.size 5 1 (.slice A n c) n (pre.map gCell)) ∧ Hid (Upd [] w wr)) (fun z _ _ => (intOf z).toNat)
  case atStart => exact ⟨Z, none, 0, 0, [], hZ9, rfl, rfl, by omega, hide ⟨rfl, rfl⟩, hide (World.ownsRow_nil _ _ _ _), Upd.refl _ _⟩
  case round =>
    obtain ⟨z, A, n, c, pre, hz9, rfl, rfl, hn, hg, hown, hu⟩ := hrel
    obtain ⟨wo, rfl⟩ : ∃ wo : World, wo = wr := ⟨_, rfl⟩
    by_cases hz : 128 ≤ z
    · have hzi : (128 : Int) ≤ z := by omega
      obtain ⟨a, ha⟩ : ∃ a, z % 128 = a := ⟨_, rfl⟩
      obtain ⟨q, hq⟩ : ∃ q, z / 128 = q := ⟨_, rfl⟩
      obtain ⟨y, hy⟩ : ∃ y, a + 128 = y := ⟨_, rfl⟩
      have b1 : (z : Int).tmod 128 = (a : Int) := by rw [Int.tmod_eq_emod_of_nonneg (by omega)]; omega
      have b2 : (z : Int).tdiv 128 = (q : Int) := by rw [Int.tdiv_eq_ediv_of_nonneg (by omega)]; omega
      have b3 : IntKind.u64.wrap (a : Int) = a := by rw [IntKind.wrap_u64]; omega
      have b4 : IntKind.u64.wrap ((a : Int) + 128) = (y : Int) := by rw [IntKind.wrap_u64]; omega
      have b5 : IntKind.u64.wrap (q : Int) = q := by rw [IntKind.wrap_u64]; omega
      have b6 : IntKind.u8.wrap (y : Int) = y := by rw [IntKind.wrap_u8]; omega
      have hqz : q < z := by omega
      have HG := hide (show n + 1 = (pre ++ [((a, false) : Nat × Bool)]).length ∧ groupsS Z = (pre ++ [(a, false)]) ++ groupsS q by
        refine ⟨by rw [List.length_append, hg.out.1]; rfl, ?_⟩
        rw [hg.out.2, groupsS_more (by omega), ha, hq, List.append_assoc]
        rfl)
      have HE := hide (show pre.map gCell ++ [.int .u8 (y : Int)] = (pre ++ [((a, false) : Nat × Bool)]).map gCell by rw [List.map_append, ← hy]; rfl)
      clear ha hq hy
      have O1 := hide (show ∀ u ∈ [Value.int .u8 (y : Int)], u.oneCell' = true by simp [Value.oneCell'])
      have O3 := hide (show n + 1 ≤ maxLen by unfold maxLen; omega)
      have O4 := hide (show (n + 1) * 1 ≤ 140737488355328 by omega)
      have OB := hide (hown.out.alloc (.cells #[.int .u8 (y : Int)] 5))
      have OS := hide (show w.heap.size ≤ (wo.alloc (.cells #[.int .u8 (y : Int)] 5)).heap.size by have := hu.out.size; rw [World.size_alloc]; omega)
      go_wp2_with (at_builtin; refine wpList_append_base rfl (.tmp 16) (.tmp 21) _ rfl w.heap.size 5 _ 1 1 Tryz.underlying39 it_info_byte rfl (by decide) A n c _ rfl OB.out ⟨wo.heap.size, 0, none⟩ 1 1 [.int .u8 (y : Int)] rfl rfl (cell_one_new _ _ _) O1.out O3.out O4.out OS.out ?_; intro A5 c5 w5 h5 u5 _; have H5 := hide h5; have V5 := hide ((hu.out.alloc _).trans u5 (fun z hz => .inr (it_own_block hown.out z (by rw [ownBlock_slice]; simpa using hz)))); clear h5 u5)
      go_roundw
      case rel => exact ⟨q, A5, n + 1, c5, pre ++ [(a, false)], by omega, rfl, rfl, by omega, HG, hide (by rw [← HE.out]; exact H5.out), V5⟩
      case measure => simp [intOf] <;> omega
    · have hzi : ¬ (128 : Int) ≤ z := by omega
      have hzl : z < 128 := by omega
      have b6 : IntKind.u8.wrap (z : Int) = z := by rw [IntKind.wrap_u8]; omega
      have HG := hide (show n + 1 = (pre ++ [((z, true) : Nat × Bool)]).length ∧ groupsS Z = pre ++ [(z, true)] by
        refine ⟨by rw [List.length_append, hg.out.1]; rfl, ?_⟩
        rw [hg.out.2, groupsS_last hzl])
      have HE := hide (show pre.map gCell ++ [.int .u8 (z : Int)] = (groupsS Z).map gCell by rw [HG.out.2, List.map_append]; rfl)
      have HL := hide (show n + 1 = (groupsS Z).length by rw [HG.out.2]; exact HG.out.1)
      clear hg
      have O1 := hide (show ∀ u ∈ [Value.int .u8 (z : Int)], u.oneCell' = true by simp [Value.oneCell'])
      have O3 := hide (show n + 1 ≤ maxLen by unfold maxLen; omega)
      have O4 := hide (show (n + 1) * 1 ≤ 140737488355328 by omega)
      have OB := hide (hown.out.alloc (.cells #[.int .u8 (z : Int)] 5))
      have OS := hide (show w.heap.size ≤ (wo.alloc (.cells #[.int .u8 (z : Int)] 5)).heap.size by have := hu.out.size; rw [World.size_alloc]; omega)
      have CV := hide (show ∀ (g c5 : Nat) (w5 : World), w5.ownsRow w.heap.size 5 1 (.slice (some ⟨g, 0, none⟩) (n + 1) c5) (n + 1) (pre.map gCell ++ [.int .u8 (z : Int)]) →
          (convert 39 9 (.slice (some ⟨g, 0, none⟩) (n + 1) c5)).run Tryz.prog w5 = .ok (.string ⟨((groupsS Z).map fun y => UInt8.ofNat (grpB y)).toArray⟩) w5 from fun g c5 w5 h => by
        rw [HE.out, HL.out] at h
        rw [HL.out]
        exact put_conv Z _ g c5 w5 h)
      go_wp2_with (at_builtin; refine wpList_append_base rfl (.tmp 25) (.tmp 28) _ rfl w.heap.size 5 _ 1 1 Tryz.underlying39 it_info_byte rfl (by decide) A n c _ rfl OB.out ⟨wo.heap.size, 0, none⟩ 1 1 [.int .u8 (z : Int)] rfl rfl (cell_one_new _ _ _) O1.out O3.out O4.out OS.out ?_; intro A5 c5 w5 h5 u5 _; obtain ⟨g, cur, hA, _, _⟩ := it_own_some h5 (Nat.succ_pos _); subst hA; have hcv := CV.out g c5 w5 h5; have V5 := hide ((hu.out.alloc _).trans u5 (fun z hz => .inr (it_own_block hown.out z (by rw [ownBlock_slice]; simpa using hz)))); clear h5 u5)
      go_ret2
      exact ⟨rfl, V5.out⟩
theorem refPutString (s : ByteArray) (w : World) (h : s.size ≤ 3600) :
    Calls Tryz.prog 73 #[.string s] w fun e w' => e = .returned (.tuple #[.string ⟨(putStrS s.data.toList).toArray⟩, .int .i64 0]) ∧ Upd [] w w' := by
  obtain ⟨n, hn⟩ : ∃ n, s.size = n := ⟨_, rfl⟩
  have hl : s.data.toList.length = n := by rw [← hn]; exact Lib.size_eq s ▸ rfl
  have hpl := putS_len (n : Int) (by omega) (by omega)
  have hg : ¬ (65536 : Int) < (n : Int) := by omega
  obtain ⟨ps, hps⟩ : ∃ ps : ByteArray, ⟨(putS (n : Int)).toArray⟩ = ps := ⟨_, rfl⟩
  have HP := hide (refPutInt n w (by omega))
  rw [hps] at HP
  have hsz : ps.size = (putS (n : Int)).length := by rw [← hps]; simp [ByteArray.size]
  have hcat : (⟨(putStrS s.data.toList).toArray⟩ : ByteArray) = ps ++ s := by
    unfold putStrS
    rw [hl, ← hps]
    apply ByteArray.ext
    apply Array.toList_inj.1
    rw [ByteArray.data_append]
    simp
  have hsum : ¬ 9223372036854775807 < ps.size + n := by omega
  have HC := hide hcat
  clear hps hsz hcat hpl hl h
  go_enter Tryz.func73, Tryz.ntmps73
  go_wp2_with fail
  refine HP.out.mono ?_
  rintro e w1 ⟨rfl, u⟩
  have HU := hide u
  clear u
  go_wp2_with fail
  refine bodyPost_ret (v := .tuple #[.string (ps ++ s), .int .i64 0]) (by simp [results, Tryz.results73, go_sem]) rfl ?_
  exact ⟨by rw [HC.out], HU.out⟩
end Go.Proofs.YtafjolibfbccbaaGreatDoor
