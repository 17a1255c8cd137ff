/-
  wire.PutString; decoding: wire.Int and wire.String as plain functions.
-/
import Derived.Test.YtafjolibfbccbaaGreatDoorKPut
import Derived.Test.YtafjolibfbccbaaGreatDoorIBase
namespace Go.Proofs.YtafjolibfbccbaaGreatDoor
open Go.RowKit
set_option maxRecDepth 100000
set_option maxHeartbeats 4000000

def putStrS (s : List UInt8) : List UInt8 := putS (s.length : Int) ++ s
theorem putS_len (n : Int) (h : -4611686018427387903 ≤ n) (h2 : n ≤ 4611686018427387903) : (putS n).length ≤ 9 := by
  unfold putS
  rw [List.length_map]
  refine groupsS_length 8 _ ?_
  unfold zigS
  split <;> omega
theorem putString_any (s : ByteArray) (w : World) (hs : s.size ≤ 65536) :
    Calls Tryz.prog 71 #[.string s] w fun e w' => e = .returned (.tuple #[.string ⟨(putStrS s.data.toList).toArray⟩, .int .i64 0]) ∧ Upd [] w w' := by
  obtain ⟨n, hn⟩ : ∃ n, s.size = n := ⟨_, rfl⟩
  have hl : s.data.toList.length = n := by rw [← hn]; exact Lib.size_eq s ▸ rfl
  have hpl := putS_len (n : Int) (by omega) (by omega)
  have hnn : n ≤ 65536 := by omega
  obtain ⟨pb, hpb⟩ : ∃ x : ByteArray, ⟨(putS (n : Int)).toArray⟩ = x := ⟨_, rfl⟩
  have hps : pb.size ≤ 9 := by rw [← hpb]; simpa [ByteArray.size] using hpl
  have hov : ¬ 9223372036854775807 < pb.size + n := by omega
  have HPB := hide hpb
  have HL := hide hl
  have HP := hide (show ∀ w : World, Calls Tryz.prog 96 #[.int .i64 (n : Int)] w _ from fun w => putInt_any (n : Int) w (by omega) (by omega))
  clear hpl hpb hl hs hps
  go_enter Tryz.func71, Tryz.ntmps71
  go_wp2_with fail
  refine (HP.out _).mono ?_
  rintro e w1 ⟨rfl, u1⟩
  have U1 := hide u1
  rw [HPB.out]
  clear u1
  go_wp2_with fail
  go_ret2
  refine ⟨?_, U1.out⟩
  have e9 : pb ++ s = ⟨(putStrS s.data.toList).toArray⟩ := by
    apply ByteArray.ext
    apply Array.toList_inj.1
    unfold putStrS
    rw [HL.out, ← HPB.out]
    simp
  rw [← e9]
  rfl
end Go.Proofs.YtafjolibfbccbaaGreatDoor
