/- Pack, the program's and the reference's. -/
import Derived.Test.YtgacphicgglogaaWireA
import Derived.Test.YtgacphicgglogaaRegW
namespace Go.Proofs.Ytgacphicgglogaa
set_option linter.unusedVariables false
open Go.RowKit Crc

def packB (k n : Nat) (load : ByteArray) : ByteArray := sealB (((⟨[UInt8.ofNat k].toArray⟩ : ByteArray) ++ ⟨(le8 n).toArray⟩) ++ load)
def packRes (k : Int) (n : Nat) (load : ByteArray) : ByteArray × Int :=
  if ¬ (k = 1 ∨ (k = 2 ∧ load = ByteArray.empty)) then (ByteArray.empty, 1) else if 800 < load.size then (ByteArray.empty, 4) else (packB k.toNat n load, 0)
theorem size_pos {s : ByteArray} (h : ¬ s = ByteArray.empty) : 0 < s.size := by
  rcases Nat.eq_zero_or_pos s.size with h0 | h0
  · exact absurd (ByteArray.size_eq_zero_iff.1 h0) h
  · exact h0
theorem not_empty {s : ByteArray} (h : ¬ s = ByteArray.empty) : s.toList.isEmpty = false := by
  have h0 := size_pos h
  have := extract_tail s 0
  rw [ByteArray.extract_zero_size, List.drop_zero] at this
  rw [this]
  cases hs : s.data.toList with
  | nil =>
    have h2 : s.size = s.data.toList.length := by simp
    rw [hs] at h2
    simp only [List.length_nil] at h2
    omega
  | cons a l => rfl

set_option maxHeartbeats 2000000 in
theorem pack_ok (k n : Nat) (load : ByteArray) (w : World) (hk : k = 1 ∨ (k = 2 ∧ load = ByteArray.empty)) (hn : n < 18446744073709551616) (hl : load.size ≤ 800) :
    Calls Try.prog 38 #[.int .i64 (k : Int), .int .u64 (n : Int), .string load] w fun e w' => e = .returned (.tuple #[.string (packB k n load), .int .i64 0]) ∧ Below w.heap.size w w' := by
  have hkk : k = 1 ∨ k = 2 := by omega
  have hb1 : byteVals [UInt8.ofNat k] = [.int .u8 (k : Int)] := by rcases hkk with rfl | rfl <;> rfl
  have hsz1 : (⟨[UInt8.ofNat k].toArray⟩ : ByteArray).size = 1 := rfl
  have hsz8 : (⟨(le8 n).toArray⟩ : ByteArray).size = 8 := by show (le8 n).toArray.size = 8; rw [List.size_toArray, le8_len]
  have HP := Lib.hid (show sealB (((⟨[UInt8.ofNat k].toArray⟩ : ByteArray) ++ ⟨(le8 n).toArray⟩) ++ load) = packB k n load from rfl)
  have hsl : (((⟨[UInt8.ofNat k].toArray⟩ : ByteArray) ++ ⟨(le8 n).toArray⟩) ++ load).size ≤ 809 := by rw [ByteArray.size_append, ByteArray.size_append, hsz8, hsz1]; omega
  have hs9 : ((⟨[UInt8.ofNat k].toArray⟩ : ByteArray) ++ ⟨(le8 n).toArray⟩).size = 9 := by rw [ByteArray.size_append, hsz8, hsz1]
  have hs99 : 9 + load.size ≤ 9223372036854775807 := by omega
  have hemp : k = 2 → load.toList.isEmpty = true := fun h => by rcases hk with h2 | ⟨_, rfl⟩; omega; decide +kernel
  have hsz0 : k = 2 → load.size = 0 := fun h => by rcases hk with h2 | ⟨_, rfl⟩; omega; rfl
  have he8 := fun w => eight_any n w hn
  have HE := Lib.hid he8
  have hrun := fun (w : World) (g cap : Nat) (hrow : Row w g 5 (byteVals [UInt8.ofNat k])) => run_convert_bytes_back (P := Try.prog) w 75 9 5 ⟨g, 0, none⟩ cap [UInt8.ofNat k] Try.underlying75 Try.underlying5 Try.underlying9 (fun j hj => by
    rw [show (⟨g, 0, none⟩ : Addr).add j = ⟨g, j, none⟩ by unfold Addr.add; split <;> simp_all]
    obtain rfl : j = 0 := by simpa using hj
    exact hrow.cell rfl)
  rw [hb1] at hrun
  have HRUN := Lib.hid hrun
  have hbv : IntKind.u8.wrap (k : Int) = (k : Int) := by rcases hkk with rfl | rfl <;> rfl
  clear he8 hk hrun hb1
  generalize packB k n load = pb at *
  generalize (⟨(le8 n).toArray⟩ : ByteArray) = e8 at *
  generalize (⟨[UInt8.ofNat k].toArray⟩ : ByteArray) = b1 at *
  rcases hkk with rfl | rfl
  · go_enter Try.func38, Try.ntmps38
    go_wp2
    refine Reg.wp_chain_known 12 [(5, .string e8), (9, .string pb)] [(2, fun v w' => ∃ g, v = .slice (some ⟨g, 0, none⟩) 1 1 ∧ Row w' g 5 [.int .u8 1]), (5, fun _ _ => True), (9, fun _ _ => True)] (fun w' => Below w.heap.size w w') (fun w1 w' => Below w1.heap.size w1 w') (by kernel_rfl) (by kernel_rfl) (by kernel_rfl) (by kernel_rfl) (fun _ _ d _ _ h => by cases d <;> exact h) (Below.refl _ _).drew ?_
    simp only [List.take_succ_cons, List.take_zero]
    repeat (refine Reg.chain_plain rfl rfl ?_ ?_ ?_; rotate_left; (focus (intro w3 hI _; go_simp; rfl)))
    refine Reg.chain_eff rfl rfl (fun v w1 w2 hs ⟨g, e, hg⟩ => ⟨g, e, hg.below hs hg.lt⟩) (fun w1 hI _ K hK => ?_) (fun v => ?_)
    · go_simp
      refine hK (.slice (some ⟨w1.heap.size, 0, none⟩) 1 1) _ _ (by go_simp) ⟨w1.heap.size, rfl, Row.of_blk (Blk.new _ _ _)⟩ (hI.alloc hI.size _) ((Below.refl _ _).alloc (Nat.le_refl _) _)
    refine Reg.chain_plain rfl rfl (.string b1) (fun w3 hI hF => ?_) ?_
    · obtain ⟨g, rfl, hrow⟩ := hF _ (List.mem_singleton.2 rfl) (by kernel_rfl)
      have hr := HRUN.out w3 g 1 hrow
      go_simp
      rw [show Sem.run Try.prog (convert 75 9 (Value.slice (some ⟨g, 0, none⟩) 1 1)) w3 = _ from hr]
      rfl
    repeat (refine Reg.chain_plain rfl rfl ?_ ?_ ?_; rotate_left; (focus (intro w3 hI _; go_simp; rfl)))
    simp only [Act.put, List.setIfInBounds_toArray, List.set_cons_succ, List.set_cons_zero]
    refine Reg.chain_known (.string e8) rfl rfl rfl (fun _ _ _ _ _ => trivial) (fun w3 hI _ K hK => ?_) ?_
    · go_simp
      refine (HE.out w3).mono ?_
      rintro e w4 ⟨rfl, hb4⟩
      exact hK _ _ (by go_simp) trivial (hI.trans (hb4.mono hI.size)) hb4
    repeat (refine Reg.chain_plain rfl rfl ?_ ?_ ?_; rotate_left; (focus (intro w3 hI _; go_simp; rfl)))
    try (refine Reg.chain_plain rfl rfl (.string (b1 ++ e8 ++ load)) (fun w3 hI _ => by first | (go_simp; done) | (go_simp; rfl)) ?_)
    simp only [Act.put, List.setIfInBounds_toArray, List.set_cons_succ, List.set_cons_zero]
    refine Reg.chain_known (.string pb) rfl rfl rfl (fun _ _ _ _ _ => trivial) (fun w3 hI _ K hK => ?_) ?_
    · go_simp
      refine (seal_any _ w3 (Nat.le_trans hsl (by omega))).mono ?_
      rintro e w4 ⟨rfl, hb4⟩
      rw [HP.out]
      exact hK _ _ (by go_simp) trivial (hI.trans (hb4.mono hI.size)) hb4
    repeat (refine Reg.chain_plain rfl rfl ?_ ?_ ?_; rotate_left; (focus (intro w3 hI _; go_simp; rfl)))
    simp only [Act.put, List.setIfInBounds_toArray, List.set_cons_succ, List.set_cons_zero]
    refine Reg.chain_end (fun w3 hI _ => ?_)
    simp only [List.drop_succ_cons, List.drop_zero]
    go_wp2
    go_ret2
    exact ⟨rfl, hI⟩
  · go_enter Try.func38, Try.ntmps38
    go_wp2
    refine Reg.wp_chain_known 12 [(5, .string e8), (9, .string pb)] [(2, fun v w' => ∃ g, v = .slice (some ⟨g, 0, none⟩) 1 1 ∧ Row w' g 5 [.int .u8 2]), (5, fun _ _ => True), (9, fun _ _ => True)] (fun w' => Below w.heap.size w w') (fun w1 w' => Below w1.heap.size w1 w') (by kernel_rfl) (by kernel_rfl) (by kernel_rfl) (by kernel_rfl) (fun _ _ d _ _ h => by cases d <;> exact h) (Below.refl _ _).drew ?_
    simp only [List.take_succ_cons, List.take_zero]
    repeat (refine Reg.chain_plain rfl rfl ?_ ?_ ?_; rotate_left; (focus (intro w3 hI _; go_simp; rfl)))
    refine Reg.chain_eff rfl rfl (fun v w1 w2 hs ⟨g, e, hg⟩ => ⟨g, e, hg.below hs hg.lt⟩) (fun w1 hI _ K hK => ?_) (fun v => ?_)
    · go_simp
      refine hK (.slice (some ⟨w1.heap.size, 0, none⟩) 1 1) _ _ (by go_simp) ⟨w1.heap.size, rfl, Row.of_blk (Blk.new _ _ _)⟩ (hI.alloc hI.size _) ((Below.refl _ _).alloc (Nat.le_refl _) _)
    refine Reg.chain_plain rfl rfl (.string b1) (fun w3 hI hF => ?_) ?_
    · obtain ⟨g, rfl, hrow⟩ := hF _ (List.mem_singleton.2 rfl) (by kernel_rfl)
      have hr := HRUN.out w3 g 1 hrow
      go_simp
      rw [show Sem.run Try.prog (convert 75 9 (Value.slice (some ⟨g, 0, none⟩) 1 1)) w3 = _ from hr]
      rfl
    repeat (refine Reg.chain_plain rfl rfl ?_ ?_ ?_; rotate_left; (focus (intro w3 hI _; go_simp; rfl)))
    simp only [Act.put, List.setIfInBounds_toArray, List.set_cons_succ, List.set_cons_zero]
    refine Reg.chain_known (.string e8) rfl rfl rfl (fun _ _ _ _ _ => trivial) (fun w3 hI _ K hK => ?_) ?_
    · go_simp
      refine (HE.out w3).mono ?_
      rintro e w4 ⟨rfl, hb4⟩
      exact hK _ _ (by go_simp) trivial (hI.trans (hb4.mono hI.size)) hb4
    repeat (refine Reg.chain_plain rfl rfl ?_ ?_ ?_; rotate_left; (focus (intro w3 hI _; go_simp; rfl)))
    try (refine Reg.chain_plain rfl rfl (.string (b1 ++ e8 ++ load)) (fun w3 hI _ => by first | (go_simp; done) | (go_simp; rfl)) ?_)
    simp only [Act.put, List.setIfInBounds_toArray, List.set_cons_succ, List.set_cons_zero]
    refine Reg.chain_known (.string pb) rfl rfl rfl (fun _ _ _ _ _ => trivial) (fun w3 hI _ K hK => ?_) ?_
    · go_simp
      refine (seal_any _ w3 (Nat.le_trans hsl (by omega))).mono ?_
      rintro e w4 ⟨rfl, hb4⟩
      rw [HP.out]
      exact hK _ _ (by go_simp) trivial (hI.trans (hb4.mono hI.size)) hb4
    repeat (refine Reg.chain_plain rfl rfl ?_ ?_ ?_; rotate_left; (focus (intro w3 hI _; go_simp; rfl)))
    simp only [Act.put, List.setIfInBounds_toArray, List.set_cons_succ, List.set_cons_zero]
    refine Reg.chain_end (fun w3 hI _ => ?_)
    simp only [List.drop_succ_cons, List.drop_zero]
    go_wp2
    go_ret2
    exact ⟨rfl, hI⟩

theorem pack_form (k : Int) (n : Nat) (load : ByteArray) (w : World) (hk : ¬ (k = 1 ∨ (k = 2 ∧ load = ByteArray.empty))) (hm : load.size ≤ maxLen) :
    Calls Try.prog 38 #[.int .i64 k, .int .u64 (n : Int), .string load] w fun e w' => e = .returned (.tuple #[.string ByteArray.empty, .int .i64 1]) ∧ Below w.heap.size w w' := by
  unfold maxLen at hm
  go_enter Try.func38, Try.ntmps38
  by_cases h2 : k = 2
  · have hne : ¬ load = ByteArray.empty := fun h => hk (.inr ⟨h2, h⟩)
    have hemp : load.toList.isEmpty = false := not_empty hne
    have hsz : 0 < load.size := size_pos hne
    subst h2
    have hsz2 : (0 : Int) < (load.size : Int) := by omega
    clear hk hne
    go_wp2
    go_ret2
    exact ⟨rfl, Below.refl _ _⟩
  · have h1 : ¬ k = 1 := fun h => hk (.inl h)
    have h1b : (k != 1) = true := bne_iff_ne.2 h1
    have h2b : (k != 2) = true := bne_iff_ne.2 h2
    have h2c : (k == 2) = false := beq_eq_false_iff_ne.2 h2
    clear hk
    skip
    all_goals
      go_wp2
      go_ret2
      exact ⟨rfl, Below.refl _ _⟩

theorem pack_long (k n : Nat) (load : ByteArray) (w : World) (hk : k = 1) (hl : 800 < load.size) (hm : load.size ≤ maxLen) :
    Calls Try.prog 38 #[.int .i64 (k : Int), .int .u64 (n : Int), .string load] w fun e w' => e = .returned (.tuple #[.string ByteArray.empty, .int .i64 4]) ∧ Below w.heap.size w w' := by
  unfold maxLen at hm
  subst hk
  have hl2 : (800 : Int) < (load.size : Int) := by omega
  go_enter Try.func38, Try.ntmps38
  go_wp2
  go_ret2
  exact ⟨rfl, Below.refl _ _⟩

theorem pack_any (k : Int) (n : Nat) (load : ByteArray) (w : World) (hn : n < 18446744073709551616) (hm : load.size ≤ maxLen) :
    Calls Try.prog 38 #[.int .i64 k, .int .u64 (n : Int), .string load] w fun e w' => e = .returned (.tuple #[.string (packRes k n load).1, .int .i64 (packRes k n load).2]) ∧ Below w.heap.size w w' := by
  unfold packRes
  by_cases hk : k = 1 ∨ (k = 2 ∧ load = ByteArray.empty)
  · rw [if_neg (fun h => h hk)]
    by_cases hl : 800 < load.size
    · rw [if_pos hl]
      have h1 : k = 1 := by
        rcases hk with h | ⟨_, h⟩
        · exact h
        · subst h
          exact absurd hl (by decide +kernel)
      subst h1
      exact pack_long 1 n load w rfl hl hm
    · rw [if_neg hl]
      obtain ⟨m, rfl⟩ : ∃ m : Nat, k = (m : Int) := ⟨k.toNat, by omega⟩
      exact pack_ok m n load w (by rcases hk with h | ⟨h, h'⟩; exact .inl (by omega); exact .inr ⟨by omega, h'⟩) hn (by omega)
  · rw [if_pos hk]
    exact pack_form k n load w hk hm

set_option maxHeartbeats 2000000 in
theorem refPack_ok (k n : Nat) (load : ByteArray) (w : World) (hk : k = 1 ∨ (k = 2 ∧ load = ByteArray.empty)) (hn : n < 18446744073709551616) (hl : load.size ≤ 800) :
    Calls Try.prog 21 #[.int .i64 (k : Int), .int .u64 (n : Int), .string load] w fun e w' => e = .returned (.tuple #[.string (packB k n load), .int .i64 0]) ∧ Below w.heap.size w w' := by
  have hkk : k = 1 ∨ k = 2 := by omega
  have hb1 : byteVals [UInt8.ofNat k] = [.int .u8 (k : Int)] := by rcases hkk with rfl | rfl <;> rfl
  have hsz1 : (⟨[UInt8.ofNat k].toArray⟩ : ByteArray).size = 1 := rfl
  have hsz8 : (⟨(le8 n).toArray⟩ : ByteArray).size = 8 := by show (le8 n).toArray.size = 8; rw [List.size_toArray, le8_len]
  have HP := Lib.hid (show sealB (((⟨[UInt8.ofNat k].toArray⟩ : ByteArray) ++ ⟨(le8 n).toArray⟩) ++ load) = packB k n load from rfl)
  have hsl : (((⟨[UInt8.ofNat k].toArray⟩ : ByteArray) ++ ⟨(le8 n).toArray⟩) ++ load).size ≤ 809 := by rw [ByteArray.size_append, ByteArray.size_append, hsz8, hsz1]; omega
  have hs9 : ((⟨[UInt8.ofNat k].toArray⟩ : ByteArray) ++ ⟨(le8 n).toArray⟩).size = 9 := by rw [ByteArray.size_append, hsz8, hsz1]
  have hs99 : 9 + load.size ≤ 9223372036854775807 := by omega
  have hemp : k = 2 → load.toList.isEmpty = true := fun h => by rcases hk with h2 | ⟨_, rfl⟩; omega; decide +kernel
  have hsz0 : k = 2 → load.size = 0 := fun h => by rcases hk with h2 | ⟨_, rfl⟩; omega; rfl
  have he8 := fun w => refEight_any n w hn
  have HE := Lib.hid he8
  have hrun := fun (w : World) (g cap : Nat) (hrow : Row w g 5 (byteVals [UInt8.ofNat k])) => run_convert_bytes_back (P := Try.prog) w 75 9 5 ⟨g, 0, none⟩ cap [UInt8.ofNat k] Try.underlying75 Try.underlying5 Try.underlying9 (fun j hj => by
    rw [show (⟨g, 0, none⟩ : Addr).add j = ⟨g, j, none⟩ by unfold Addr.add; split <;> simp_all]
    obtain rfl : j = 0 := by simpa using hj
    exact hrow.cell rfl)
  rw [hb1] at hrun
  have HRUN := Lib.hid hrun
  have hbv : IntKind.u8.wrap (k : Int) = (k : Int) := by rcases hkk with rfl | rfl <;> rfl
  clear he8 hk hrun hb1
  generalize packB k n load = pb at *
  generalize (⟨(le8 n).toArray⟩ : ByteArray) = e8 at *
  generalize (⟨[UInt8.ofNat k].toArray⟩ : ByteArray) = b1 at *
  rcases hkk with rfl | rfl
  · go_enter Try.func21, Try.ntmps21
    go_wp2
    refine Reg.wp_chain_known 12 [(5, .string e8), (9, .string pb)] [(2, fun v w' => ∃ g, v = .slice (some ⟨g, 0, none⟩) 1 1 ∧ Row w' g 5 [.int .u8 1]), (5, fun _ _ => True), (9, fun _ _ => True)] (fun w' => Below w.heap.size w w') (fun w1 w' => Below w1.heap.size w1 w') (by kernel_rfl) (by kernel_rfl) (by kernel_rfl) (by kernel_rfl) (fun _ _ d _ _ h => by cases d <;> exact h) (Below.refl _ _).drew ?_
    simp only [List.take_succ_cons, List.take_zero]
    repeat (refine Reg.chain_plain rfl rfl ?_ ?_ ?_; rotate_left; (focus (intro w3 hI _; go_simp; rfl)))
    refine Reg.chain_eff rfl rfl (fun v w1 w2 hs ⟨g, e, hg⟩ => ⟨g, e, hg.below hs hg.lt⟩) (fun w1 hI _ K hK => ?_) (fun v => ?_)
    · go_simp
      refine hK (.slice (some ⟨w1.heap.size, 0, none⟩) 1 1) _ _ (by go_simp) ⟨w1.heap.size, rfl, Row.of_blk (Blk.new _ _ _)⟩ (hI.alloc hI.size _) ((Below.refl _ _).alloc (Nat.le_refl _) _)
    refine Reg.chain_plain rfl rfl (.string b1) (fun w3 hI hF => ?_) ?_
    · obtain ⟨g, rfl, hrow⟩ := hF _ (List.mem_singleton.2 rfl) (by kernel_rfl)
      have hr := HRUN.out w3 g 1 hrow
      go_simp
      rw [show Sem.run Try.prog (convert 75 9 (Value.slice (some ⟨g, 0, none⟩) 1 1)) w3 = _ from hr]
      rfl
    repeat (refine Reg.chain_plain rfl rfl ?_ ?_ ?_; rotate_left; (focus (intro w3 hI _; go_simp; rfl)))
    simp only [Act.put, List.setIfInBounds_toArray, List.set_cons_succ, List.set_cons_zero]
    refine Reg.chain_known (.string e8) rfl rfl rfl (fun _ _ _ _ _ => trivial) (fun w3 hI _ K hK => ?_) ?_
    · go_simp
      refine (HE.out w3).mono ?_
      rintro e w4 ⟨rfl, hb4⟩
      exact hK _ _ (by go_simp) trivial (hI.trans (hb4.mono hI.size)) hb4
    repeat (refine Reg.chain_plain rfl rfl ?_ ?_ ?_; rotate_left; (focus (intro w3 hI _; go_simp; rfl)))
    try (refine Reg.chain_plain rfl rfl (.string (b1 ++ e8 ++ load)) (fun w3 hI _ => by first | (go_simp; done) | (go_simp; rfl)) ?_)
    simp only [Act.put, List.setIfInBounds_toArray, List.set_cons_succ, List.set_cons_zero]
    refine Reg.chain_known (.string pb) rfl rfl rfl (fun _ _ _ _ _ => trivial) (fun w3 hI _ K hK => ?_) ?_
    · go_simp
      refine (refSeal_any _ w3 (Nat.le_trans hsl (by omega))).mono ?_
      rintro e w4 ⟨rfl, hb4⟩
      rw [HP.out]
      exact hK _ _ (by go_simp) trivial (hI.trans (hb4.mono hI.size)) hb4
    repeat (refine Reg.chain_plain rfl rfl ?_ ?_ ?_; rotate_left; (focus (intro w3 hI _; go_simp; rfl)))
    simp only [Act.put, List.setIfInBounds_toArray, List.set_cons_succ, List.set_cons_zero]
    refine Reg.chain_end (fun w3 hI _ => ?_)
    simp only [List.drop_succ_cons, List.drop_zero]
    go_wp2
    go_ret2
    exact ⟨rfl, hI⟩
  · go_enter Try.func21, Try.ntmps21
    go_wp2
    refine Reg.wp_chain_known 12 [(5, .string e8), (9, .string pb)] [(2, fun v w' => ∃ g, v = .slice (some ⟨g, 0, none⟩) 1 1 ∧ Row w' g 5 [.int .u8 2]), (5, fun _ _ => True), (9, fun _ _ => True)] (fun w' => Below w.heap.size w w') (fun w1 w' => Below w1.heap.size w1 w') (by kernel_rfl) (by kernel_rfl) (by kernel_rfl) (by kernel_rfl) (fun _ _ d _ _ h => by cases d <;> exact h) (Below.refl _ _).drew ?_
    simp only [List.take_succ_cons, List.take_zero]
    repeat (refine Reg.chain_plain rfl rfl ?_ ?_ ?_; rotate_left; (focus (intro w3 hI _; go_simp; rfl)))
    refine Reg.chain_eff rfl rfl (fun v w1 w2 hs ⟨g, e, hg⟩ => ⟨g, e, hg.below hs hg.lt⟩) (fun w1 hI _ K hK => ?_) (fun v => ?_)
    · go_simp
      refine hK (.slice (some ⟨w1.heap.size, 0, none⟩) 1 1) _ _ (by go_simp) ⟨w1.heap.size, rfl, Row.of_blk (Blk.new _ _ _)⟩ (hI.alloc hI.size _) ((Below.refl _ _).alloc (Nat.le_refl _) _)
    refine Reg.chain_plain rfl rfl (.string b1) (fun w3 hI hF => ?_) ?_
    · obtain ⟨g, rfl, hrow⟩ := hF _ (List.mem_singleton.2 rfl) (by kernel_rfl)
      have hr := HRUN.out w3 g 1 hrow
      go_simp
      rw [show Sem.run Try.prog (convert 75 9 (Value.slice (some ⟨g, 0, none⟩) 1 1)) w3 = _ from hr]
      rfl
    repeat (refine Reg.chain_plain rfl rfl ?_ ?_ ?_; rotate_left; (focus (intro w3 hI _; go_simp; rfl)))
    simp only [Act.put, List.setIfInBounds_toArray, List.set_cons_succ, List.set_cons_zero]
    refine Reg.chain_known (.string e8) rfl rfl rfl (fun _ _ _ _ _ => trivial) (fun w3 hI _ K hK => ?_) ?_
    · go_simp
      refine (HE.out w3).mono ?_
      rintro e w4 ⟨rfl, hb4⟩
      exact hK _ _ (by go_simp) trivial (hI.trans (hb4.mono hI.size)) hb4
    repeat (refine Reg.chain_plain rfl rfl ?_ ?_ ?_; rotate_left; (focus (intro w3 hI _; go_simp; rfl)))
    try (refine Reg.chain_plain rfl rfl (.string (b1 ++ e8 ++ load)) (fun w3 hI _ => by first | (go_simp; done) | (go_simp; rfl)) ?_)
    simp only [Act.put, List.setIfInBounds_toArray, List.set_cons_succ, List.set_cons_zero]
    refine Reg.chain_known (.string pb) rfl rfl rfl (fun _ _ _ _ _ => trivial) (fun w3 hI _ K hK => ?_) ?_
    · go_simp
      refine (refSeal_any _ w3 (Nat.le_trans hsl (by omega))).mono ?_
      rintro e w4 ⟨rfl, hb4⟩
      rw [HP.out]
      exact hK _ _ (by go_simp) trivial (hI.trans (hb4.mono hI.size)) hb4
    repeat (refine Reg.chain_plain rfl rfl ?_ ?_ ?_; rotate_left; (focus (intro w3 hI _; go_simp; rfl)))
    simp only [Act.put, List.setIfInBounds_toArray, List.set_cons_succ, List.set_cons_zero]
    refine Reg.chain_end (fun w3 hI _ => ?_)
    simp only [List.drop_succ_cons, List.drop_zero]
    go_wp2
    go_ret2
    exact ⟨rfl, hI⟩

theorem refPack_form (k : Int) (n : Nat) (load : ByteArray) (w : World) (hk : ¬ (k = 1 ∨ (k = 2 ∧ load = ByteArray.empty))) (hm : load.size ≤ maxLen) :
    Calls Try.prog 21 #[.int .i64 k, .int .u64 (n : Int), .string load] w fun e w' => e = .returned (.tuple #[.string ByteArray.empty, .int .i64 1]) ∧ Below w.heap.size w w' := by
  unfold maxLen at hm
  go_enter Try.func21, Try.ntmps21
  by_cases h2 : k = 2
  · have hne : ¬ load = ByteArray.empty := fun h => hk (.inr ⟨h2, h⟩)
    have hemp : load.toList.isEmpty = false := not_empty hne
    have hsz : 0 < load.size := size_pos hne
    subst h2
    have hsz2 : (0 : Int) < (load.size : Int) := by omega
    clear hk hne
    go_wp2
    go_ret2
    exact ⟨rfl, Below.refl _ _⟩
  · have h1 : ¬ k = 1 := fun h => hk (.inl h)
    have h1b : (k != 1) = true := bne_iff_ne.2 h1
    have h2b : (k != 2) = true := bne_iff_ne.2 h2
    have h2c : (k == 2) = false := beq_eq_false_iff_ne.2 h2
    clear hk
    rcases (show k < 1 ∨ (1 ≤ k ∧ 2 < k) by omega) with h | ⟨h, h'⟩
    all_goals
      go_wp2
      go_ret2
      exact ⟨rfl, Below.refl _ _⟩

theorem refPack_long (k n : Nat) (load : ByteArray) (w : World) (hk : k = 1) (hl : 800 < load.size) (hm : load.size ≤ maxLen) :
    Calls Try.prog 21 #[.int .i64 (k : Int), .int .u64 (n : Int), .string load] w fun e w' => e = .returned (.tuple #[.string ByteArray.empty, .int .i64 4]) ∧ Below w.heap.size w w' := by
  unfold maxLen at hm
  subst hk
  have hl2 : (800 : Int) < (load.size : Int) := by omega
  go_enter Try.func21, Try.ntmps21
  go_wp2
  go_ret2
  exact ⟨rfl, Below.refl _ _⟩

theorem refPack_any (k : Int) (n : Nat) (load : ByteArray) (w : World) (hn : n < 18446744073709551616) (hm : load.size ≤ maxLen) :
    Calls Try.prog 21 #[.int .i64 k, .int .u64 (n : Int), .string load] w fun e w' => e = .returned (.tuple #[.string (packRes k n load).1, .int .i64 (packRes k n load).2]) ∧ Below w.heap.size w w' := by
  unfold packRes
  by_cases hk : k = 1 ∨ (k = 2 ∧ load = ByteArray.empty)
  · rw [if_neg (fun h => h hk)]
    by_cases hl : 800 < load.size
    · rw [if_pos hl]
      have h1 : k = 1 := by
        rcases hk with h | ⟨_, h⟩
        · exact h
        · subst h
          exact absurd hl (by decide +kernel)
      subst h1
      exact refPack_long 1 n load w rfl hl hm
    · rw [if_neg hl]
      obtain ⟨m, rfl⟩ : ∃ m : Nat, k = (m : Int) := ⟨k.toNat, by omega⟩
      exact refPack_ok m n load w (by rcases hk with h | ⟨h, h'⟩; exact .inl (by omega); exact .inr ⟨by omega, h'⟩) hn (by omega)
  · rw [if_pos hk]
    exact refPack_form k n load w hk hm

end Go.Proofs.Ytgacphicgglogaa
