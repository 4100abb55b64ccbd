/- Unpack, the program's and the reference's. -/
import Derived.Test.YtgacphicgglogaaWireB
namespace Go.Proofs.Ytgacphicgglogaa
set_option linter.unusedVariables false
open Go.RowKit Crc

def first (t : ByteArray) : Nat := (t.data.toList[0]?.getD 0).toNat
def unpackT (t : ByteArray) : Int × Nat × ByteArray × Int :=
  if t.size < 9 ∨ ¬ (first t = 1 ∨ (first t = 2 ∧ t.size = 9)) then (0, 0, ByteArray.empty, 1)
  else if 809 < t.size then (0, 0, ByteArray.empty, 4) else ((first t : Int), numL (t.extract 1 9).data.toList, t.extract 9 t.size, 0)
def unpackRes (s : ByteArray) : Int × Nat × ByteArray × Int :=
  if (openRes s).2 ≠ 0 then (0, 0, ByteArray.empty, (openRes s).2) else unpackT (openRes s).1
theorem openRes_size (s : ByteArray) : (openRes s).1.size ≤ s.size := by
  unfold openRes
  split
  · simp
  · split
    · simp only [ByteArray.size_extract]; omega
    · simp
theorem Tr_below_drewN {B : Nat} {w w' : World} (h : Below B w w') (k : Nat) : Below B w (w'.drewN k) := h.trans ⟨rfl, rfl, rfl, Nat.le_refl _, fun _ _ => rfl⟩

set_option maxHeartbeats 2000000 in
theorem unpack_any (s : ByteArray) (w : World) (hm : s.size ≤ 140737488351232) :
    Calls Try.prog 39 #[.string s] w fun e w' => e = .returned (.tuple #[.int .i64 (unpackRes s).1, .int .u64 ((unpackRes s).2.1 : Int), .string (unpackRes s).2.2.1, .int .i64 (unpackRes s).2.2.2]) ∧ Below w.heap.size w w' := by
  have hos := openRes_size s
  go_enter Try.func39, Try.ntmps39
  go_wp2_with fail
  refine (open_any s w hm).mono ?_
  rintro e w1 ⟨rfl, hb1⟩
  have HU := Lib.hid (show unpackRes s = if (openRes s).2 ≠ 0 then (0, 0, ByteArray.empty, (openRes s).2) else unpackT (openRes s).1 from rfl)
  obtain ⟨er, her⟩ : ∃ er, (openRes s).2 = er := ⟨_, rfl⟩
  obtain ⟨t, ht⟩ : ∃ t, (openRes s).1 = t := ⟨_, rfl⟩
  rw [her, ht] at HU ⊢
  rw [ht] at hos
  have HE := Lib.hid her
  clear her ht
  by_cases he : er = 0
  · subst he
    have HU2 := Lib.hid (show unpackRes s = unpackT t by rw [HU.out, if_neg (fun h => h rfl)])
    clear HU
    by_cases h9 : t.size < 9
    · have HT := Lib.hid (show unpackRes s = (0, 0, ByteArray.empty, 1) by rw [HU2.out]; unfold unpackT; rw [if_pos (.inl h9)])
      have h9z : (t.size : Int) < 9 := by omega
      clear HU2 h9
      go_wp2
      exact bodyPost_ret (v := .tuple #[.int .i64 0, .int .u64 0, .string ⟨#[]⟩, .int .i64 1]) (by simp [results, Try.results39, go_sem]) rfl ⟨by rw [HT.out]; rfl, hb1⟩
    · have h9z : ¬ (t.size : Int) < 9 := by omega
      have h0z : (0 : Int) < (t.size : Int) := by omega
      have h0n : 0 < t.size := by omega
      have hbyte : first t = t[0].toNat := by unfold first; rw [show t.data.toList[0]? = some t[0] from by rw [Array.getElem?_toList]; exact Array.getElem?_eq_getElem h0n]; rfl
      have hlt := UInt8.toNat_lt t[0]
      have HB := Lib.hid hbyte
      clear hbyte
      by_cases hok : t[0].toNat = 1 ∨ (t[0].toNat = 2 ∧ t.size = 9)
      · by_cases hlong : 809 < t.size
        · have HT := Lib.hid (show unpackRes s = (0, 0, ByteArray.empty, 4) by
            rw [HU2.out]; unfold unpackT; rw [HB.out, if_neg (by omega), if_pos hlong])
          have hlz : (809 : Int) < (t.size : Int) := by omega
          have h1 : t[0].toNat = 1 := by omega
          have h1i : (t[0].toNat : Int) = 1 := by omega
          clear hok HU2
          have H1 := Lib.hid h1i; clear h1
          go_wp2
          exact bodyPost_ret (v := .tuple #[.int .i64 0, .int .u64 0, .string ⟨#[]⟩, .int .i64 4]) (by simp [results, Try.results39, go_sem]) rfl ⟨by rw [HT.out]; rfl, hb1⟩
        · have hlz : ¬ (809 : Int) < (t.size : Int) := by omega
          have HT := Lib.hid (show unpackRes s = ((t[0].toNat : Int), numL (t.extract 1 9).data.toList, t.extract 9 t.size, 0) by
            rw [HU2.out]; unfold unpackT; rw [HB.out, if_neg (by omega), if_neg hlong])
          have h19 : (9 : Int) ≤ (t.size : Int) := by omega
          have h19n : 9 ≤ t.size := by omega
          have hx9 : (t.extract 1 9).size ≤ 8 := by rw [ByteArray.size_extract]; omega
          have hw0 : IntKind.i64.wrap (t[0].toNat : Int) = (t[0].toNat : Int) := IntWalk.i64_in _ (by omega)
          rcases hok with h1 | ⟨h1, h2⟩
          · have h1i : (t[0].toNat : Int) = 1 := by omega
            clear HU2
            have H1 := Lib.hid h1i; clear h1
            go_wp2
            go_quiet ((go_at_call 65; exact Calls.quiet_of_same ((number_any _ _ hx9).mono fun _ _ ⟨h, e⟩ => ⟨h, e.symm⟩)))
            go_wp2
            exact bodyPost_ret (v := .tuple #[.int .i64 1, .int .u64 (numL (t.extract 1 9).data.toList : Int), .string (t.extract 9 t.size), .int .i64 0]) (by simp [results, Try.results39, go_sem]) rfl ⟨by rw [HT.out, H1.out], Tr_below_drewN hb1 _⟩
          · have h1i : (t[0].toNat : Int) = 2 := by omega
            have hns : ¬ (9 : Int) < (t.size : Int) := by omega
            have hnb : ((t.size : Int) != 9) = false := by rw [h2]; rfl
            have hlong2 : ¬ 800 < (t.size : Int) - 9 := by omega
            clear HU2 h2
            have H1 := Lib.hid h1i; clear h1
            go_wp2
            go_quiet ((go_at_call 65; exact Calls.quiet_of_same ((number_any _ _ hx9).mono fun _ _ ⟨h, e⟩ => ⟨h, e.symm⟩)))
            go_wp2
            exact bodyPost_ret (v := .tuple #[.int .i64 2, .int .u64 (numL (t.extract 1 9).data.toList : Int), .string (t.extract 9 t.size), .int .i64 0]) (by simp [results, Try.results39, go_sem]) rfl ⟨by rw [HT.out, H1.out], Tr_below_drewN hb1 _⟩
      · have HT := Lib.hid (show unpackRes s = (0, 0, ByteArray.empty, 1) by
          rw [HU2.out]; unfold unpackT; rw [HB.out, if_pos (by omega)])
        have hcs : t[0].toNat = 0 ∨ 2 < t[0].toNat ∨ (t[0].toNat = 2 ∧ 9 < t.size) := by omega
        clear HU2 hok
        rcases hcs with h1 | h1 | ⟨h1, h2⟩
        · have h1i : (t[0].toNat : Int) = 0 := by omega
          have H1 := Lib.hid h1i; clear h1
          go_wp2
          exact bodyPost_ret (v := .tuple #[.int .i64 0, .int .u64 0, .string ⟨#[]⟩, .int .i64 1]) (by simp [results, Try.results39, go_sem]) rfl ⟨by rw [HT.out]; rfl, hb1⟩
        · have hg2 : (2 : Int) < (t[0].toNat : Int) := by omega
          have hg3 : ¬ (t[0].toNat : Int) < 1 := by omega
          have hg4 : ((t[0].toNat : Int) != 1) = true := bne_iff_ne.2 (by omega)
          have hg5 : ((t[0].toNat : Int) != 2) = true := bne_iff_ne.2 (by omega)
          clear h1
          go_wp2
          exact bodyPost_ret (v := .tuple #[.int .i64 0, .int .u64 0, .string ⟨#[]⟩, .int .i64 1]) (by simp [results, Try.results39, go_sem]) rfl ⟨by rw [HT.out]; rfl, hb1⟩
        · have h1i : (t[0].toNat : Int) = 2 := by omega
          have hns : (9 : Int) < (t.size : Int) := by omega
          have hnb : ((t.size : Int) != 9) = true := bne_iff_ne.2 (by omega)
          clear h2
          have H1 := Lib.hid h1i; clear h1
          go_wp2
          exact bodyPost_ret (v := .tuple #[.int .i64 0, .int .u64 0, .string ⟨#[]⟩, .int .i64 1]) (by simp [results, Try.results39, go_sem]) rfl ⟨by rw [HT.out]; rfl, hb1⟩
  · have HT := Lib.hid (show unpackRes s = (0, 0, ByteArray.empty, er) by rw [HU.out, if_pos he])
    have heb : (er != 0) = true := bne_iff_ne.2 he
    clear HU he
    go_wp2
    exact bodyPost_ret (v := .tuple #[.int .i64 0, .int .u64 0, .string ⟨#[]⟩, .int .i64 er]) (by simp [results, Try.results39, go_sem]) rfl ⟨by rw [HT.out]; rfl, hb1⟩

set_option maxHeartbeats 2000000 in
theorem refUnpack_any (s : ByteArray) (w : World) (hm : s.size ≤ 140737488351232) :
    Calls Try.prog 40 #[.string s] w fun e w' => e = .returned (.tuple #[.int .i64 (unpackRes s).1, .int .u64 ((unpackRes s).2.1 : Int), .string (unpackRes s).2.2.1, .int .i64 (unpackRes s).2.2.2]) ∧ Below w.heap.size w w' := by
  have hos := openRes_size s
  go_enter Try.func40, Try.ntmps40
  go_wp2_with fail
  refine (refOpen_any s w hm).mono ?_
  rintro e w1 ⟨rfl, hb1⟩
  have HU := Lib.hid (show unpackRes s = if (openRes s).2 ≠ 0 then (0, 0, ByteArray.empty, (openRes s).2) else unpackT (openRes s).1 from rfl)
  obtain ⟨er, her⟩ : ∃ er, (openRes s).2 = er := ⟨_, rfl⟩
  obtain ⟨t, ht⟩ : ∃ t, (openRes s).1 = t := ⟨_, rfl⟩
  rw [her, ht] at HU ⊢
  rw [ht] at hos
  have HE := Lib.hid her
  clear her ht
  by_cases he : er = 0
  · subst he
    have HU2 := Lib.hid (show unpackRes s = unpackT t by rw [HU.out, if_neg (fun h => h rfl)])
    clear HU
    by_cases h9 : t.size < 9
    · have HT := Lib.hid (show unpackRes s = (0, 0, ByteArray.empty, 1) by rw [HU2.out]; unfold unpackT; rw [if_pos (.inl h9)])
      have h9z : (t.size : Int) < 9 := by omega
      clear HU2 h9
      go_wp2
      exact bodyPost_ret (v := .tuple #[.int .i64 0, .int .u64 0, .string ⟨#[]⟩, .int .i64 1]) (by simp [results, Try.results40, go_sem]) rfl ⟨by rw [HT.out]; rfl, hb1⟩
    · have h9z : ¬ (t.size : Int) < 9 := by omega
      have h0z : (0 : Int) < (t.size : Int) := by omega
      have h0n : 0 < t.size := by omega
      have hbyte : first t = t[0].toNat := by unfold first; rw [show t.data.toList[0]? = some t[0] from by rw [Array.getElem?_toList]; exact Array.getElem?_eq_getElem h0n]; rfl
      have hlt := UInt8.toNat_lt t[0]
      have HB := Lib.hid hbyte
      clear hbyte
      by_cases hok : t[0].toNat = 1 ∨ (t[0].toNat = 2 ∧ t.size = 9)
      · by_cases hlong : 809 < t.size
        · have HT := Lib.hid (show unpackRes s = (0, 0, ByteArray.empty, 4) by
            rw [HU2.out]; unfold unpackT; rw [HB.out, if_neg (by omega), if_pos hlong])
          have hlz : (809 : Int) < (t.size : Int) := by omega
          have h1 : t[0].toNat = 1 := by omega
          have h1i : (t[0].toNat : Int) = 1 := by omega
          clear hok HU2
          have H1 := Lib.hid h1i; clear h1
          go_wp2
          exact bodyPost_ret (v := .tuple #[.int .i64 0, .int .u64 0, .string ⟨#[]⟩, .int .i64 4]) (by simp [results, Try.results40, go_sem]) rfl ⟨by rw [HT.out]; rfl, hb1⟩
        · have hlz : ¬ (809 : Int) < (t.size : Int) := by omega
          have HT := Lib.hid (show unpackRes s = ((t[0].toNat : Int), numL (t.extract 1 9).data.toList, t.extract 9 t.size, 0) by
            rw [HU2.out]; unfold unpackT; rw [HB.out, if_neg (by omega), if_neg hlong])
          have h19 : (9 : Int) ≤ (t.size : Int) := by omega
          have h19n : 9 ≤ t.size := by omega
          have hx9 : (t.extract 1 9).size ≤ 8 := by rw [ByteArray.size_extract]; omega
          have hw0 : IntKind.i64.wrap (t[0].toNat : Int) = (t[0].toNat : Int) := IntWalk.i64_in _ (by omega)
          rcases hok with h1 | ⟨h1, h2⟩
          · have h1i : (t[0].toNat : Int) = 1 := by omega
            clear HU2
            have H1 := Lib.hid h1i; clear h1
            go_wp2
            go_quiet ((go_at_call 59; exact Calls.quiet_of_same ((refNumber_any _ _ hx9).mono fun _ _ ⟨h, e⟩ => ⟨h, e.symm⟩)))
            go_wp2
            exact bodyPost_ret (v := .tuple #[.int .i64 1, .int .u64 (numL (t.extract 1 9).data.toList : Int), .string (t.extract 9 t.size), .int .i64 0]) (by simp [results, Try.results40, go_sem]) rfl ⟨by rw [HT.out, H1.out], Tr_below_drewN hb1 _⟩
          · have h1i : (t[0].toNat : Int) = 2 := by omega
            have hns : ¬ (9 : Int) < (t.size : Int) := by omega
            have hnb : ((t.size : Int) != 9) = false := by rw [h2]; rfl
            have hlong2 : ¬ 800 < (t.size : Int) - 9 := by omega
            clear HU2 h2
            have H1 := Lib.hid h1i; clear h1
            go_wp2
            go_quiet ((go_at_call 59; exact Calls.quiet_of_same ((refNumber_any _ _ hx9).mono fun _ _ ⟨h, e⟩ => ⟨h, e.symm⟩)))
            go_wp2
            exact bodyPost_ret (v := .tuple #[.int .i64 2, .int .u64 (numL (t.extract 1 9).data.toList : Int), .string (t.extract 9 t.size), .int .i64 0]) (by simp [results, Try.results40, go_sem]) rfl ⟨by rw [HT.out, H1.out], Tr_below_drewN hb1 _⟩
      · have HT := Lib.hid (show unpackRes s = (0, 0, ByteArray.empty, 1) by
          rw [HU2.out]; unfold unpackT; rw [HB.out, if_pos (by omega)])
        have hcs : t[0].toNat = 0 ∨ 2 < t[0].toNat ∨ (t[0].toNat = 2 ∧ 9 < t.size) := by omega
        clear HU2 hok
        rcases hcs with h1 | h1 | ⟨h1, h2⟩
        · have h1i : (t[0].toNat : Int) = 0 := by omega
          have H1 := Lib.hid h1i; clear h1
          go_wp2
          exact bodyPost_ret (v := .tuple #[.int .i64 0, .int .u64 0, .string ⟨#[]⟩, .int .i64 1]) (by simp [results, Try.results40, go_sem]) rfl ⟨by rw [HT.out]; rfl, hb1⟩
        · have hg2 : (2 : Int) < (t[0].toNat : Int) := by omega
          have hg3 : ¬ (t[0].toNat : Int) < 1 := by omega
          have hg4 : ((t[0].toNat : Int) != 1) = true := bne_iff_ne.2 (by omega)
          have hg5 : ((t[0].toNat : Int) != 2) = true := bne_iff_ne.2 (by omega)
          clear h1
          go_wp2
          exact bodyPost_ret (v := .tuple #[.int .i64 0, .int .u64 0, .string ⟨#[]⟩, .int .i64 1]) (by simp [results, Try.results40, go_sem]) rfl ⟨by rw [HT.out]; rfl, hb1⟩
        · have h1i : (t[0].toNat : Int) = 2 := by omega
          have hns : (9 : Int) < (t.size : Int) := by omega
          have hnb : ((t.size : Int) != 9) = true := bne_iff_ne.2 (by omega)
          clear h2
          have H1 := Lib.hid h1i; clear h1
          go_wp2
          exact bodyPost_ret (v := .tuple #[.int .i64 0, .int .u64 0, .string ⟨#[]⟩, .int .i64 1]) (by simp [results, Try.results40, go_sem]) rfl ⟨by rw [HT.out]; rfl, hb1⟩
  · have HT := Lib.hid (show unpackRes s = (0, 0, ByteArray.empty, er) by rw [HU.out, if_pos he])
    have heb : (er != 0) = true := bne_iff_ne.2 he
    clear HU he
    go_wp2
    exact bodyPost_ret (v := .tuple #[.int .i64 0, .int .u64 0, .string ⟨#[]⟩, .int .i64 er]) (by simp [results, Try.results40, go_sem]) rfl ⟨by rw [HT.out]; rfl, hb1⟩

end Go.Proofs.Ytgacphicgglogaa
