/- besomref02.Number walked. -/
import Derived.Test.YtdbfnonpndlejaaDoorBase
import Derived.Lib.ItoaNum
import Derived.Laws.BytesString
namespace Go.Proofs.YtdbfnonpndlejaaDoor
open Go.RowKit

theorem dec_small (k : Nat) (h : k < 10) : Lib.decDigits k = [UInt8.ofNat (48 + k)] := by rw [Lib.decDigits, dif_pos h]
theorem dec_big (k : Nat) (h : ¬ k < 10) : Lib.decDigits k = Lib.decDigits (k / 10) ++ [UInt8.ofNat (48 + k % 10)] := by rw [Lib.decDigits, dif_neg h]
theorem dec_len (k : Nat) : (Lib.decDigits k).length ≤ k + 1 := by
  induction k using Nat.strongRecOn with
  | _ k ih =>
    by_cases h : k < 10
    · rw [dec_small k h]; simp
    · rw [dec_big k h, List.length_append]
      have := ih (k / 10) (by omega)
      simp
      omega
theorem bapp (a b : List UInt8) : (⟨a.toArray⟩ : ByteArray) ++ ⟨b.toArray⟩ = ⟨(a ++ b).toArray⟩ := by
  apply ByteArray.ext
  simp [ByteArray.data_append]
theorem bapp_nil (a : ByteArray) : (⟨#[]⟩ : ByteArray) ++ a = a := by
  apply ByteArray.ext
  simp [ByteArray.data_append]
/-- A row of one new byte, as a string. -/
theorem conv_one (w : World) (d : Nat) : (convert 87 9 (.slice (some ⟨w.heap.size, 0, none⟩) 1 1)).run Tryd.prog (w.alloc (.cells #[.int .u8 d] 5)) = .ok (.string ⟨#[UInt8.ofNat d]⟩) (w.alloc (.cells #[.int .u8 d] 5)) := by
  rw [run_convert_bytes_string (e := 5) _ _ _ _ _ _ Tryd.underlying87 Tryd.underlying5 Tryd.underlying9]
  rw [run_bytesToString (ns := [(d : Int)])]
  · simp [ByteArray.push, ByteArray.empty, ByteArray.emptyWithCapacity]
    rfl
  · simp [loadCells, go_sem]
set_option maxRecDepth 100000 in
set_option maxHeartbeats 1000000 in
theorem refNumber_any (n : Nat) (hn : n ≤ 1000) (w : World) :
    Calls Tryd.prog 52 #[.int .i64 n] w fun e w' => e = .returned (.string ⟨(Lib.decDigits n).toArray⟩) ∧ Below w.heap.size w w' := by
  go_enter Tryd.func52, Tryd.ntmps52
  go_wp2_with fail
  go_loopw [0, 3] (fun a s wr => ∃ (k : Nat) (acc : List UInt8), k ≤ 1000 ∧ a = .int .i64 k ∧ s = .string ⟨acc.toArray⟩ ∧ Lib.decDigits n = Lib.decDigits k ++ acc ∧ Below w.heap.size w wr) (fun a _ _ => (intOf a).toNat)
  case atStart => exact ⟨n, [], hn, rfl, rfl, by simp, Below.refl _ _⟩
  case round =>
    obtain ⟨k, acc, hk, rfl, rfl, hd, hb⟩ := hrel
    have HD := hid hd
    clear hd
    have hc := conv_one wr (48 + k % 10)
    rw [show ((48 + k % 10 : Nat) : Int) = 48 + (k : Int) % 10 by omega] at hc
    have hal : acc.length ≤ 1001 := by
      have h1 := dec_len n
      have h2 := congrArg List.length HD.out
      rw [List.length_append] at h2
      omega
    have haf : (9223372036854775807 < 1 + acc.length) = False := by simp; omega
    have hfin := hid (fun (h : k / 10 = 0) => (dec_small k (by omega)))
    have hgo := hid (fun (h : k / 10 ≠ 0) => (dec_big k (by omega)))
    obtain ⟨u, hu⟩ : ∃ u, UInt8.ofNat (48 + k % 10) = u := ⟨_, rfl⟩
    rw [hu] at hc hgo
    have HU := hid hu
    clear hu hal
    go_wp2_with fail
    · have h0 : ((k : Int) / 10 == 0) = true := by assumption
      have hk10 : k < 10 := by simp at h0; omega
      go_ret
      refine ⟨?_, hb.alloc hb.size _⟩
      rw [bapp_nil, show (#[u] : Array UInt8) = [u].toArray from rfl, bapp, HD.out, hfin.out (by omega), ← HU.out, show 48 + k % 10 = 48 + k by omega]
      rfl
    · have h0 : ((k : Int) / 10 == 0) = false := by assumption
      have hk10 : ¬ k < 10 := by simp at h0; omega
      refine ⟨⟨k / 10, u :: acc, by omega, by simp, ?_, ?_, hb.alloc hb.size _⟩, by simp [intOf]; omega⟩
      · rw [show (#[u] : Array UInt8) = [u].toArray from rfl, bapp]; rfl
      · rw [HD.out, hgo.out (by omega), List.append_assoc]; rfl
end Go.Proofs.YtdbfnonpndlejaaDoor
