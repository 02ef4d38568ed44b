import Derived.Test.YtjjphiecjhijiaaDoorIter
namespace Go.Proofs.YtjjphiecjhijiaaDoor
open Go.RowKit

section
variable {P : Program} {K : Type} [DecidableEq K] {enc : K → Value} {t : TypeId}

theorem findNow_of {d : TypeDesc} (h : ∀ k k', Instr.sameNow d (enc k) (enc k') = some (decide (k = k'))) (k : K) : ∀ (es : List MapEntry) (m : List (K × Value)) (i : Nat), es.map (fun e => (e.key, e.val)) = m.map (fun x => (enc x.1, x.2)) → Instr.findNow d (enc k) es i = some (findM k m i)
  | [], [], _, _ => rfl
  | [], _ :: _, _, he => by simp at he
  | _ :: _, [], _, he => by simp at he
  | e :: es, (k', v) :: m, i, he => by
    simp only [List.map_cons, List.cons.injEq, Prod.mk.injEq] at he
    obtain ⟨⟨h1, h2⟩, h3⟩ := he
    simp only [Instr.findNow, findM, h1, h]
    by_cases hk : k = k'
    · simp [hk, h2]
    · simp only [hk, decide_false, if_false]
      exact findNow_of h k es m (i + 1) h3
theorem findAsking_of (h : ∀ k k' w, (Op.equal t (enc k) (enc k')).run P w = .ok (decide (k = k')) w) (k : K) : ∀ (es : List MapEntry) (m : List (K × Value)) (i : Nat) (w : World), es.map (fun e => (e.key, e.val)) = m.map (fun x => (enc x.1, x.2)) → (Instr.findAsking t (enc k) es i).run P w = .ok (findM k m i) w
  | [], [], _, _, _ => rfl
  | [], _ :: _, _, _, he => by simp at he
  | _ :: _, [], _, _, he => by simp at he
  | e :: es, (k', v) :: m, i, w, he => by
    simp only [List.map_cons, List.cons.injEq, Prod.mk.injEq] at he
    obtain ⟨⟨h1, h2⟩, h3⟩ := he
    simp only [Instr.findAsking, findM, Sem.run_bind, h1, h, Result.andThen_ok]
    by_cases hk : k = k'
    · simp [hk, h2]
    · simp only [hk, decide_false, if_false, Bool.false_eq_true]
      exact findAsking_of h k es m (i + 1) w h3

theorem KeyT.of_now {d : TypeDesc} (hd : P.underlying t = some d) (h : ∀ k k', Instr.sameNow d (enc k) (enc k') = some (decide (k = k'))) (hc : ∀ (b : Bool) (k : K) (w : World), (Instr.checkKey b 10000 t (enc k)).run P w = .ok () w) (hs : ∀ k : K, Instr.sameBits 10000 (enc k) (enc k) = true) : KeyT P t K enc where
  find := fun k es m w he => by simp [Instr.findKey, run_underlying hd, findNow_of h k es m 0 he, Result.andThen]
  check := hc
  same := hs
theorem KeyT.of_ask {d : TypeDesc} (hd : P.underlying t = some d) (h0 : ∀ k k', Instr.sameNow d (enc k) (enc k') = none) (h : ∀ k k' w, (Op.equal t (enc k) (enc k')).run P w = .ok (decide (k = k')) w) (hc : ∀ (b : Bool) (k : K) (w : World), (Instr.checkKey b 10000 t (enc k)).run P w = .ok () w) (hs : ∀ k : K, Instr.sameBits 10000 (enc k) (enc k) = true) : KeyT P t K enc where
  find := fun k es m w he => by
    cases es with
    | nil =>
      cases m with
      | nil => simp [Instr.findKey, run_underlying hd, Instr.findNow, findM, Result.andThen]
      | cons x m => simp at he
    | cons e es =>
      have hn : Instr.findNow d (enc k) (e :: es) 0 = none := by
        cases m with
        | nil => simp at he
        | cons x m =>
          simp only [List.map_cons, List.cons.injEq, Prod.mk.injEq] at he
          simp [Instr.findNow, he.1.1, h0]
      simp [Instr.findKey, run_underlying hd, hn, findAsking_of h k _ m 0 w he, Result.andThen]
  check := hc
  same := hs

theorem checkKey_int (q : IntKind) (hd : P.underlying t = some (.int q)) (n : Int) (b : Bool) (k : Nat) (w : World) : (Instr.checkKey b (k + 1) t (.int q n)).run P w = .ok () w := by
  simp [Instr.checkKey, run_underlying hd, Result.andThen]
theorem sameBits_int (q : IntKind) (n : Int) (k : Nat) : Instr.sameBits k (.int q n) (.int q n) = true := by
  cases k <;> simp [Instr.sameBits]
theorem KeyT_nat (q : IntKind) (hd : P.underlying t = some (.int q)) : KeyT P t Nat (fun n => .int q n) :=
  KeyT.of_now hd (fun k k' => by simp [Instr.sameNow]; rw [Bool.eq_iff_iff]; simp; omega) (fun b k w => checkKey_int q hd _ b 9999 w) (fun k => sameBits_int q _ 10000)
theorem KeyT_int (q : IntKind) (hd : P.underlying t = some (.int q)) : KeyT P t Int (fun n => .int q n) :=
  KeyT.of_now hd (fun k k' => by simp [Instr.sameNow]; rw [Bool.eq_iff_iff]; simp) (fun b k w => checkKey_int q hd _ b 9999 w) (fun k => sameBits_int q _ 10000)
end

def enc2 (x : Int × Int) : Value := .agg #[.int .i64 x.1, .int .i64 x.2]
def enc3 (x : Int × Int × Int) : Value := .agg #[.int .i64 x.1, .int .i64 x.2.1, .int .i64 x.2.2]
def encU (n : Nat) : Value := .int .u64 n
def encI (n : Int) : Value := .int .i64 n

theorem keyU91 : KeyT Tryd.prog 91 Nat encU := KeyT_nat .u64 Tryd.underlying91
theorem keyU107 : KeyT Tryd.prog 107 Nat encU := KeyT_nat .u64 Tryd.underlying107
theorem keyI3 : KeyT Tryd.prog 3 Int encI := KeyT_int .i64 Tryd.underlying3
theorem eq73 (k k' : Int × Int) (n : Nat) (w : World) : (Op.equalIn (n + 2) 73 (enc2 k) (enc2 k')).run Tryd.prog w = .ok (decide (k = k')) w := by
  obtain ⟨a, b⟩ := k
  obtain ⟨c, d⟩ := k'
  simp only [enc2]
  by_cases h1 : a = c <;> by_cases h2 : b = d <;> simp [go_sem, h1, h2]
theorem chk73 (k : Int × Int) (b : Bool) (n : Nat) (w : World) : (Instr.checkKey b (n + 2) 73 (enc2 k)).run Tryd.prog w = .ok () w := by
  simp only [enc2]
  simp [go_sem, Instr.checkKey]
theorem eq81 (k k' : Int × Int × Int) (n : Nat) (w : World) : (Op.equalIn (n + 2) 81 (enc3 k) (enc3 k')).run Tryd.prog w = .ok (decide (k = k')) w := by
  obtain ⟨a, b, c⟩ := k
  obtain ⟨d, e, f⟩ := k'
  simp only [enc3]
  by_cases h1 : a = d <;> by_cases h2 : b = e <;> by_cases h3 : c = f <;> simp [go_sem, h1, h2, h3]
theorem chk81 (k : Int × Int × Int) (b : Bool) (n : Nat) (w : World) : (Instr.checkKey b (n + 2) 81 (enc3 k)).run Tryd.prog w = .ok () w := by
  simp only [enc3]
  simp [go_sem, Instr.checkKey]
theorem sameBits2 (k : Int × Int) (n : Nat) : Instr.sameBits (n + 1) (enc2 k) (enc2 k) = true := by simp [enc2, Instr.sameBits, sameBits_int]
theorem sameBits3 (k : Int × Int × Int) (n : Nat) : Instr.sameBits (n + 1) (enc3 k) (enc3 k) = true := by simp [enc3, Instr.sameBits, sameBits_int]
theorem key73 : KeyT Tryd.prog 73 (Int × Int) enc2 :=
  KeyT.of_ask Tryd.underlying73 (fun _ _ => rfl) (fun k k' w => eq73 k k' 9998 w) (fun b k w => chk73 k b 9998 w) (fun k => sameBits2 k 9999)
theorem key81 : KeyT Tryd.prog 81 (Int × Int × Int) enc3 :=
  KeyT.of_ask Tryd.underlying81 (fun _ _ => rfl) (fun k k' w => eq81 k k' 9998 w) (fun b k w => chk81 k b 9998 w) (fun k => sameBits3 k 9999)
end Go.Proofs.YtjjphiecjhijiaaDoor
