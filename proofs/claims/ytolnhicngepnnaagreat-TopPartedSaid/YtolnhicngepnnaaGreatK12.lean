/- contact: still. -/
import Derived.Test.YtolnhicngepnnaaGreatX3
import Derived.Deep.Upon
import Derived.OwnWalkIn
namespace Go.Proofs.YtolnhicngepnnaaGreat
open Go.RowKit

def movesB (b : BodyD) : Bool := !b.out && !restM b.m
def stillS (s : List BodyD) : Bool := !(s.any movesB)
set_option maxRecDepth 100000 in
theorem still144_any (b : BodyD) (w : World) : Calls Tryz.prog 144 #[b.v] w fun e w' => e = .returned (.bool (movesB b)) ∧ Below w.heap.size w w' := by
  obtain ⟨team, n, ⟨x, y, vx, vy, sp⟩, out⟩ := b
  obtain ⟨W1, hW1⟩ : ∃ W1, w.alloc (.cells #[.int .i64 team, .int .i64 n, .int .i64 x, .int .i64 y, .int .i64 vx, .int .i64 vy, .int .i64 sp, .bool out] 174) = W1 := ⟨_, rfl⟩
  have HB := hid (show Below w.heap.size w W1 by rw [← hW1]; exact (Below.refl _ w).alloc (Nat.le_refl _) _)
  have h0 : W1.heap[w.heap.size]? = some (.cells #[.int .i64 team, .int .i64 n, .int .i64 x, .int .i64 y, .int .i64 vx, .int .i64 vy, .int .i64 sp, .bool out] 174 (0, 0)) := by rw [← hW1]; exact heap_alloc_new w _
  have HW := hid hW1
  have HR := hid (show movesB ⟨team, n, ⟨x, y, vx, vy, sp⟩, out⟩ = (!out && !restM ⟨x, y, vx, vy, sp⟩) from rfl)
  have HC := hid (fun W => (show Calls Tryz.prog 130 #[.agg #[.int .i64 team, .int .i64 n, .int .i64 x, .int .i64 y, .int .i64 vx, .int .i64 vy, .int .i64 sp, .bool out]] W fun e w' => e = .returned (.bool (restM ⟨x, y, vx, vy, sp⟩)) ∧ Below W.heap.size W w' from rests130_any ⟨team, n, ⟨x, y, vx, vy, sp⟩, out⟩ W))
  generalize movesB ⟨team, n, ⟨x, y, vx, vy, sp⟩, out⟩ = r at *
  generalize restM ⟨x, y, vx, vy, sp⟩ = q at *
  have q0 := cellN (i := 0) (v := .int .i64 team) h0 rfl
  have q1 := cellN (i := 1) (v := .int .i64 n) h0 rfl
  have q2 := cellN (i := 2) (v := .int .i64 x) h0 rfl
  have q3 := cellN (i := 3) (v := .int .i64 y) h0 rfl
  have q4 := cellN (i := 4) (v := .int .i64 vx) h0 rfl
  have q5 := cellN (i := 5) (v := .int .i64 vy) h0 rfl
  have q6 := cellN (i := 6) (v := .int .i64 sp) h0 rfl
  have q7 := cellN (i := 7) (v := .bool out) h0 rfl
  clear hW1 h0
  show Calls Tryz.prog 144 #[.agg #[.int .i64 team, .int .i64 n, .int .i64 x, .int .i64 y, .int .i64 vx, .int .i64 vy, .int .i64 sp, .bool out]] w _
  go_enter Tryz.func144, Tryz.ntmps144
  go_upto_region 1 with fail
  rw [HW.out]
  clear HW
  cases out with
  | true =>
    go_wp2_with fail
    go_ret
    exact ⟨ret_bool (by rw [HR.out]; rfl), HB.out⟩
  | false =>
    go_wp2_with fail
    refine (HC.out _).mono ?_
    rintro e w2 ⟨rfl, hb⟩
    go_wp2_with fail
    go_ret
    exact ⟨ret_bool (by rw [HR.out]; rfl), HB.out.trans (hb.mono HB.out.size)⟩
set_option maxRecDepth 100000 in
set_option maxHeartbeats 2000000 in
theorem index179_any (v : Value) (l : List BodyD) (w : World) (hs : SlB w v l) :
    Calls Tryz.prog 179 #[v, .func (.func 144) #[] #[]] w fun e w' => e = .returned (.int .i64 (idxOf movesB l)) ∧ Below w.heap.size w w' := by
  obtain ⟨a, cap, rfl, hl, hc⟩ := hs.open
  clear hs
  have HF := hid (fun (b : BodyD) (W : World) => still144_any b W)
  have HC := hid hc
  clear hc
  obtain ⟨p, hpe⟩ : ∃ p : BodyD → Bool, movesB = p := ⟨_, rfl⟩
  rw [hpe] at HF ⊢
  clear hpe
  go_enter Tryz.func179, Tryz.ntmps179
  go_wp2
  go_loopw [8] (fun i wr => ∃ k : Nat, k ≤ l.length ∧ i = .int .i64 k ∧ Below w.heap.size w wr ∧ ∀ j (h : j < l.length), j < k → p l[j] = false) (fun i _ => l.length - (intOf i).toNat)
  case atStart => exact ⟨0, Nat.zero_le _, rfl, Below.refl _ _, by omega⟩
  case round =>
    obtain ⟨k, hk, rfl, hb, hno⟩ := hrel
    have HN := hid hno
    clear hno
    by_cases hlt : k < l.length
    · obtain ⟨b, off, rfl, hbl, hc⟩ := HC.out k hlt
      have hx0 := (hb.cell (p := ⟨b, off + k * 8 + 0, none⟩) hbl).trans (hc k hlt 0 (by omega))
      have hx1 := (hb.cell (p := ⟨b, off + k * 8 + 1, none⟩) hbl).trans (hc k hlt 1 (by omega))
      have hx2 := (hb.cell (p := ⟨b, off + k * 8 + 2, none⟩) hbl).trans (hc k hlt 2 (by omega))
      have hx3 := (hb.cell (p := ⟨b, off + k * 8 + 3, none⟩) hbl).trans (hc k hlt 3 (by omega))
      have hx4 := (hb.cell (p := ⟨b, off + k * 8 + 4, none⟩) hbl).trans (hc k hlt 4 (by omega))
      have hx5 := (hb.cell (p := ⟨b, off + k * 8 + 5, none⟩) hbl).trans (hc k hlt 5 (by omega))
      have hx6 := (hb.cell (p := ⟨b, off + k * 8 + 6, none⟩) hbl).trans (hc k hlt 6 (by omega))
      have hx7 := (hb.cell (p := ⟨b, off + k * 8 + 7, none⟩) hbl).trans (hc k hlt 7 (by omega))
      clear hc HC
      generalize hxe : l[k] = x at *
      have HX := hid hxe
      clear hxe
      have hcall := hid (HF.out x wr)
      obtain ⟨pb, hpb⟩ : ∃ b, p x = b := ⟨_, rfl⟩
      rw [hpb] at hcall
      have HPB := hid hpb
      clear hpb
      obtain ⟨team, n, ⟨px, py, vx, vy, sp⟩, out⟩ := x
      have y0 : wr.cell? ⟨b, off + k * 8, none⟩ = some (.int .i64 team) := hx0
      have y1 : wr.cell? ⟨b, off + k * 8 + 1, none⟩ = some (.int .i64 n) := hx1
      have y2 : wr.cell? ⟨b, off + k * 8 + 2, none⟩ = some (.int .i64 px) := hx2
      have y3 : wr.cell? ⟨b, off + k * 8 + 3, none⟩ = some (.int .i64 py) := hx3
      have y4 : wr.cell? ⟨b, off + k * 8 + 4, none⟩ = some (.int .i64 vx) := hx4
      have y5 : wr.cell? ⟨b, off + k * 8 + 5, none⟩ = some (.int .i64 vy) := hx5
      have y6 : wr.cell? ⟨b, off + k * 8 + 6, none⟩ = some (.int .i64 sp) := hx6
      have y7 : wr.cell? ⟨b, off + k * 8 + 7, none⟩ = some (.bool out) := hx7
      clear hx0 hx1 hx2 hx3 hx4 hx5 hx6 hx7
      have hcall := hid (show Calls Tryz.prog 144 #[.agg #[.int .i64 team, .int .i64 n, .int .i64 px, .int .i64 py, .int .i64 vx, .int .i64 vy, .int .i64 sp, .bool out]] wr fun e w' => e = .returned (.bool pb) ∧ Below wr.heap.size wr w' from hcall.out)
      have HB := hid hb
      clear hb
      go_wp2_with fail
      refine hcall.out.mono ?_
      rintro e w' ⟨rfl, hb2⟩
      clear hcall y0 y1 y2 y3 y4 y5 y6 y7
      have HB2 := hid (HB.out.trans (hb2.mono HB.out.size))
      clear hb2 HB
      cases pb with
      | true =>
        go_wp2_with fail
        go_ret
        exact ⟨ret_int (idxOf_hit p l k hlt HN.out (by rw [HX.out]; exact HPB.out)).symm, HB2.out⟩
      | false =>
        go_wp2_with fail
        refine ⟨⟨k + 1, by omega, by go_num, HB2.out, ?_⟩, by simp only [intOf]; omega⟩
        intro j hj hjk
        by_cases e : j = k
        · subst e; rw [HX.out]; exact HPB.out
        · exact HN.out j hj (by omega)
    · have HB := hid hb
      clear hb
      go_wp2_with fail
      go_ret
      exact ⟨ret_int (idxOf_none p l (fun j h => HN.out j h (by omega))).symm, HB.out⟩
theorem contains143_any (v : Value) (l : List BodyD) (w : World) (hs : SlB w v l) :
    Calls Tryz.prog 143 #[v, .func (.func 144) #[] #[]] w fun e w' => e = .returned (.bool (l.any movesB)) ∧ Below w.heap.size w w' := by
  have HI := hid (index179_any v l w hs)
  have HA := hid (idxOf_any movesB l)
  obtain ⟨a, cap, rfl, -, -⟩ := hs.open
  clear hs
  generalize l.any movesB = r at *
  generalize idxOf movesB l = i at *
  go_enter Tryz.func143, Tryz.ntmps143
  go_wp2_with fail
  refine HI.out.mono ?_
  rintro e w2 ⟨rfl, hb⟩
  have HB := hid hb
  clear hb
  go_wp2_with fail
  go_ret
  exact ⟨ret_bool HA.out, HB.out⟩
theorem still85_any (v : Value) (l : List BodyD) (w : World) (hs : SlB w v l) :
    Calls Tryz.prog 85 #[v] w fun e w' => e = .returned (.bool (stillS l)) ∧ Below w.heap.size w w' := by
  have HI := hid (contains143_any v l w hs)
  have HA := hid (show stillS l = !(l.any movesB) from rfl)
  obtain ⟨a, cap, rfl, -, -⟩ := hs.open
  clear hs
  generalize stillS l = r at *
  generalize l.any movesB = q at *
  go_enter Tryz.func85, Tryz.ntmps85
  go_wp2_with fail
  refine HI.out.mono ?_
  rintro e w2 ⟨rfl, hb⟩
  have HB := hid hb
  clear hb
  go_wp2_with fail
  go_ret
  exact ⟨ret_bool HA.out.symm, HB.out⟩
end Go.Proofs.YtolnhicngepnnaaGreat
/- contact: the plain law of a shot. -/
namespace Go.Proofs.YtolnhicngepnnaaGreat
open Go.RowKit

/-- A shot from a tick on. -/
def runF (r : RinkD) : Nat → Nat → List BodyD → List HitD → Except Int (List BodyD × Nat × List HitD)
  | 0, t, s, hs => .ok (s, t, hs)
  | n + 1, t, s, hs => if stillS s = true then .ok (s, t, hs) else
    match tickS r t s with
    | .error c => .error c
    | .ok p => if 4096 < (hs ++ p.2).length then .error 3 else runF r n (t + 1) p.1 (hs ++ p.2)
/-- The ticks of a shot: the hits of each, and the scene behind them. -/
inductive Tr (r : RinkD) (l : List BodyD) : List (List HitD) → List BodyD → Prop
  | nil : Tr r l [] l
  | snoc {pre : List (List HitD)} {s s' : List BodyD} {h : List HitD} : Tr r l pre s → stillS s = false → tickS r (pre.length : Nat) s = .ok (s', h) → Tr r l (pre ++ [h]) s'
theorem Tr.like {r : RinkD} {l s : List BodyD} {pre : List (List HitD)} (hl : ∀ b ∈ l, b.m.ok = true) (h : Tr r l pre s) : Like l s := by
  induction h with
  | nil => exact Like.refl hl
  | snoc h1 h2 h3 ih =>
    have h4 := tickS_like ih.2.1 h3
    exact ⟨h4.1.trans ih.1, h4.2.1, h4.2.2.trans ih.2.2⟩
theorem flat_le {α : Type} (pre : List (List α)) (h : List α) : pre.flatten.length ≤ (pre ++ [h]).flatten.length := by simp
theorem runF_tr {r : RinkD} {l s : List BodyD} {pre : List (List HitD)} {most : Nat} (h : Tr r l pre s) : pre.length ≤ most → pre.flatten.length ≤ 4096 → runF r most 0 l [] = runF r (most - pre.length) pre.length s pre.flatten := by
  induction h with
  | nil => intro _ _; rfl
  | snoc h1 h2 h3 ih =>
    rename_i pre s s' hh
    intro hm hl
    have h4 := flat_le pre hh
    rw [List.length_append, List.length_singleton] at hm
    rw [ih (by omega) (by omega)]
    rw [show most - pre.length = (most - (pre.length + 1)) + 1 by omega]
    simp only [runF, h2, h3]
    rw [if_neg (by simp)]
    have h5 : (pre ++ [hh]).flatten = pre.flatten ++ hh := by simp
    have h6 : (pre ++ [hh]).length = pre.length + 1 := by simp
    rw [h5] at hl ⊢
    rw [h6, if_neg (by omega)]
theorem runF_stop {r : RinkD} {s : List BodyD} {n t : Nat} {hs : List HitD} (h : stillS s = true ∨ n = 0) : runF r n t s hs = .ok (s, t, hs) := by
  cases n with
  | zero => rfl
  | succ n =>
    rcases h with h | h
    · simp only [runF, h, if_true]
    · omega
theorem runF_err {r : RinkD} {l s : List BodyD} {pre : List (List HitD)} {most : Nat} {c : Int} (h : Tr r l pre s) (hm : pre.length < most) (hl : pre.flatten.length ≤ 4096) (h2 : stillS s = false) (h3 : tickS r (pre.length : Nat) s = .error c) : runF r most 0 l [] = .error c := by
  rw [runF_tr h (by omega) hl, show most - pre.length = (most - (pre.length + 1)) + 1 by omega]
  simp only [runF, h2, h3]
  rw [if_neg (by simp)]
theorem runF_long {r : RinkD} {l s s' : List BodyD} {pre : List (List HitD)} {hh : List HitD} {most : Nat} (h : Tr r l pre s) (hm : pre.length < most) (hl : pre.flatten.length ≤ 4096) (h2 : stillS s = false) (h3 : tickS r (pre.length : Nat) s = .ok (s', hh)) (h4 : 4096 < (pre ++ [hh]).flatten.length) : runF r most 0 l [] = .error 3 := by
  rw [runF_tr h (by omega) hl, show most - pre.length = (most - (pre.length + 1)) + 1 by omega]
  simp only [runF, h2, h3]
  rw [if_neg (by simp)]
  have h5 : (pre ++ [hh]).flatten = pre.flatten ++ hh := by simp
  rw [h5] at h4
  rw [if_pos h4]
theorem runF_end {r : RinkD} {l s : List BodyD} {pre : List (List HitD)} {most : Nat} (h : Tr r l pre s) (hm : pre.length ≤ most) (hl : pre.flatten.length ≤ 4096) (h2 : stillS s = true ∨ most ≤ pre.length) : runF r most 0 l [] = .ok (s, pre.length, pre.flatten) := by
  rw [runF_tr h hm hl]
  exact runF_stop (h2.imp id (fun h => by omega))
theorem runF_code {r : RinkD} {c : Int} : ∀ {n t : Nat} {s : List BodyD} {hs : List HitD}, runF r n t s hs = .error c → c = 3 ∨ c = 4
  | 0, t, s, hs, h => by simp [runF] at h
  | n + 1, t, s, hs, h => by
    simp only [runF] at h
    split at h
    · simp at h
    · cases hx : tickS r t s with
      | error d => rw [hx] at h; simp only [Except.error.injEq] at h; subst h; exact .inr (tickS_four hx)
      | ok p =>
        rw [hx] at h
        dsimp only at h
        split at h
        · left; simpa using h.symm
        · exact runF_code h
/-- What Shot answers. -/
def shotA (r : RinkD) (l : List BodyD) (most : Int) : Except Int (List BodyD × Nat × List HitD) :=
  if (rinkOk r l && inB most 0 6000) = true then runF r most.toNat 0 l [] else .error 2
theorem shotA_code {r : RinkD} {l : List BodyD} {most c : Int} (h : shotA r l most = .error c) : c = 2 ∨ c = 3 ∨ c = 4 := by
  unfold shotA at h
  split at h
  · exact .inr (runF_code h)
  · left; simpa using h.symm
theorem tickS_hits {r : RinkD} {t : Int} {l s : List BodyD} {hh : List HitD} (hl : ∀ b ∈ l, b.m.ok = true) (hn : l.length ≤ 16) (h : tickS r t l = .ok (s, hh)) : hh.length ≤ 2048 := by
  unfold tickS at h
  cases hg : glideTo r t l l.length with
  | error c => rw [hg] at h; simp [tickP] at h
  | ok s1 =>
    rw [hg] at h
    simp only [tickP] at h
    have h1 := glideTo_like hl hg
    cases hp : passTo r.el t s1 8 with
    | error c => rw [hp] at h; simp [afterS] at h
    | ok q =>
      rw [hp] at h
      simp only [afterS, Except.ok.injEq, Prod.mk.injEq] at h
      have h2 := passTo_hits h1.2.1 (by rw [h1.1]; exact hn) hp
      obtain ⟨-, rfl⟩ := h
      omega
end Go.Proofs.YtolnhicngepnnaaGreat
/- contact: the iterator of a shot. -/
namespace Go.Proofs.YtolnhicngepnnaaGreat
open Go.RowKit Go.Shelf
attribute [local go_sem] Oper.semAt_some

def encS (x : Value × List HitD) : Array Value := #[x.1]
def hitsOf (pre : List (Value × List HitD)) : List (List HitD) := pre.map (·.2)
/-- The next hits that the iterator hands out. -/
def NxS (r : RinkD) (l : List BodyD) (most : Nat) (pre : List (Value × List HitD)) (x : Value × List HitD) (W : World) : Prop :=
  ∃ s s', Tr r l (hitsOf pre) s ∧ stillS s = false ∧ pre.length < most ∧ tickS r (pre.length : Nat) s = .ok (s', x.2) ∧ W.ownsRow 0 86 3 x.1 x.2.length (x.2.flatMap HitD.cells)
/-- The iterator is through. -/
def DnS (r : RinkD) (l : List BodyD) (most g off N : Nat) (pre : List (Value × List HitD)) (W : World) : Prop :=
  ∃ s, Tr r l (hitsOf pre) s ∧ pre.length ≤ most ∧ (stillS s = true ∨ most ≤ pre.length) ∧ SceneAt W g off N s
/-- The iterator raises something. -/
def PnS (r : RinkD) (l : List BodyD) (most : Nat) (pre : List (Value × List HitD)) (ch : List PanicEntry) (_ : World) : Prop :=
  ∃ s c, Tr r l (hitsOf pre) s ∧ stillS s = false ∧ pre.length < most ∧ tickS r (pre.length : Nat) s = .error c ∧ ch = cmisfit c
theorem cutW (w : World) (B : Nat) (hB : B ≤ w.heap.size) : ∃ w0 : World, w0.heap.size = B ∧ Below w0.heap.size w0 w ∧ ∀ k, k < B → w0.heap[k]? = w.heap[k]? := by
  have hz : (w.heap.extract 0 B).size = B := by simp; omega
  have hk : ∀ k, k < B → (w.heap.extract 0 B)[k]? = w.heap[k]? := fun k h => by
    rw [Array.getElem?_extract]
    simp; omega
  refine ⟨{ w with heap := w.heap.extract 0 B }, hz, ⟨rfl, rfl, rfl, ?_, fun k h => ?_⟩, hk⟩
  · show (w.heap.extract 0 B).size ≤ w.heap.size
    omega
  · have h2 : k < B := by
      have h3 : k < (w.heap.extract 0 B).size := h
      omega
    exact (hk k h2).symm
theorem hitsOf_len (pre : List (Value × List HitD)) : (hitsOf pre).length = pre.length := by simp [hitsOf]
theorem hitsOf_snoc (pre : List (Value × List HitD)) (x : Value × List HitD) : hitsOf (pre ++ [x]) = hitsOf pre ++ [x.2] := by simp [hitsOf]
theorem own_slice' {w : World} {base n sz : Nat} {t : TypeId} {v : Value} {xs : List Value} (h : w.ownsRow base t sz v n xs) : ∃ a cap, v = .slice a n cap := by
  rcases h.2 with ⟨rfl, rfl⟩ | ⟨g, cap, cur, rfl, _⟩
  · exact ⟨_, _, rfl⟩
  · exact ⟨_, _, rfl⟩
set_option maxRecDepth 100000 in
set_option maxHeartbeats 8000000 in
theorem shot84_in (n : Nat) (hn : 1 ≤ n) (lp bN bS bR : Nat) (r : RinkD) (pv qv bv : Value) (a : Option Addr) (N cap g off : Nat) (l : List BodyD) (most : Nat) (B0 : World) (K : Nat → Prop) (J : (Nat → Prop) → List (Value × List HitD) → World → Prop) (Jp : List PanicEntry → World → Prop) (W : World)
    (hi : r.i.ok = true) (hgr : r.g.ok = true) (hbr : broomsOk r.bl = true) (hel : 0 ≤ r.el ∧ r.el ≤ 1000) (hl : ∀ b ∈ l, b.m.ok = true) (ha : 0 < N → a = some ⟨g, off, none⟩) (hN : N ≤ 16) (h6 : most ≤ 6000)
    (hat : RinkAt B0 r pv qv bv) (_hB0 : B0.heap.size ≤ W.heap.size) (hWB : ∀ k, k < B0.heap.size → W.heap[k]? = B0.heap[k]?) (hg : B0.heap.size ≤ g) (hgw : g < W.heap.size)
    (hK1 : ∀ k, k < B0.heap.size → K k) (hK2 : K bN ∧ K bS ∧ K bR)
    (cN : W.heap[bN]? = some (.cells #[.int .i64 (most : Int)] 3 (0, 0))) (cS : W.heap[bS]? = some (.cells #[.slice a N cap] 121 (0, 0))) (cR : W.heap[bR]? = some (.cells (r.arr pv qv bv) 118 (0, 0))) (cG : SceneAt W g off N l)
    (hJ : ∀ O pre W1 W2, J O pre W1 → Ch O W1 W2 → J (NewO O W1 W2) pre W2)
    (hKg : ¬ K g) (hKW : ∀ k, K k → k < W.heap.size)
    (hY : ∀ O pre x W1, J O pre W1 → NxS r l most pre x W1 → YieldAt Fence.wide (n - 1) Tryz.prog lp (encS x) W1 fun e W' =>
      (e = .returned (.bool true) ∧ J O (pre ++ [x]) W' ∧ W1.heap.size ≤ W'.heap.size ∧ ∀ k, O k ∨ K k → W'.heap[k]? = W1.heap[k]?) ∨ ∃ ch, e = .panicked ch ∧ Jp ch W')
    (hP : ∀ O pre ch W1, J O pre W1 → PnS r l most pre ch W1 → Jp ch W1)
    (h0 : J (fun k => k = g) [] W) :
    CallsIn Fence.wide n Tryz.prog 84 #[.func (.yield lp) #[] #[], .pointer (some ⟨bN, 0, none⟩), .pointer (some ⟨bS, 0, none⟩), .pointer (some ⟨bR, 0, none⟩)] W (SPostP J Jp (DnS r l most g off N)) := by
  have HJ := hid hJ
  have HY := hid hY
  have HP := hid hP
  have HTK := hid (fun (s : List BodyD) (k : Nat) (wo : World) (hs : ∀ b ∈ s, b.m.ok = true) (hk : k ≤ 6000) (hz : W.heap.size ≤ wo.heap.size) (hsame : ∀ j, j < B0.heap.size → wo.heap[j]? = B0.heap[j]?) (hsc : SceneAt wo g off N s) => by
    obtain ⟨w0, hz0, hb0, hk0⟩ := cutW wo B0.heap.size (by omega)
    exact tick43_any r pv qv bv a N cap g off s (k : Int) w0 wo (hat.keep (by omega) (fun j hj => (hk0 j hj).trans (hsame j hj))) hb0 (by omega) (by omega) hi hgr hbr hel (by omega) hs ha hN hsc)
  have HLK := hid (fun (pre : List (List HitD)) (s : List BodyD) (h : Tr r l pre s) => (h.like hl))
  have HLB := hid (fun (wo : World) (s : List BodyD) (h : SceneAt wo g off N s) => h.slB (cap := cap) ha hN)
  have HKK := hid (And.intro hK1 hK2)
  have HKW := hid (And.intro hKg hKW)
  have HWB := hid hWB
  have HCC := hid (And.intro cN (And.intro cS cR))
  have H6 := hid h6
  have HGW := hid hgw
  obtain ⟨⟨hpv, hqv⟩, hbv⟩ := hat
  obtain ⟨pa, pc, rfl, -, -⟩ := hpv.open
  obtain ⟨qa, qc, rfl, -, -⟩ := hqv.open
  obtain ⟨ba, bc, rfl, -, -⟩ := hbv.open
  clear hJ hY hP hKg hKW hi hgr hbr hel hl ha hN hWB hg hgw hK1 hK2 cN cS cR hpv hqv hbv h6
  refine callsIn_of_wp Tryz.func84 rfl trivial ?_ rfl
  simp only [Tryz.ntmps84, List.size_toArray, List.length_cons, List.length_nil, Nat.reduceAdd, Nat.reduceSub, Array.replicate_succ, Array.replicate_zero, List.push_toArray, List.append_toArray, List.nil_append, List.cons_append]
  gi_wp2_with fail
  gi_loopw [5] (fun x wr => ∃ (k : Nat) (O : Nat → Prop) (pre : List (Value × List HitD)) (s : List BodyD), k ≤ most ∧ x = .int .i64 k ∧ Hid (pre.length = k ∧ Tr r l (hitsOf pre) s ∧ J O pre wr ∧ O g ∧ SceneAt wr g off N s ∧ (∀ j, K j → wr.heap[j]? = W.heap[j]?) ∧ W.heap.size ≤ wr.heap.size)) (fun x _ => most - (intOf x).toNat)
  case atStart => exact ⟨0, _, [], l, Nat.zero_le _, rfl, hid ⟨rfl, .nil, h0, rfl, cG, fun _ _ => rfl, Nat.le_refl _⟩⟩
  case round =>
    obtain ⟨k, O, pre, s, hkm, rfl, HI⟩ := hrel
    obtain ⟨wo, rfl⟩ : ∃ wo, wo = wr := ⟨_, rfl⟩
    clear h0 cG
    have hbN := (HI.out.2.2.2.2.2.1 bN HKK.out.2.1).trans HCC.out.1
    have hbS := (HI.out.2.2.2.2.2.1 bS HKK.out.2.2.1).trans HCC.out.2.1
    have hbR := (HI.out.2.2.2.2.2.1 bR HKK.out.2.2.2).trans HCC.out.2.2
    have HBS := hid (And.intro hbS hbR)
    have c0 := cellN (i := 0) (v := .int .i64 (most : Int)) hbN rfl
    have c1 := cellN (i := 0) (v := .slice a N cap) hbS rfl
    clear hbN hbS hbR
    by_cases hlt : k < most
    · have hltI : (k : Int) < (most : Int) := by omega
      have HST := hid (fun W => still85_any (.slice a N cap) s W)
      have HSB := hid (HLB.out wo s HI.out.2.2.2.2.1)
      obtain ⟨sb, hsb⟩ : ∃ b, stillS s = b := ⟨_, rfl⟩
      rw [hsb] at HST
      have HSE := hid hsb
      clear hsb
      gi_wp2_with fail
      refine ⟨trivial, ?_⟩
      refine (callsIn_wide.2 (HST.out _ HSB.out)).mono ?_
      rintro e w1 ⟨rfl, hb1⟩
      have HB1 := hid hb1
      have HI1 := hid (show J (NewO O wo w1) pre w1 ∧ SceneAt w1 g off N s ∧ (∀ j, K j → w1.heap[j]? = W.heap[j]?) ∧ W.heap.size ≤ w1.heap.size from
        ⟨HJ.out _ _ _ _ HI.out.2.2.1 (Ch.of_below hb1), HI.out.2.2.2.2.1.below hb1, fun j hj => (hb1.block j (by have := HKW.out.2 j hj; have := HI.out.2.2.2.2.2.2; omega)).trans (HI.out.2.2.2.2.2.1 j hj), by have := hb1.size; have := HI.out.2.2.2.2.2.2; omega⟩)
      have HTR := hid (And.intro HI.out.1 (And.intro HI.out.2.1 HI.out.2.2.2.1))
      clear hb1 c0 c1 HST HSB HBS HI HB1
      cases sb with
      | true =>
        gi_wp2_with fail
        refine bodyPost_ret (results_none rfl _ _ _) rfl ?_
        exact ⟨_, pre, ⟨s, HTR.out.2.1, by have := HTR.out.1; omega, .inl HSE.out, HI1.out.2.1⟩, HI1.out.1⟩
      | false =>
      have hbS := (HI1.out.2.2.1 bS HKK.out.2.2.1).trans HCC.out.2.1
      have hbR := (HI1.out.2.2.1 bR HKK.out.2.2.2).trans HCC.out.2.2
      have c1 := cellN (i := 0) (v := .slice a N cap) hbS rfl
      have r0 := cellN (i := 0) (v := .int .i64 r.i.cx) hbR rfl
      have r1 := cellN (i := 1) (v := .int .i64 r.i.cy) hbR rfl
      have r2 := cellN (i := 2) (v := .int .i64 r.i.sd) hbR rfl
      have r3 := cellN (i := 3) (v := .int .i64 r.i.W) hbR rfl
      have r4 := cellN (i := 4) (v := .int .i64 r.i.H) hbR rfl
      have r5 := cellN (i := 5) (v := .slice pa r.i.pl.length pc) hbR rfl
      have r6 := cellN (i := 6) (v := .slice qa r.i.ql.length qc) hbR rfl
      have r7 := cellN (i := 7) (v := .int .i64 r.g.fl) hbR rfl
      have r8 := cellN (i := 8) (v := .int .i64 r.g.kn) hbR rfl
      have r9 := cellN (i := 9) (v := .int .i64 r.g.a) hbR rfl
      have r10 := cellN (i := 10) (v := .int .i64 r.g.b) hbR rfl
      have r11 := cellN (i := 11) (v := .int .i64 r.g.c) hbR rfl
      have r12 := cellN (i := 12) (v := .slice ba r.bl.length bc) hbR rfl
      have r13 := cellN (i := 13) (v := .int .i64 r.who) hbR rfl
      have r14 := cellN (i := 14) (v := .int .i64 r.el) hbR rfl
      have h6k := H6.out
      have HT := hid (show Calls Tryz.prog 43 #[.agg #[.int .i64 r.i.cx, .int .i64 r.i.cy, .int .i64 r.i.sd, .int .i64 r.i.W, .int .i64 r.i.H, .slice pa r.i.pl.length pc, .slice qa r.i.ql.length qc, .int .i64 r.g.fl, .int .i64 r.g.kn, .int .i64 r.g.a, .int .i64 r.g.b, .int .i64 r.g.c, .slice ba r.bl.length bc, .int .i64 r.who, .int .i64 r.el], .slice a N cap, .int .i64 k] w1 fun e w' => TickE (tickS r (k : Nat) s) g off N w1 e w' from HTK.out s k w1 (HLK.out _ _ HTR.out.2.1).2.1 (by omega) HI1.out.2.2.2 (fun j hj => (HI1.out.2.2.1 j (HKK.out.1 j hj)).trans (HWB.out j hj)) HI1.out.2.1)
      obtain ⟨x, hx⟩ : ∃ x, tickS r (k : Nat) s = x := ⟨_, rfl⟩
      rw [hx] at HT
      have HX := hid hx
      clear hx hbS hbR h6k
      gi_wp2_with fail
      refine ⟨trivial, ?_⟩
      refine (callsIn_wide.2 HT.out).mono ?_
      rintro e w2 he
      clear HT c1 r0 r1 r2 r3 r4 r5 r6 r7 r8 r9 r10 r11 r12 r13 r14
      cases x with
      | error c =>
        obtain ⟨rfl, hc⟩ := he
        refine ⟨rfl, HP.out _ pre _ w2 (HJ.out _ _ _ _ HI1.out.1 ⟨hc.1, fun j hj hO => hc.2 j hj (fun e => hO (.inl (by rw [e]; exact HTR.out.2.2)))⟩) ⟨s, c, HTR.out.2.1, HSE.out, by have := HTR.out.1; omega, by rw [HTR.out.1]; exact HX.out, rfl⟩⟩
      | ok p =>
        obtain ⟨s', hh⟩ := p
        obtain ⟨v, rfl, hrow, hsc, hc⟩ := he
        obtain ⟨va, vcap, rfl⟩ := own_slice' hrow
        dsimp only at hrow hsc
        have hJ2 := HJ.out _ _ _ _ HI1.out.1 (show Ch (NewO O wo w1) w1 w2 from ⟨hc.1, fun j hj hO => hc.2 j hj (fun e => hO (.inl (by rw [e]; exact HTR.out.2.2)))⟩)
        have HJ2 := hid hJ2
        have HK2 := hid (show (∀ j, K j → w2.heap[j]? = W.heap[j]?) ∧ W.heap.size ≤ w2.heap.size from ⟨fun j hj => (hc.2 j (by have := HKW.out.2 j hj; have := HI1.out.2.2.2; omega) (fun e => HKW.out.1 (by rw [← e]; exact hj))).trans (HI1.out.2.2.1 j hj), by have := hc.1.size; have := HI1.out.2.2.2; omega⟩)
        have HS2 := hid hsc
        obtain ⟨fn, tmps, assign, body, hy, hRR⟩ := HY.out _ pre (.slice va hh.length vcap, hh) w2 hJ2 ⟨s, s', HTR.out.2.1, HSE.out, by have := HTR.out.1; omega, by rw [HTR.out.1]; exact HX.out, own_base hrow (Nat.zero_le _)⟩
        have HRR := hid hRR
        clear hRR hJ2 hsc hc hrow HI1
        dsimp only [encS] at hy
        gi_wp2_with fail
        clear hy
        refine HRR.out.mono ?_
        rintro e w3 (⟨rfl, hJ3, hz3, hs3⟩ | ⟨ch, rfl, hjp⟩)
        · have HJ3 := hid hJ3
          have HS3 := hid hs3
          have HZ3 := hid hz3
          clear hJ3 hs3 hz3 HRR
          have h6k := H6.out
          gi_wp2_with fail
          refine ⟨⟨k + 1, _, pre ++ [(.slice va hh.length vcap, hh)], s', by omega, by go_num, hid ⟨by rw [List.length_append, HTR.out.1]; rfl, by rw [hitsOf_snoc]; exact .snoc HTR.out.2.1 HSE.out (by rw [hitsOf_len, HTR.out.1]; exact HX.out), HJ3.out, .inl (.inl HTR.out.2.2), HS2.out.keep (HS3.out g (.inl (.inl (.inl HTR.out.2.2)))), fun j hj => (HS3.out j (.inr hj)).trans (HK2.out.1 j hj), by have := HZ3.out; have := HK2.out.2; omega⟩⟩, by simp only [intOf]; omega⟩
        · exact ⟨rfl, hjp⟩
    · have hltI : ¬ (k : Int) < (most : Int) := by omega
      have hkk : k = most := by omega
      have HKM := hid hkk
      clear hkk hkm hlt
      gi_wp2_with fail
      refine ⟨trivial, ?_⟩
      gi_wp2_with fail
      refine bodyPost_ret (results_none rfl _ _ _) rfl ?_
      exact ⟨O, pre, ⟨s, HI.out.2.1, by have := HI.out.1; have := HKM.out; omega, .inr (by have := HI.out.1; have := HKM.out; omega), HI.out.2.2.2.2.1⟩, HI.out.2.2.1⟩
end Go.Proofs.YtolnhicngepnnaaGreat
/- contact: Shot's work. -/
namespace Go.Proofs.YtolnhicngepnnaaGreat
open Go.RowKit Go.Shelf
attribute [local go_sem] Oper.semAt_some

theorem hits_len (l : List HitD) : (l.flatMap HitD.cells).length = l.length * 3 := by
  induction l with
  | nil => rfl
  | cons x l ih => simp only [List.flatMap_cons, List.length_append, List.length_cons, ih]; simp [HitD.cells]; omega
theorem hits_one (l : List HitD) : ∀ u ∈ l.flatMap HitD.cells, u.oneCell' = true := by
  intro u hu
  obtain ⟨z, _, hz⟩ := List.mem_flatMap.1 hu
  simp [HitD.cells] at hz
  rcases hz with rfl | rfl | rfl <;> rfl
/-- append(hits, some...), whatever their number. -/
theorem run_append_hits (w : World) (base ty : Nat) (v : Value) (n : Nat) (xs : List Value) (hown : w.ownsRow base 86 3 v n xs) (rv : Value) (row : List HitD) (hr : w.ownsRow 0 86 3 rv row.length (row.flatMap HitD.cells)) (hsm : n + row.length ≤ 100000) (hbase : base ≤ w.heap.size) :
    ∃ a' c' w', (Builtin.append_ #[75, 75] ty #[v, rv]).run Tryz.prog w = .ok (.slice a' (n + row.length) c') w' ∧ w'.ownsRow base 86 3 (.slice a' (n + row.length) c') (n + row.length) (xs ++ row.flatMap HitD.cells) ∧ w.grownBy w' v.ownBlock ∧ ∀ k, (Value.slice a' (n + row.length) c').ownBlock = some k → v.ownBlock = some k ∨ w.heap.size ≤ k := by
  obtain ⟨i0, hi, hz0, hz1, hz2⟩ := info_parts info86
  by_cases h0 : row = []
  · subst h0
    obtain ⟨ad, cap, hv, hle⟩ : ∃ ad cap, v = .slice ad n cap ∧ n ≤ cap := by
      rcases hown.2 with ⟨e, h0⟩ | ⟨g, cap, cur, e, _, _, hle, _⟩
      · exact ⟨none, 0, by rw [e, h0], by omega⟩
      · exact ⟨_, cap, e, hle⟩
    obtain ⟨ra, rcap, rfl⟩ := own_slice' hr
    have hsrc : Src Tryz.prog 3 75 (.slice ra ([] : List HitD).length rcap) 0 [] w := by
      cases ra with
      | none => exact Src.ofNil w Tryz.underlying75 rcap
      | some a => exact Src.ofSlice w Tryz.underlying75 a 0 rcap [] (by simp) (by simp) (by simp)
    have hrun := run_append_nothing (P := Tryz.prog) w 75 75 ty 86 i0 Tryz.underlying75 hi ad n cap hle _ (by rw [hz1]; exact hsrc)
    subst hv
    refine ⟨ad, cap, w, hrun, by simpa using hown, ⟨rfl, rfl, rfl, Nat.le_refl _, fun _ _ _ => rfl⟩, fun k hk => .inl hk⟩
  · have hp : 0 < row.length := List.length_pos_iff.2 h0
    obtain ⟨g, cap, rfl, _, _⟩ := hr.form hp
    obtain ⟨g1, cap1, w', h1, h2, h3, h4, _⟩ := run_append_lies (P := Tryz.prog) w 75 ty base 86 i0 (.agg #[.int .i64 0, .int .i64 0, .int .i64 0]) 3 24 Tryz.underlying75 hi hz0 hz1 hz2 rfl (by decide) v n xs hown ⟨g, 0, none⟩ row.length cap (row.flatMap HitD.cells) (hits_len row) (hr.cells rfl) (hits_one row) hp (by unfold maxLen; omega) (by omega) hbase w.heap.size rfl
    refine ⟨_, cap1, w', h1, h2, h3, fun k hk => ?_⟩
    obtain rfl : g1 = k := by simpa [Value.ownBlock] using hk
    exact h4.imp id (fun h => by omega)
theorem wpListIn_append_hits {F : Fence} {n : Nat} (w : World) {ops : Array Oper} {rest : List Oper} {o : Oper} {a : Act} {Q : Exit → Act → World → Prop}
    (hg : o.guard = none) (s x : Operand) (hop : o.op = Op.call { callee := Callee.builtin Builtin.append, args := #[s, x], argTypes := #[75, 75] })
    (base : Nat) (v : Value) (k : Nat) (xs : List Value) (hs : a.eval s = v) (hown : w.ownsRow base 86 3 v k xs) (rv : Value) (row : List HitD) (hx : a.eval x = rv) (hr : w.ownsRow 0 86 3 rv row.length (row.flatMap HitD.cells)) (hsm : k + row.length ≤ 100000) (hbase : base ≤ w.heap.size) (M : Nat) (hM : k + row.length = M)
    (hK : ∀ a' c' w', w'.ownsRow base 86 3 (.slice a' M c') M (xs ++ row.flatMap HitD.cells) → w.grownBy w' v.ownBlock → (∀ j, (Value.slice a' M c').ownBlock = some j → v.ownBlock = some j ∨ w.heap.size ≤ j) → wpListIn F n Tryz.prog ops Q rest (a.put o.dst (.slice a' M c')) w') :
    wpListIn F n Tryz.prog ops Q (o :: rest) a w := by
  subst hM
  refine wpListIn_plain hg fun K hK' => ?_
  obtain ⟨a', c', w', hrun, r1, r2, r3⟩ := run_append_hits w base o.type v k xs hown rv row hr hsm hbase
  unfold Oper.wpIn
  refine ⟨?_, ?_⟩
  · simp [Oper.about, hop, resolve, Target.leads, Sem.run_pure]
  · rw [Oper.semAt_plain F _ _ (by rw [hop]; intro c hc'; cases hc')]
    simp [execOp, hop, resolve, invoke, builtin, hs, hx, hrun, Result.andThen]
    exact hK' _ _ (hK a' c' w' r1 r2 r3)
theorem shot46_any (r : RinkD) (pv qv bv : Value) (a : Option Addr) (N cap : Nat) (most : Int) (w : World) (hp : ∃ a n c, pv = .slice a n c) (hq : ∃ a n c, qv = .slice a n c) (hbv : ∃ a n c, bv = .slice a n c) :
    Calls Tryz.prog 46 #[.agg (r.arr pv qv bv), .slice a N cap, .int .i64 most] w fun e w' => e = .returned (.func (.func 84) #[] #[.pointer (some ⟨w.heap.size + 1 + 1, 0, none⟩), .pointer (some ⟨w.heap.size + 1, 0, none⟩), .pointer (some ⟨w.heap.size, 0, none⟩)]) ∧
      (w'.heap[w.heap.size]? = some (.cells (r.arr pv qv bv) 118 (0, 0)) ∧ w'.heap[w.heap.size + 1]? = some (.cells #[.slice a N cap] 121 (0, 0)) ∧ w'.heap[w.heap.size + 1 + 1]? = some (.cells #[.int .i64 most] 3 (0, 0))) ∧ w'.heap.size = w.heap.size + 3 ∧ Below w.heap.size w w' := by
  obtain ⟨pa, pn, pc, rfl⟩ := hp
  obtain ⟨qa, qn, qc, rfl⟩ := hq
  obtain ⟨ba, bn, bc, rfl⟩ := hbv
  obtain ⟨W1, hW1, hz, hb1, p1, p2, p3⟩ := three_new w (.cells (r.arr (.slice pa pn pc) (.slice qa qn qc) (.slice ba bn bc)) 118) (.cells #[.slice a N cap] 121) (.cells #[.int .i64 most] 3)
  have HB := hid hb1
  have HW := hid hW1
  have HP := hid (And.intro p1 (And.intro p2 p3))
  have HZ := hid hz
  have hm := run_makeFunc
  clear hb1 hW1 p1 p2 p3 hz
  unfold RinkD.arr at HW
  show Calls Tryz.prog 46 #[.agg #[_, _, _, _, _, _, _, _, _, _, _, _, _, _, _], _, _] w _
  go_enter Tryz.func46, Tryz.ntmps46
  go_upto_region 1 with fail
  rw [HW.out]
  go_wp2_with fail
  go_ret
  exact ⟨rfl, HP.out, HZ.out, HB.out⟩
/-- What a shot holds: the number of ticks, the hits; the rest as it was. -/
structure ShI (wS : World) (B g bT bH : Nat) (O : Nat → Prop) (pre : List (Value × List HitD)) (W : World) : Prop where
  tk : W.heap[bT]? = some (.cells #[.int .i64 (pre.length : Nat)] 3 (0, 0))
  hh : ∃ v, W.heap[bH]? = some (.cells #[v] 75 (0, 0)) ∧ W.ownsRow B 86 3 v (hitsOf pre).flatten.length ((hitsOf pre).flatten.flatMap HitD.cells) ∧ ∀ k, v.ownBlock = some k → ¬ O k
  hl : (hitsOf pre).flatten.length ≤ 4096
  ch : Ch (fun k => k = g ∨ k = bT ∨ k = bH) wS W
theorem ShI.kept {wS W W' : World} {B g bT bH : Nat} {O O' : Nat → Prop} {pre : List (Value × List HitD)} (h : ShI wS B g bT bH O pre W) (hb : Below 0 W W') (hk : ∀ k, k < wS.heap.size → ¬ (k = g ∨ k = bT ∨ k = bH) → W'.heap[k]? = W.heap[k]?)
    (hT : W'.heap[bT]? = W.heap[bT]?) (hH : W'.heap[bH]? = W.heap[bH]?) (hr : ∀ k cur, W.heap[k]? = some (.cells cur 86 (0, 0)) → ¬ O k → W'.heap[k]? = W.heap[k]?) (hO : ∀ k, k < W.heap.size → O' k → O k) : ShI wS B g bT bH O' pre W' := by
  obtain ⟨v, h1, h2, h3⟩ := h.hh
  refine ⟨hT.trans h.tk, ⟨v, hH.trans h1, ⟨h2.1, ?_⟩, fun k hk' hO' => ?_⟩, h.hl, h.ch.1.trans hb, fun k hkk hne => (hk k hkk hne).trans (h.ch.2 k hkk hne)⟩
  · rcases h2.2 with h4 | ⟨g1, cap, cur, rfl, hb1, hg1, h5⟩
    · exact .inl h4
    · exact .inr ⟨g1, cap, cur, rfl, hb1, (hr g1 cur hg1 (h3 g1 rfl)).trans hg1, h5⟩
  · obtain ⟨_, cur, hc⟩ := own_type h2 hk'
    exact h3 k hk' (hO k (Array.getElem?_eq_some_iff.1 hc).1 hO')
theorem ShI.grown {wS W W' : World} {B g bT bH C : Nat} {O : Nat → Prop} {pre : List (Value × List HitD)} {row : Option Nat} (h : ShI wS B g bT bH O pre W) (hg : W.grownBy W' row) (hB : wS.heap.size ≤ C) (hr : ∀ q, row = some q → C ≤ q ∧ ∃ o : Obj, W.heap[q]? = some o ∧ o.isCells = false) : ShI wS B g bT bH O pre W' := by
  have key : ∀ {k : Nat} {c : Array Value} {t : TypeId}, W.heap[k]? = some (.cells c t (0, 0)) → W'.heap[k]? = W.heap[k]? := fun {k c t} hk => by
    refine hg.block k (Array.getElem?_eq_some_iff.1 hk).1 (fun e => ?_)
    obtain ⟨o, ho, hcl⟩ := (hr k e.symm).2
    rw [hk] at ho
    cases ho
    cases hcl
  obtain ⟨v, h1, h2, h3⟩ := h.hh
  exact h.kept ⟨hg.os, hg.tape, hg.output, hg.size, fun _ h => absurd h (Nat.not_lt_zero _)⟩ (fun k hk _ => hg.block k (by have := h.ch.1.size; omega) (fun e => by have := (hr k e.symm).1; omega)) (key h.tk) (key h1) (fun k cur hk _ => key hk) (fun k _ h => h)
/-- How Shot$1 ends. -/
def Shot1E (x : Except Int (List BodyD × Nat × List HitD)) (g off N bT bH : Nat) (w : World) (e : Ending) (w' : World) : Prop :=
  Ch (fun k => k = g ∨ k = bT ∨ k = bH) w w' ∧ match x with
  | .error c => e = .panicked (cmisfit c) ∧ (∃ z, w'.heap[bT]? = some (.cells #[.int .i64 z] 3 (0, 0))) ∧ (∃ v, w'.heap[bH]? = some (.cells #[v] 75 (0, 0)))
  | .ok p => e = .returned (.tuple #[]) ∧ w'.heap[bT]? = some (.cells #[.int .i64 (p.2.1 : Nat)] 3 (0, 0)) ∧ (∃ v, w'.heap[bH]? = some (.cells #[v] 75 (0, 0)) ∧ w'.ownsRow w.heap.size 86 3 v p.2.2.length (p.2.2.flatMap HitD.cells)) ∧ SceneAt w' g off N p.1
theorem grown_keep' {w w2 : World} {v : Value} {base sz n k : Nat} {xs : List Value} {c : Array Value} {u : TypeId} (hrow : w.ownsRow base 86 sz v n xs) (hgrow : w.grownBy w2 v.ownBlock) (hk : w.heap[k]? = some (.cells c u (0, 0))) (hu : u ≠ 86) : w2.heap[k]? = some (.cells c u (0, 0)) := by
  refine (hgrow.block k (Array.getElem?_eq_some_iff.1 hk).1 (fun e => ?_)).trans hk
  obtain ⟨_, cc, hcc⟩ := own_type hrow e.symm
  exact type_ne hk hcc hu rfl
set_option maxRecDepth 100000 in
set_option maxHeartbeats 8000000 in
theorem shot45_any (r : RinkD) (pv qv bv : Value) (a : Option Addr) (N cap g off : Nat) (l : List BodyD) (most : Nat) (bR bS bN bT bH : Nat) (B0 w : World)
    (hi : r.i.ok = true) (hgr : r.g.ok = true) (hbr : broomsOk r.bl = true) (hel : 0 ≤ r.el ∧ r.el ≤ 1000) (hl : ∀ b ∈ l, b.m.ok = true) (ha : 0 < N → a = some ⟨g, off, none⟩) (hN : N ≤ 16) (hlN : l.length = N) (h6 : most ≤ 6000)
    (hat : RinkAt B0 r pv qv bv) (hB0 : B0.heap.size ≤ w.heap.size) (hWB : ∀ k, k < B0.heap.size → w.heap[k]? = B0.heap[k]?) (hg : B0.heap.size ≤ g) (hgw : g < w.heap.size) (hT : B0.heap.size ≤ bT) (hH : B0.heap.size ≤ bH) (hTg : bT ≠ g) (hHg : bH ≠ g)
    (cR : w.heap[bR]? = some (.cells (r.arr pv qv bv) 118 (0, 0))) (cS : w.heap[bS]? = some (.cells #[.slice a N cap] 121 (0, 0))) (cN : w.heap[bN]? = some (.cells #[.int .i64 (most : Int)] 3 (0, 0)))
    (cT : w.heap[bT]? = some (.cells #[.int .i64 0] 3 (0, 0))) (cH : w.heap[bH]? = some (.cells #[.slice none 0 0] 75 (0, 0))) (cG : SceneAt w g off N l) :
    Calls Tryz.prog 45 #[.pointer (some ⟨bR, 0, none⟩), .pointer (some ⟨bS, 0, none⟩), .pointer (some ⟨bN, 0, none⟩), .pointer (some ⟨bT, 0, none⟩), .pointer (some ⟨bH, 0, none⟩)] w fun e W' => Shot1E (runF r most 0 l []) g off N bT bH w e W' := by
  have hTH : bT ≠ bH := type_ne cT cH (by decide)
  have hlT : bT < w.heap.size := (Array.getElem?_eq_some_iff.1 cT).1
  have hlH : bH < w.heap.size := (Array.getElem?_eq_some_iff.1 cH).1
  have HIT := hid (fun (n lp : Nat) (hn : 1 ≤ n) (K : Nat → Prop) J Jp (W : World) hB hWB' hgw' hK1 hK2 cN' cS' cR' cG' hJ hKg hKW hY hP h0 => shot84_in n hn lp (w.heap.size + 1 + 1) (w.heap.size + 1) w.heap.size r pv qv bv a N cap g off l most B0 K J Jp W hi hgr hbr hel hl ha hN h6 hat hB hWB' hg hgw' hK1 hK2 cN' cS' cR' cG' hJ hKg hKW hY hP h0)
  have HTI := hid (fun (pre : List (List HitD)) (s s' : List BodyD) (h : List HitD) (t : Int) (h1 : Tr r l pre s) (h2 : tickS r t s = .ok (s', h)) => tickS_hits (h1.like hl).2.1 (by rw [(h1.like hl).1, hlN]; exact hN) h2)
  have HBB := hid (show (B0.heap.size ≤ w.heap.size ∧ B0.heap.size ≤ g ∧ g < w.heap.size) ∧ (B0.heap.size ≤ bT ∧ bT < w.heap.size) ∧ (B0.heap.size ≤ bH ∧ bH < w.heap.size) ∧ bT ≠ g ∧ bH ≠ g ∧ bT ≠ bH from ⟨⟨hB0, hg, hgw⟩, ⟨hT, hlT⟩, ⟨hH, hlH⟩, hTg, hHg, hTH⟩)
  have HWB := hid hWB
  have HCT := hid (And.intro cT (And.intro cH cG))
  have H6 := hid h6
  obtain ⟨⟨hpv, hqv⟩, hbv⟩ := hat
  obtain ⟨pa, pc, rfl, -, -⟩ := hpv.open
  obtain ⟨qa, qc, rfl, -, -⟩ := hqv.open
  obtain ⟨ba, bc, rfl, -, -⟩ := hbv.open
  have HRUN := hid (fun W => shot46_any r (.slice pa r.i.pl.length pc) (.slice qa r.i.ql.length qc) (.slice ba r.bl.length bc) a N cap (most : Int) W ⟨_, _, _, rfl⟩ ⟨_, _, _, rfl⟩ ⟨_, _, _, rfl⟩)
  have r0 := cellN (i := 0) (v := .int .i64 r.i.cx) cR rfl
  have r1 := cellN (i := 1) (v := .int .i64 r.i.cy) cR rfl
  have r2 := cellN (i := 2) (v := .int .i64 r.i.sd) cR rfl
  have r3 := cellN (i := 3) (v := .int .i64 r.i.W) cR rfl
  have r4 := cellN (i := 4) (v := .int .i64 r.i.H) cR rfl
  have r5 := cellN (i := 5) (v := .slice pa r.i.pl.length pc) cR rfl
  have r6 := cellN (i := 6) (v := .slice qa r.i.ql.length qc) cR rfl
  have r7 := cellN (i := 7) (v := .int .i64 r.g.fl) cR rfl
  have r8 := cellN (i := 8) (v := .int .i64 r.g.kn) cR rfl
  have r9 := cellN (i := 9) (v := .int .i64 r.g.a) cR rfl
  have r10 := cellN (i := 10) (v := .int .i64 r.g.b) cR rfl
  have r11 := cellN (i := 11) (v := .int .i64 r.g.c) cR rfl
  have r12 := cellN (i := 12) (v := .slice ba r.bl.length bc) cR rfl
  have r13 := cellN (i := 13) (v := .int .i64 r.who) cR rfl
  have r14 := cellN (i := 14) (v := .int .i64 r.el) cR rfl
  have c1 := cellN (i := 0) (v := .slice a N cap) cS rfl
  have c2 := cellN (i := 0) (v := .int .i64 (most : Int)) cN rfl
  clear hi hgr hbr hel hl ha hN hlN h6 hB0 hWB hg hgw hT hH hTg hHg cR cS cN cT cH cG hpv hqv hbv hTH hlT hlH
  refine callsIn_wide (n := 10) |>.1 ?_
  refine callsIn_of_at Tryz.func45 rfl trivial ?_ rfl
  simp only [Tryz.ntmps45, List.size_toArray, List.length_cons, List.length_nil, Nat.reduceAdd, Nat.reduceSub, Array.replicate_succ, Array.replicate_zero, List.push_toArray, List.append_toArray, List.nil_append, List.cons_append]
  refine WpAt.seq (WpAt.of ?_)
  gi_wp2_with fail
  refine ⟨trivial, ?_⟩
  refine (callsIn_wide.2 (HRUN.out _)).mono ?_
  rintro e w1 ⟨rfl, hp, hz, hb⟩
  have HP := hid hp
  have HZ := hid hz
  have HB := hid hb
  clear hp hz hb r0 r1 r2 r3 r4 r5 r6 r7 r8 r9 r10 r11 r12 r13 r14 c1 c2 HRUN
  gi_wp2_with fail
  refine WpAt.block ?_
  refine at_rangeP Tryz.func45 trivial rfl (by omega) (gf := 84) (lb := #[.pointer (some ⟨w.heap.size + 1 + 1, 0, none⟩), .pointer (some ⟨w.heap.size + 1, 0, none⟩), .pointer (some ⟨w.heap.size, 0, none⟩)]) rfl trivial (enters_of Tryz.func84 (by kernel_rfl) rfl)
    (encs := encS) (K := fun k => k < B0.heap.size ∨ k = w.heap.size ∨ k = w.heap.size + 1 ∨ k = w.heap.size + 1 + 1) (O0 := fun k => k = g) (Nx := NxS r l most) (Dn := DnS r l most g off N) (Pn := PnS r l most) (w0 := w1) ?seq (Below.refl _ _) (fun _ => rfl) ?hK
    (fun O pre W => ShI w w1.heap.size g bT bH O pre W)
    (fun O pre x a' W => ShI w w1.heap.size g bT bH O pre W ∧ (∃ s s', Tr r l (hitsOf pre) s ∧ stillS s = false ∧ pre.length < most ∧ tickS r (pre.length : Nat) s = .ok (s', x.2)) ∧ W.ownsRow 0 86 3 x.1 x.2.length (x.2.flatMap HitD.cells) ∧
      a' = { tmps := #[.pointer (some ⟨bR, 0, none⟩), .pointer (some ⟨bS, 0, none⟩), .pointer (some ⟨bN, 0, none⟩), .pointer (some ⟨bT, 0, none⟩), .pointer (some ⟨bH, 0, none⟩), x.1, .agg #[.int .i64 r.i.cx, .int .i64 r.i.cy, .int .i64 r.i.sd, .int .i64 r.i.W, .int .i64 r.i.H, .slice pa r.i.pl.length pc, .slice qa r.i.ql.length qc, .int .i64 r.g.fl, .int .i64 r.g.kn, .int .i64 r.g.a, .int .i64 r.g.b, .int .i64 r.g.c, .slice ba r.bl.length bc, .int .i64 r.who, .int .i64 r.el], .slice a N cap, .int .i64 (most : Int), .func (.func 84) #[] #[.pointer (some ⟨w.heap.size + 1 + 1, 0, none⟩), .pointer (some ⟨w.heap.size + 1, 0, none⟩), .pointer (some ⟨w.heap.size, 0, none⟩)], x.1, undef, undef, undef, undef, undef, undef, undef, undef, undef, undef], defers := [] })
    (fun ch W => ∃ c, runF r most 0 l [] = .error c ∧ ch = cmisfit c ∧ (∃ z, W.heap[bT]? = some (.cells #[.int .i64 z] 3 (0, 0))) ∧ (∃ v, W.heap[bH]? = some (.cells #[v] 75 (0, 0))) ∧ Ch (fun k => k = g ∨ k = bT ∨ k = bH) w W)
    ?hI ?hIs ?hIas ?hDs ?h0 ?assign ?body ?hpi ?done ?panic
  case seq =>
    intro lp J Jp W hbW hJ hY hP h0
    have hs := hbW.size
    have h1 := HBB.out.1
    have h2 := HZ.out
    refine HIT.out 9 lp (by omega) (fun k => k < B0.heap.size ∨ k = w.heap.size ∨ k = w.heap.size + 1 ∨ k = w.heap.size + 1 + 1) J Jp W (by omega) (fun k hk => ?_) (by omega) (fun k hk => .inl hk) ⟨.inr (.inr (.inr rfl)), .inr (.inr (.inl rfl)), .inr (.inl rfl)⟩ (carry HP.out.2.2 hbW) (carry HP.out.2.1 hbW) (carry HP.out.1 hbW) ((HCT.out.2.2.below HB.out).below hbW) hJ (by rintro (h | h | h | h) <;> omega) (fun k hk => by rcases hk with h | h | h | h <;> omega) hY hP h0
    rw [hbW.block k (by omega), HB.out.block k (by omega)]
    exact HWB.out k hk
  case hK =>
    have h1 := HBB.out.1
    have h2 := HZ.out
    rintro k ((h | h | h | h) | h)
    all_goals omega
  case hI =>
    intro O pre W W' h hO' hz hc
    have h1 := HBB.out
    have h2 := HZ.out
    have hTO : ¬ O bT := fun ho => by rcases (hO' _ ho).1 with h3 | h3 <;> omega
    have hHO : ¬ O bH := fun ho => by rcases (hO' _ ho).1 with h3 | h3 <;> omega
    refine h.kept hc.1 (fun k hk hne => hc.2 k (by omega) (fun ho => by rcases (hO' _ ho).1 with h3 | h3 <;> omega)) (hc.2 _ (by omega) hTO) (hc.2 _ (by omega) hHO) (fun k cur hk ho => hc.2 k (Array.getElem?_eq_some_iff.1 hk).1 ho) (fun k hk ho => ?_)
    rcases ho with ho | ho
    · exact ho
    · omega
  case hIs =>
    intro O pre W W' row h hg hr
    exact h.grown hg (by have := HZ.out; omega) hr
  case hIas =>
    rintro O pre x a' W W' row ⟨h1, h2, h3, h4⟩ hg hr
    refine ⟨h1.grown hg (by have := HZ.out; omega) hr, h2, ⟨h3.1, ?_⟩, h4⟩
    rcases h3.2 with h5 | ⟨g1, cap1, cur1, h6, h7, h8, h9⟩
    · exact .inl h5
    · refine .inr ⟨g1, cap1, cur1, h6, h7, (hg.block g1 (Array.getElem?_eq_some_iff.1 h8).1 (fun e => ?_)).trans h8, h9⟩
      obtain ⟨o, ho, hcl⟩ := (hr g1 e.symm).2
      rw [h8] at ho
      cases ho
      cases hcl
  case hDs =>
    rintro pre W W' row ⟨s, h1, h2, h3, h4⟩ hg hr
    refine ⟨s, h1, h2, h3, h4.1, fun hN => ?_⟩
    obtain ⟨cur, h5, h6⟩ := h4.2 hN
    refine ⟨cur, (hg.block g (Array.getElem?_eq_some_iff.1 h5).1 (fun e => ?_)).trans h5, h6⟩
    obtain ⟨o, ho, hcl⟩ := (hr g e.symm).2
    rw [h5] at ho
    cases ho
    cases hcl
  case h0 =>
    exact ⟨carry HCT.out.1 HB.out, ⟨_, carry HCT.out.2.1 HB.out, World.ownsRow_nil _ _ _ _, fun k hk => by cases hk⟩, by simp [hitsOf], Ch.of_below HB.out⟩
  case assign =>
    rintro lp O pre ⟨v, hh⟩ W hx hi hO' hz
    obtain ⟨s, s', n1, n2, n3, n4, n5⟩ := hx
    have HI := hid hi
    have HN := hid (show ∃ s s', Tr r l (hitsOf pre) s ∧ stillS s = false ∧ pre.length < most ∧ tickS r (pre.length : Nat) s = .ok (s', hh) from ⟨s, s', n1, n2, n3, n4⟩)
    have HR5 := hid n5
    clear hi hO' hz n1 n2 n3 n4 n5
    dsimp only [encS]
    gi_wp2_with fail
    obtain ⟨s, s', n1, n2, n3, n4⟩ := HN.out
    exact ⟨⟨Nat.le_refl _, fun k o _ h _ => h⟩, HI.out, ⟨s, n1, n2, n3, s', n4⟩, HR5.out⟩
  case body =>
    rintro lp O pre ⟨v, hh⟩ a' W hl ⟨rr, hrr⟩ ⟨hi, ⟨s, s', n1, n2, n3, n4⟩, hrow, rfl⟩ hO' hz
    dsimp only at hrow ⊢
    have hhl : hh.length ≤ 2048 := HTI.out _ _ _ _ _ n1 n4
    have HTR := hid (And.intro n1 (And.intro n2 (And.intro n3 n4)))
    obtain ⟨va, vcap, rfl⟩ := own_slice' hrow
    obtain ⟨hv, hv0, hvr, hvO⟩ := hi.hh
    obtain ⟨hva, hvcap, rfl⟩ := own_slice' hvr
    obtain ⟨fl, hfl⟩ : ∃ n, (hitsOf pre).flatten.length = n := ⟨_, rfl⟩
    rw [hfl] at hv0 hvr hvO
    have HI := hid hi
    have HO := hid hO'
    have HZZ := hid hz
    have HV0 := hid hv0
    have HVR := hid hvr
    have HVO := hid hvO
    have HROW := hid hrow
    have hfl4 : fl ≤ 4096 := by rw [← hfl]; exact hi.hl
    obtain ⟨M, hM⟩ : ∃ M, fl + hh.length = M := ⟨_, rfl⟩
    have HFL := hid hfl
    have HM := hid hM
    have HM0 := hid (show fl + hh.length = M from hM)
    have hpl : (pre.length : Int) < 6000 := by have := H6.out; omega
    have HTK := hid hi.tk
    have t0 := cellN (i := 0) (v := .int .i64 (pre.length : Int)) hi.tk rfl
    have tf := frozN (i := 0) hi.tk
    have HV2 := hid (show (W.setCell ⟨bT, 0, none⟩ (.int .i64 ((pre.length : Int) + 1))).heap[bH]? = some (.cells #[.slice hva fl hvcap] 75 (0, 0)) from (heap_setCell_other _ ⟨bT, 0, none⟩ bH _ (fun e => HBB.out.2.2.2.2.2 e.symm)).trans hv0)
    have HT2 := hid (show (W.setCell ⟨bT, 0, none⟩ (.int .i64 ((pre.length : Int) + 1))).heap[bT]? = some (.cells #[.int .i64 ((pre.length : Int) + 1)] 3 (0, 0)) from put1_same _ hi.tk)
    have HVR2 := hid (own_cell hvr hi.tk (by decide) (.int .i64 ((pre.length : Int) + 1)))
    have HROW2 := hid (own_cell hrow hi.tk (by decide) (.int .i64 ((pre.length : Int) + 1)))
    have HO2 := hid (fun k (hk : k ≠ bT) => heap_setCell_other W ⟨bT, 0, none⟩ k (.int .i64 ((pre.length : Int) + 1)) hk)
    have HB2 := hid ((Below.refl 0 W).setCell (p := ⟨bT, 0, none⟩) (Nat.zero_le _) (.int .i64 ((pre.length : Int) + 1)))
    have v0 := cellN (i := 0) (v := .slice hva fl hvcap) HV2.out rfl
    have hsz : w1.heap.size ≤ (W.setCell ⟨bT, 0, none⟩ (.int .i64 ((pre.length : Int) + 1))).heap.size := by simp; omega
    have hsm : fl + hh.length ≤ 100000 := by omega
    clear hrr hi hO' hz hv0 hvr hvO hrow n1 n2 n3 n4 hfl
    have hmk := mkic 3
    by_cases hbig : 4096 < M
    · have hbI : (4096 : Int) < (M : Int) := by omega
      have HLG := hid (show runF r most 0 l [] = .error 3 from runF_long HTR.out.1 (by rw [hitsOf_len]; exact HTR.out.2.2.1) HI.out.hl HTR.out.2.1 (by rw [hitsOf_len]; exact HTR.out.2.2.2) (by
        have h1 := HM0.out
        have h2 := HFL.out
        simp only [List.flatten_append, List.length_append, List.flatten_singleton]
        omega))
      gi_wp2_with (gi_at_builtin; refine wpListIn_append_hits _ rfl _ _ rfl w1.heap.size _ _ _ rfl HVR2.out _ hh rfl HROW2.out hsm hsz M HM0.out ?_; intro aN cN w5 hown5 hgrow5 hblk5; have hv5 := grown_keep' HVR2.out hgrow5 HV2.out (by decide); have c5 := cellN (i := 0) (v := .slice hva fl hvcap) hv5 rfl; have f5 := frozN (i := 0) hv5)
      have hv6 := put1_same (.slice aN M cN) hv5
      have hown6 := own_cell hown5 hv5 (by decide) (.slice aN M cN)
      have hb6 := (Below.grown HB2.out hgrow5 (Nat.zero_le _) (fun _ _ => Nat.zero_le _)).setCell (p := ⟨bH, 0, none⟩) (Nat.zero_le _) (.slice aN M cN)
      have hkeep : ∀ k, k < W.heap.size → k ≠ bT → k ≠ bH → some k ≠ (Value.slice hva fl hvcap).ownBlock → (w5.setCell ⟨bH, 0, none⟩ (.slice aN M cN)).heap[k]? = W.heap[k]? := fun k hk h1 h2 h3 => by
        rw [heap_setCell_other _ ⟨bH, 0, none⟩ k _ h2]
        exact (hgrow5.block k (by simp; exact hk) h3).trans (HO2.out k h1)
      have ht6 : (w5.setCell ⟨bH, 0, none⟩ (.slice aN M cN)).heap[bT]? = some (.cells #[.int .i64 ((pre.length : Int) + 1)] 3 (0, 0)) := by
        rw [heap_setCell_other _ ⟨bH, 0, none⟩ bT _ HBB.out.2.2.2.2.2]
        exact grown_keep' HVR2.out hgrow5 HT2.out (by decide)
      have hbk : ∀ j, (Value.slice aN M cN).ownBlock = some j → (Value.slice hva fl hvcap).ownBlock = some j ∨ W.heap.size ≤ j := fun j hj => by
        have h := hblk5 j hj
        simp at h
        rcases h with h | h
        · exact .inl h
        · exact .inr h
      clear hv5 hown5 hgrow5 hblk5 c5 f5 t0 tf v0
      generalize w5.setCell ⟨bH, 0, none⟩ (.slice aN M cN) = W6 at *
      have hkf : KeepsFrom w1.heap.size W W6 := ⟨hb6.size, fun k o hk ho hcl => by
        have hkl := (Array.getElem?_eq_some_iff.1 ho).1
        have h1 := HBB.out
        have h2 := HZ.out
        rw [hkeep k hkl (by omega) (by omega) (fun e => by
          obtain ⟨_, cc, hcc⟩ := own_type HVR.out e.symm
          rw [ho] at hcc
          cases hcc
          cases hcl)]
        exact ho⟩
      have hch6 : Ch (fun k => k = g ∨ k = bT ∨ k = bH) w W6 := ⟨HI.out.ch.1.trans hb6, fun k hk hne => by
        have h1 := HI.out.ch.1.size
        have h2 := HZ.out
        rw [hkeep k (by omega) (fun e => hne (.inr (.inl e))) (fun e => hne (.inr (.inr e))) (fun e => by have h3 := (own_type HVR.out e.symm).1; omega)]
        exact HI.out.ch.2 k hk hne⟩
      have hsame : ∀ k, O k ∨ (k < B0.heap.size ∨ k = w.heap.size ∨ k = w.heap.size + 1 ∨ k = w.heap.size + 1 + 1) → W6.heap[k]? = W.heap[k]? := fun k hk => by
        have h1 := HBB.out
        have h2 := HZ.out
        have h3 := HZZ.out
        rcases hk with h | h
        · have h4 := HO.out k h
          exact hkeep k h4.2 (by rcases h4.1 with h5 | h5 <;> omega) (by rcases h4.1 with h5 | h5 <;> omega) (fun e => HVO.out k e.symm h)
        · exact hkeep k (by omega) (by omega) (by omega) (fun e => by have h5 := (own_type HVR.out e.symm).1; omega)
      exact ⟨rfl, hkf, 3, HLG.out, rfl, ⟨_, ht6⟩, ⟨_, hv6⟩, hch6⟩
    · have hbI : ¬ (4096 : Int) < (M : Int) := by omega
      gi_wp2_with (gi_at_builtin; refine wpListIn_append_hits _ rfl _ _ rfl w1.heap.size _ _ _ rfl HVR2.out _ hh rfl HROW2.out hsm hsz M HM0.out ?_; intro aN cN w5 hown5 hgrow5 hblk5; have hv5 := grown_keep' HVR2.out hgrow5 HV2.out (by decide); have c5 := cellN (i := 0) (v := .slice hva fl hvcap) hv5 rfl; have f5 := frozN (i := 0) hv5)
      have hv6 := put1_same (.slice aN M cN) hv5
      have hown6 := own_cell hown5 hv5 (by decide) (.slice aN M cN)
      have hb6 := (Below.grown HB2.out hgrow5 (Nat.zero_le _) (fun _ _ => Nat.zero_le _)).setCell (p := ⟨bH, 0, none⟩) (Nat.zero_le _) (.slice aN M cN)
      have hkeep : ∀ k, k < W.heap.size → k ≠ bT → k ≠ bH → some k ≠ (Value.slice hva fl hvcap).ownBlock → (w5.setCell ⟨bH, 0, none⟩ (.slice aN M cN)).heap[k]? = W.heap[k]? := fun k hk h1 h2 h3 => by
        rw [heap_setCell_other _ ⟨bH, 0, none⟩ k _ h2]
        exact (hgrow5.block k (by simp; exact hk) h3).trans (HO2.out k h1)
      have ht6 : (w5.setCell ⟨bH, 0, none⟩ (.slice aN M cN)).heap[bT]? = some (.cells #[.int .i64 ((pre.length : Int) + 1)] 3 (0, 0)) := by
        rw [heap_setCell_other _ ⟨bH, 0, none⟩ bT _ HBB.out.2.2.2.2.2]
        exact grown_keep' HVR2.out hgrow5 HT2.out (by decide)
      have hbk : ∀ j, (Value.slice aN M cN).ownBlock = some j → (Value.slice hva fl hvcap).ownBlock = some j ∨ W.heap.size ≤ j := fun j hj => by
        have h := hblk5 j hj
        simp at h
        rcases h with h | h
        · exact .inl h
        · exact .inr h
      clear hv5 hown5 hgrow5 hblk5 c5 f5 t0 tf v0
      generalize w5.setCell ⟨bH, 0, none⟩ (.slice aN M cN) = W6 at *
      have hkf : KeepsFrom w1.heap.size W W6 := ⟨hb6.size, fun k o hk ho hcl => by
        have hkl := (Array.getElem?_eq_some_iff.1 ho).1
        have h1 := HBB.out
        have h2 := HZ.out
        rw [hkeep k hkl (by omega) (by omega) (fun e => by
          obtain ⟨_, cc, hcc⟩ := own_type HVR.out e.symm
          rw [ho] at hcc
          cases hcc
          cases hcl)]
        exact ho⟩
      have hch6 : Ch (fun k => k = g ∨ k = bT ∨ k = bH) w W6 := ⟨HI.out.ch.1.trans hb6, fun k hk hne => by
        have h1 := HI.out.ch.1.size
        have h2 := HZ.out
        rw [hkeep k (by omega) (fun e => hne (.inr (.inl e))) (fun e => hne (.inr (.inr e))) (fun e => by have h3 := (own_type HVR.out e.symm).1; omega)]
        exact HI.out.ch.2 k hk hne⟩
      have hsame : ∀ k, O k ∨ (k < B0.heap.size ∨ k = w.heap.size ∨ k = w.heap.size + 1 ∨ k = w.heap.size + 1 + 1) → W6.heap[k]? = W.heap[k]? := fun k hk => by
        have h1 := HBB.out
        have h2 := HZ.out
        have h3 := HZZ.out
        rcases hk with h | h
        · have h4 := HO.out k h
          exact hkeep k h4.2 (by rcases h4.1 with h5 | h5 <;> omega) (by rcases h4.1 with h5 | h5 <;> omega) (fun e => HVO.out k e.symm h)
        · exact hkeep k (by omega) (by omega) (by omega) (fun e => by have h5 := (own_type HVR.out e.symm).1; omega)
      refine ⟨hkf, hsame, ⟨?_, ⟨_, hv6, ?_, ?_⟩, ?_, hch6⟩⟩
      · rw [ht6]; simp
      · have h1 : (hitsOf (pre ++ [(Value.slice va hh.length vcap, hh)])).flatten = (hitsOf pre).flatten ++ hh := by rw [hitsOf_snoc]; simp
        rw [h1, List.flatMap_append, List.length_append, HFL.out, HM0.out]
        exact hown6
      · intro k hk ho
        rcases hbk k hk with h | h
        · exact HVO.out k h ho
        · have := (HO.out k ho).2; omega
      · have h1 : (hitsOf (pre ++ [(Value.slice va hh.length vcap, hh)])).flatten = (hitsOf pre).flatten ++ hh := by rw [hitsOf_snoc]; simp
        rw [h1, List.length_append, HFL.out, HM0.out]
        omega
  case hpi =>
    rintro O pre ch W ⟨s, c, n1, n2, n3, n4, rfl⟩ h
    exact ⟨c, runF_err n1 (by rw [hitsOf_len]; exact n3) h.hl n2 (by rw [hitsOf_len]; exact n4), rfl, ⟨_, h.tk⟩, by obtain ⟨v, h1, -⟩ := h.hh; exact ⟨v, h1⟩, h.ch⟩
  case done =>
    rintro O pre D W hD ⟨s, h1, h2, h3, h4⟩ h hdef
    have hzz := HZ.out
    have hD2 : ∀ k, k < w.heap.size → (W.putObj D (.deferred none)).heap[k]? = W.heap[k]? := fun k hk => World.putObj_heap_other (by omega)
    have hg := grownBy_putObj' W D (.deferred none)
    have hk := h.grown hg (C := w.heap.size) (Nat.le_refl _) (fun q e => by cases e; exact ⟨by omega, _, hdef, rfl⟩)
    have hend := runF_end h1 (by rw [hitsOf_len]; exact h2) h.hl (by rw [hitsOf_len]; exact h3)
    rw [hitsOf_len] at hend
    refine ⟨by simp, .inl ⟨D, _, rfl, run_takeDeferred hdef, ?_⟩⟩
    refine ⟨.tuple #[], results_none rfl _ _ _, hk.ch, ?_⟩
    rw [hend]
    obtain ⟨v, hv1, hv2, -⟩ := hk.hh
    exact ⟨rfl, hk.tk, ⟨v, hv1, own_base hv2 (by omega)⟩, h4.keep (hD2 g HBB.out.1.2.2)⟩
  case panic =>
    rintro ch D W hD ⟨c, hc, rfl, ⟨z, hz⟩, ⟨v, hv⟩, h⟩ hdef
    have hzz := HZ.out
    have hD2 : ∀ k, k < w.heap.size → (W.putObj D (.deferred none)).heap[k]? = W.heap[k]? := fun k hk => World.putObj_heap_other (by omega)
    have hg := grownBy_putObj' W D (.deferred none)
    refine ⟨by simp, .inl ⟨D, _, rfl, run_takeDeferred hdef, ?_⟩⟩
    refine ⟨⟨h.1.trans ⟨hg.os, hg.tape, hg.output, hg.size, fun _ h => absurd h (Nat.not_lt_zero _)⟩, fun k hk hne => (hD2 k hk).trans (h.2 k hk hne)⟩, ?_⟩
    rw [hc]
    exact ⟨rfl, ⟨z, (hD2 _ HBB.out.2.1.2).trans hz⟩, v, (hD2 _ HBB.out.2.2.1.2).trans hv⟩
end Go.Proofs.YtolnhicngepnnaaGreat
