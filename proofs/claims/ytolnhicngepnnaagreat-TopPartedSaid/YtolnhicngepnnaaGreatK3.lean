/- contact: a scene in the heap; rink.glide. -/
import Derived.Test.YtolnhicngepnnaaGreatK1
import Derived.Deep.AppendLies
namespace Go.Proofs.YtolnhicngepnnaaGreat
open Go.RowKit

/-- The rows of a scene. -/
def Rows (cur : Array Value) (off : Nat) (s : List BodyD) : Prop := ∀ k b, s[k]? = some b → RowB cur (off + k * 8) b
/-- A scene lies at an offset of a block. -/
def SceneAt (w : World) (g off N : Nat) (s : List BodyD) : Prop := s.length = N ∧ (0 < N → ∃ cur, w.heap[g]? = some (.cells cur 174 (0, 0)) ∧ Rows cur off s)
theorem Rows.put {cur cur' : Array Value} {off k : Nat} {s : List BodyD} {b : BodyD} (h : Rows cur off s) (hr : RowB cur' (off + k * 8) b) (ho : ∀ i, i < off + k * 8 ∨ off + k * 8 + 8 ≤ i → cur'[i]? = cur[i]?) : Rows cur' off (s.set k b) := by
  intro j x hx
  by_cases e : j = k
  · subst e
    obtain ⟨h1, h2⟩ := List.getElem?_eq_some_iff.1 hx
    rw [List.getElem_set_self] at h2
    subst h2; exact hr
  · rw [List.getElem?_set_ne (fun h => e h.symm)] at hx
    intro c hc
    rw [ho (off + j * 8 + c) (by omega)]
    exact h j x hx c hc
theorem SceneAt.put {w w' : World} {g off N k : Nat} {s : List BodyD} {b b' : BodyD} {cur cur' : Array Value} (h : SceneAt w g off N s) (_hb : s[k]? = some b) (hc : w.heap[g]? = some (.cells cur 174 (0, 0))) (hc' : w'.heap[g]? = some (.cells cur' 174 (0, 0)))
    (hr : RowB cur' (off + k * 8) b') (ho : ∀ i, i < off + k * 8 ∨ off + k * 8 + 8 ≤ i → cur'[i]? = cur[i]?) : SceneAt w' g off N (s.set k b') := by
  refine ⟨by simp [h.1], fun hN => ⟨cur', hc', ?_⟩⟩
  obtain ⟨c2, h2, h3⟩ := h.2 hN
  obtain rfl : c2 = cur := by rw [hc] at h2; simpa using h2.symm
  exact h3.put hr ho
theorem SceneAt.keep {w w' : World} {g off N : Nat} {s : List BodyD} (h : SceneAt w g off N s) (hk : w'.heap[g]? = w.heap[g]?) : SceneAt w' g off N s :=
  ⟨h.1, fun hN => by obtain ⟨c, h1, h2⟩ := h.2 hN; exact ⟨c, hk.trans h1, h2⟩⟩
/-- A row's new place, speed and spin. -/
def setMv (cur : Array Value) (o : Nat) (x y vx vy sp : Int) : Array Value := ((((cur.setIfInBounds (o + 2) (.int .i64 x)).setIfInBounds (o + 3) (.int .i64 y)).setIfInBounds (o + 4) (.int .i64 vx)).setIfInBounds (o + 5) (.int .i64 vy)).setIfInBounds (o + 6) (.int .i64 sp)
theorem RowB.setMv {cur : Array Value} {o : Nat} {b : BodyD} (h : RowB cur o b) (x y vx vy sp : Int) : RowB (setMv cur o x y vx vy sp) o { b with m := ⟨x, y, vx, vy, sp⟩ } := by
  have hl := h.lt
  intro c hc
  have h0 := h c hc
  obtain ⟨team, n, ⟨px, py, ux, uy, sp0⟩, out⟩ := b
  simp only [Go.Proofs.YtolnhicngepnnaaGreat.setMv, Array.getElem?_setIfInBounds, Array.size_setIfInBounds]
  have : c = 0 ∨ c = 1 ∨ c = 2 ∨ c = 3 ∨ c = 4 ∨ c = 5 ∨ c = 6 ∨ c = 7 := by omega
  rcases this with rfl | rfl | rfl | rfl | rfl | rfl | rfl | rfl
  all_goals
    first
      | (rw [if_neg (by omega), if_neg (by omega), if_neg (by omega), if_neg (by omega), if_neg (by omega)]; exact h0)
      | (rw [if_neg (by omega), if_neg (by omega), if_neg (by omega), if_neg (by omega), if_pos (by omega), if_pos (by omega)]; rfl)
      | (rw [if_neg (by omega), if_neg (by omega), if_neg (by omega), if_pos (by omega), if_pos (by omega)]; rfl)
      | (rw [if_neg (by omega), if_neg (by omega), if_pos (by omega), if_pos (by omega)]; rfl)
      | (rw [if_neg (by omega), if_pos (by omega), if_pos (by omega)]; rfl)
      | (rw [if_pos (by omega), if_pos (by omega)]; rfl)
theorem setMv_out {cur : Array Value} {o : Nat} (x y vx vy sp : Int) {i : Nat} (h : i < o ∨ o + 8 ≤ i) : (setMv cur o x y vx vy sp)[i]? = cur[i]? := by
  simp only [setMv, Array.getElem?_setIfInBounds, Array.size_setIfInBounds]
  rw [if_neg (by omega), if_neg (by omega), if_neg (by omega), if_neg (by omega), if_neg (by omega)]
theorem setMv_heap {w : World} {g o : Nat} {cur : Array Value} {t : TypeId} (h : w.heap[g]? = some (.cells cur t (0, 0))) (x y vx vy sp : Int) :
    (((((w.setCell ⟨g, o + 2, none⟩ (.int .i64 x)).setCell ⟨g, o + 3, none⟩ (.int .i64 y)).setCell ⟨g, o + 4, none⟩ (.int .i64 vx)).setCell ⟨g, o + 5, none⟩ (.int .i64 vy)).setCell ⟨g, o + 6, none⟩ (.int .i64 sp)).heap[g]? = some (.cells (setMv cur o x y vx vy sp) t (0, 0)) := by
  have h1 := heap_setCell_same _ g (o + 2) _ _ (.int .i64 x) h
  have h2 := heap_setCell_same _ g (o + 3) _ _ (.int .i64 y) h1
  have h3 := heap_setCell_same _ g (o + 4) _ _ (.int .i64 vx) h2
  have h4 := heap_setCell_same _ g (o + 5) _ _ (.int .i64 vy) h3
  exact heap_setCell_same _ g (o + 6) _ _ (.int .i64 sp) h4
theorem setMv_oth {w : World} {g o k : Nat} (x y vx vy sp : Int) (h : k ≠ g) :
    (((((w.setCell ⟨g, o + 2, none⟩ (.int .i64 x)).setCell ⟨g, o + 3, none⟩ (.int .i64 y)).setCell ⟨g, o + 4, none⟩ (.int .i64 vx)).setCell ⟨g, o + 5, none⟩ (.int .i64 vy)).setCell ⟨g, o + 6, none⟩ (.int .i64 sp)).heap[k]? = w.heap[k]? := by
  rw [heap_setCell_other _ ⟨g, o + 6, none⟩ k _ h, heap_setCell_other _ ⟨g, o + 5, none⟩ k _ h, heap_setCell_other _ ⟨g, o + 4, none⟩ k _ h, heap_setCell_other _ ⟨g, o + 3, none⟩ k _ h, heap_setCell_other _ ⟨g, o + 2, none⟩ k _ h]
theorem setMv_ch {w W : World} {g o : Nat} (S : Nat → Prop) (hb : S g) (x y vx vy sp : Int) (h : Ch S w W) :
    Ch S w (((((W.setCell ⟨g, o + 2, none⟩ (.int .i64 x)).setCell ⟨g, o + 3, none⟩ (.int .i64 y)).setCell ⟨g, o + 4, none⟩ (.int .i64 vx)).setCell ⟨g, o + 5, none⟩ (.int .i64 vy)).setCell ⟨g, o + 6, none⟩ (.int .i64 sp)) :=
  ⟨((((h.1.setCell (p := ⟨g, o + 2, none⟩) (Nat.zero_le _) _).setCell (p := ⟨g, o + 3, none⟩) (Nat.zero_le _) _).setCell (p := ⟨g, o + 4, none⟩) (Nat.zero_le _) _).setCell (p := ⟨g, o + 5, none⟩) (Nat.zero_le _) _).setCell (p := ⟨g, o + 6, none⟩) (Nat.zero_le _) _,
   fun k hk hne => (setMv_oth x y vx vy sp (fun e => hne (by rw [e]; exact hb))).trans (h.2 k hk hne)⟩
theorem ch_below {w0 w w' : World} {S : Nat → Prop} (h : Below w0.heap.size w0 w) (hc : Ch S w w') (hs : ∀ k, S k → w0.heap.size ≤ k) : Below w0.heap.size w0 w' :=
  ⟨hc.1.os.trans h.os, hc.1.tape.trans h.tape, hc.1.output.trans h.output, Nat.le_trans h.size hc.1.size, fun k hk => (hc.2 k (Nat.lt_of_lt_of_le hk h.size) (fun q => by have := hs k q; omega)).trans (h.block k hk)⟩
/-- How a glide ends. -/
def GlideE (x : Except Int (List BodyD)) (g off N : Nat) (w : World) (e : Ending) (w' : World) : Prop :=
  match x with
  | .error c => e = .panicked (cmisfit c) ∧ Ch (fun k => k = g) w w'
  | .ok s => e = .returned (.tuple #[]) ∧ SceneAt w' g off N s ∧ Ch (fun k => k = g) w w'
theorem GlideE.err {x : Except Int (List BodyD)} {c : Int} {g off N : Nat} {w w' : World} (h : x = .error c) (hc : Ch (fun k => k = g) w w') : GlideE x g off N w (.panicked (cmisfit c)) w' := by
  rw [h]; exact ⟨rfl, hc⟩
theorem GlideE.fine {x : Except Int (List BodyD)} {s : List BodyD} {g off N : Nat} {w w' : World} (h : x = .ok s) (hs : SceneAt w' g off N s) (hc : Ch (fun k => k = g) w w') : GlideE x g off N w (.returned (.tuple #[])) w' := by
  rw [h]; exact ⟨rfl, hs, hc⟩
theorem glide_stay {r : RinkD} {t : Int} {l s : List BodyD} {k : Nat} {b : BodyD} (h : glideTo r t l k = .ok s) (hb : s[k]? = some b) (hs : (b.out || restM b.m) = true) : glideTo r t l (k + 1) = .ok s := by
  have hset : s.set k b = s := by
    apply List.ext_getElem?
    intro i
    by_cases e : k = i
    · subst e; rw [List.getElem?_set_self', hb]; rfl
    · rw [List.getElem?_set_ne e]
  simp only [glideTo, h, glideStep, hb, oneT]
  rw [if_pos hs]
  simp only [setOk, hset]
theorem glide_go {r : RinkD} {t : Int} {l s : List BodyD} {k p : Nat} {b : BodyD} {x : Except Int Mov} (h : glideTo r t l k = .ok s) (hb : s[k]? = some b) (hs : ¬ (b.out || restM b.m) = true) (hp : powR r t k = p) (hx : tickI r.i r.g p b.m = x) :
    (∀ c, x = .error c → glideTo r t l (k + 1) = .error c) ∧ (∀ m, x = .ok m → glideTo r t l (k + 1) = .ok (s.set k { b with m := m })) := by
  refine ⟨fun c e => ?_, fun m e => ?_⟩ <;> subst e <;> simp only [glideTo, h, glideStep, hb, oneT] <;> rw [if_neg hs, hp, hx] <;> rfl
set_option maxRecDepth 100000 in
set_option maxHeartbeats 8000000 in
theorem glide79_any (r : RinkD) (pv qv bv : Value) (a : Option Addr) (N cap g off : Nat) (l : List BodyD) (t : Int) (w0 w : World)
    (hr : RinkAt w0 r pv qv bv) (hb : Below w0.heap.size w0 w) (hg : w0.heap.size ≤ g) (hgw : g < w.heap.size) (hi : r.i.ok = true) (hgr : r.g.ok = true) (hbr : broomsOk r.bl = true) (ht : 0 ≤ t ∧ t ≤ 6000) (hl : ∀ b ∈ l, b.m.ok = true)
    (ha : 0 < N → a = some ⟨g, off, none⟩) (hN : N ≤ 16) (hsc : SceneAt w g off N l) :
    Calls Tryz.prog 79 #[.agg (r.arr pv qv bv), .slice a N cap, .int .i64 t] w fun e w' => GlideE (glideTo r t l N) g off N w e w' := by
  obtain ⟨ans, hans⟩ : ∃ x, glideTo r t l N = x := ⟨_, rfl⟩
  rw [hans]
  obtain ⟨⟨hpv, hqv⟩, hbv⟩ := hr
  have HTT := hid (fun (m : Mov) (p : Nat) (W : World) (hB : Below w0.heap.size w0 W) (hm : m.ok = true) (hp : p ≤ 1000) => tick134_any r.i r.g pv qv m p W hi hgr hm hp (IceAt.below ⟨hpv, hqv⟩ hB))
  have HSTR := hid (fun (W : World) (hB : Below w0.heap.size w0 W) => strength132_ok bv r.bl t W (SlM.below hbv hB) hbr ht)
  have HSB := hid (strR_b hbr t)
  have HLK := hid (fun (s : List BodyD) (k : Nat) (h : glideTo r t l k = .ok s) => glideTo_like hl h)
  have HERRN := hid (fun (c : Int) (k : Nat) (h : glideTo r t l k = .error c) (hk : k ≤ N) => hans.symm.trans (glideTo_err h N hk))
  have HOKN := hid (fun (s : List BodyD) (h : glideTo r t l N = .ok s) => hans.symm.trans h)
  obtain ⟨pa, pc, rfl, -, -⟩ := hpv.open
  obtain ⟨qa, qc, rfl, -, -⟩ := hqv.open
  obtain ⟨ba, bc, rfl, -, -⟩ := hbv.open
  have HBW0 := hid hb
  have HSC0 := hid hsc
  have HNE := hid (show w.heap.size ≠ g by omega)
  have HG := hid hg
  have HA := hid ha
  have HGW := hid hgw
  have HHN := hid hN
  clear hpv hqv hbv hans hi hgr hbr ht hl hb hg hgw hsc ha hN
  obtain ⟨W1, hW1⟩ : ∃ W1, w.alloc (.cells #[.int .i64 r.i.cx, .int .i64 r.i.cy, .int .i64 r.i.sd, .int .i64 r.i.W, .int .i64 r.i.H, .slice pa r.i.pl.length pc, .slice qa r.i.ql.length qc, .int .i64 r.g.fl, .int .i64 r.g.kn, .int .i64 r.g.a, .int .i64 r.g.b, .int .i64 r.g.c, .slice ba r.bl.length bc, .int .i64 r.who, .int .i64 r.el] 118) = W1 := ⟨_, rfl⟩
  have HA1 := hid (show W1.heap[w.heap.size]? = some (.cells #[.int .i64 r.i.cx, .int .i64 r.i.cy, .int .i64 r.i.sd, .int .i64 r.i.W, .int .i64 r.i.H, .slice pa r.i.pl.length pc, .slice qa r.i.ql.length qc, .int .i64 r.g.fl, .int .i64 r.g.kn, .int .i64 r.g.a, .int .i64 r.g.b, .int .i64 r.g.c, .slice ba r.bl.length bc, .int .i64 r.who, .int .i64 r.el] 118 (0, 0)) by rw [← hW1]; exact heap_alloc_new w _)
  have HC1 := hid (show Ch (fun k => k = g) w W1 by rw [← hW1]; exact Ch.of_below ((Below.refl _ _).alloc (Nat.le_refl _) _))
  have HSC1 := hid (show SceneAt W1 g off N l from HSC0.out.keep (by
    rw [← hW1]
    exact Below.heap_alloc _ _ _ HGW.out))
  have HW1 := hid hW1
  clear hW1 HSC0
  have HBWF := hid (fun (W : World) (hc : Ch (fun k => k = g) w W) => ch_below HBW0.out hc (fun k e => by rw [e]; exact HG.out))
  clear HBW0 HG
  show Calls Tryz.prog 79 #[.agg #[.int .i64 r.i.cx, .int .i64 r.i.cy, .int .i64 r.i.sd, .int .i64 r.i.W, .int .i64 r.i.H, .slice pa r.i.pl.length pc, .slice qa r.i.ql.length qc, .int .i64 r.g.fl, .int .i64 r.g.kn, .int .i64 r.g.a, .int .i64 r.g.b, .int .i64 r.g.c, .slice ba r.bl.length bc, .int .i64 r.who, .int .i64 r.el], .slice a N cap, .int .i64 t] w _
  go_enter Tryz.func79, Tryz.ntmps79
  go_upto_region 1 with fail
  rw [HW1.out]
  clear HW1
  obtain ⟨rc, hrc⟩ : ∃ rc : Array Value, #[.int .i64 r.i.cx, .int .i64 r.i.cy, .int .i64 r.i.sd, .int .i64 r.i.W, .int .i64 r.i.H, .slice pa r.i.pl.length pc, .slice qa r.i.ql.length qc, .int .i64 r.g.fl, .int .i64 r.g.kn, .int .i64 r.g.a, .int .i64 r.g.b, .int .i64 r.g.c, .slice ba r.bl.length bc, .int .i64 r.who, .int .i64 r.el] = rc := ⟨_, rfl⟩
  have HRC := hid (show rc[0]? = some (.int .i64 r.i.cx) ∧ rc[1]? = some (.int .i64 r.i.cy) ∧ rc[2]? = some (.int .i64 r.i.sd) ∧ rc[3]? = some (.int .i64 r.i.W) ∧ rc[4]? = some (.int .i64 r.i.H) ∧ rc[5]? = some (.slice pa r.i.pl.length pc) ∧ rc[6]? = some (.slice qa r.i.ql.length qc) ∧ rc[7]? = some (.int .i64 r.g.fl) ∧ rc[8]? = some (.int .i64 r.g.kn) ∧ rc[9]? = some (.int .i64 r.g.a) ∧ rc[10]? = some (.int .i64 r.g.b) ∧ rc[11]? = some (.int .i64 r.g.c) ∧ rc[12]? = some (.slice ba r.bl.length bc) ∧ rc[13]? = some (.int .i64 r.who) ∧ rc[14]? = some (.int .i64 r.el) by rw [← hrc]; exact ⟨rfl, rfl, rfl, rfl, rfl, rfl, rfl, rfl, rfl, rfl, rfl, rfl, rfl, rfl, rfl⟩)
  rw [hrc] at HA1
  clear hrc
  go_wp2_with fail
  go_loopw [11] (fun i wr => ∃ (k : Nat) (s : List BodyD), k ≤ N ∧ i = .int .i64 k ∧ glideTo r t l k = .ok s ∧ SceneAt wr g off N s ∧ wr.heap[w.heap.size]? = some (.cells rc 118 (0, 0)) ∧ Ch (fun k => k = g) w wr) (fun i _ => N - (intOf i).toNat)
  case atStart => exact ⟨0, l, Nat.zero_le _, rfl, rfl, HSC1.out, HA1.out, HC1.out⟩
  case round =>
    clear HSC1 HA1 HC1
    obtain ⟨k, s, hk, rfl, hgt, hsc, hbox, hch⟩ := hrel
    have HGT := hid hgt
    have HSC := hid hsc
    have HBX := hid hbox
    have HCH := hid hch
    clear hgt hsc hbox hch
    by_cases hlt : k < N
    · have hk16 : k < 16 := Nat.lt_of_lt_of_le hlt HHN.out
      obtain rfl := HA.out (Nat.lt_of_le_of_lt (Nat.zero_le _) hlt)
      obtain ⟨cur, hcu, hrw⟩ := HSC.out.2 (Nat.lt_of_le_of_lt (Nat.zero_le _) hlt)
      have hks : k < s.length := by rw [HSC.out.1]; exact hlt
      obtain ⟨b, hbk⟩ : ∃ b, s[k]? = some b := ⟨_, List.getElem?_eq_getElem hks⟩
      have hmok := (HLK.out s k HGT.out).2.1 b (List.mem_of_getElem? hbk)
      have HRW0 := hid (hrw k b hbk)
      have HCU := hid hcu
      have HBK := hid hbk
      have HMOK := hid hmok
      clear hcu hrw hks hbk hmok
      obtain ⟨team, n, ⟨px, py, vx, vy, sp⟩, out⟩ := b
      go_upto_region 5 with fail
      obtain ⟨o, ho⟩ : ∃ o, off + k * 8 = o := ⟨_, rfl⟩
      rw [ho] at HRW0
      rw [ho]
      have HRW := hid HRW0.out
      have HO := hid ho
      clear ho HRW0
      have y0 : wr.cell? ⟨g, o, none⟩ = some (.int .i64 team) := cellN HCU.out (HRW.out 0 (by omega))
      have y1 : wr.cell? ⟨g, o + 1, none⟩ = some (.int .i64 n) := cellN HCU.out (HRW.out 1 (by omega))
      have y2 : wr.cell? ⟨g, o + 2, none⟩ = some (.int .i64 px) := cellN HCU.out (HRW.out 2 (by omega))
      have y3 : wr.cell? ⟨g, o + 3, none⟩ = some (.int .i64 py) := cellN HCU.out (HRW.out 3 (by omega))
      have y4 : wr.cell? ⟨g, o + 4, none⟩ = some (.int .i64 vx) := cellN HCU.out (HRW.out 4 (by omega))
      have y5 : wr.cell? ⟨g, o + 5, none⟩ = some (.int .i64 vy) := cellN HCU.out (HRW.out 5 (by omega))
      have y6 : wr.cell? ⟨g, o + 6, none⟩ = some (.int .i64 sp) := cellN HCU.out (HRW.out 6 (by omega))
      have y7 : wr.cell? ⟨g, o + 7, none⟩ = some (.bool out) := cellN HCU.out (HRW.out 7 (by omega))
      cases out with
      | true =>
        have HNX := hid (glide_stay HGT.out HBK.out rfl)
        go_wp2_with fail
        refine ⟨⟨k + 1, s, hlt, by go_num, HNX.out, HSC.out, HBX.out, HCH.out⟩, by simp only [intOf]; omega⟩
      | false =>
      have HRE := hid (show ∀ W, Calls Tryz.prog 130 #[.agg #[.int .i64 team, .int .i64 n, .int .i64 px, .int .i64 py, .int .i64 vx, .int .i64 vy, .int .i64 sp, .bool false]] W fun e w' => e = .returned (.bool (restM ⟨px, py, vx, vy, sp⟩)) ∧ Below W.heap.size W w' from fun W => rests130_any ⟨team, n, ⟨px, py, vx, vy, sp⟩, false⟩ W)
      have HRV := hid (show ∀ q, restM ⟨px, py, vx, vy, sp⟩ = q → (false || restM ⟨px, py, vx, vy, sp⟩) = q from fun q h => h)
      obtain ⟨rb, hrb⟩ : ∃ q, restM ⟨px, py, vx, vy, sp⟩ = q := ⟨_, rfl⟩
      rw [hrb] at HRE
      have HRB := hid (HRV.out rb hrb)
      clear hrb HRV
      go_wp2_with fail
      refine (HRE.out _).mono ?_
      rintro e w3 ⟨rfl, hb3⟩
      have HSC3 := hid (HSC.out.keep (hb3.block g (Array.getElem?_eq_some_iff.1 HCU.out).1))
      have HBX3 := hid (carry HBX.out hb3)
      have HCU3 := hid (carry HCU.out hb3)
      have HCH3 := hid (HCH.out.trans (Ch.of_below hb3))
      clear hb3 HSC HBX HCU HCH HRE y0 y1 y2 y3 y4 y5 y6 y7
      cases rb with
      | true =>
        have HNX := hid (glide_stay HGT.out HBK.out HRB.out)
        go_wp2_with fail
        refine ⟨⟨k + 1, s, hlt, by go_num, HNX.out, HSC3.out, HBX3.out, HCH3.out⟩, by simp only [intOf]; omega⟩
      | false =>
      have hwho := cellN (i := 13) (v := .int .i64 r.who) HBX3.out HRC.out.2.2.2.2.2.2.2.2.2.2.2.2.2.1
      have hbrm := cellN (i := 12) (v := .slice ba r.bl.length bc) HBX3.out HRC.out.2.2.2.2.2.2.2.2.2.2.2.2.1
      by_cases hw : (k : Int) = r.who
      · obtain ⟨p, hp⟩ : ∃ p : Nat, strR r.bl t = p := ⟨(strR r.bl t).toNat, by have := HSB.out; omega⟩
        have HPW := hid (show powR r t k = p by unfold powR; rw [if_pos hw, hp]; simp)
        have HPL := hid (show p ≤ 1000 by have := HSB.out; omega)
        rw [hp] at HSTR
        rw [← hw] at hwho
        have HWH := hid hw
        clear hw hp HSB
        go_wp2_with fail
        refine (HSTR.out _ (HBWF.out _ HCH3.out)).mono ?_
        rintro e w4 ⟨rfl, hb4⟩
        have HSC4 := hid (HSC3.out.keep (hb4.block g (Array.getElem?_eq_some_iff.1 HCU3.out).1))
        have HBX4 := hid (carry HBX3.out hb4)
        have HCU4 := hid (carry HCU3.out hb4)
        have HCH4 := hid (HCH3.out.trans (Ch.of_below hb4))
        clear hb4 HSC3 HBX3 HCU3 HCH3 hwho hbrm
        go_wp2_with fail
        refine (must131_ok _ _).mono ?_
        rintro e w5 ⟨rfl, hw5⟩
        subst hw5
        go_upto_region 9 with fail
        have HA4 := hid HBX4.out
        have HG4 := hid HCU4.out
        have HC4 := hid HCH4.out
        clear HBX4 HCU4 HCH4
        obtain ⟨x, hx⟩ : ∃ x, tickI r.i r.g p ⟨px, py, vx, vy, sp⟩ = x := ⟨_, rfl⟩
        have HGO := hid (glide_go HGT.out HBK.out (by rw [HRB.out]; simp) HPW.out hx)
        have HE0 := hid (show ∀ c, x = .error c → c ≠ 0 from fun c e => by have := tickI_err (hx.trans e); omega)
        have HT := hid (show ∀ W, Below w0.heap.size w0 W → Calls Tryz.prog 134 #[(.agg #[.int .i64 r.i.cx, .int .i64 r.i.cy, .int .i64 r.i.sd, .int .i64 r.i.W, .int .i64 r.i.H, .slice pa r.i.pl.length pc, .slice qa r.i.ql.length qc]), (.agg #[.int .i64 r.g.fl, .int .i64 r.g.kn, .int .i64 r.g.a, .int .i64 r.g.b, .int .i64 r.g.c]), (.agg #[.int .i64 px, .int .i64 py, .int .i64 vx, .int .i64 vy, .int .i64 sp]), .int .i64 (p : Int)] W fun e w' => e = tickE x ∧ Below W.heap.size W w' from fun W hb => by have h := HTT.out ⟨px, py, vx, vy, sp⟩ p W hb HMOK.out HPL.out; rw [hx] at h; exact h)
        have HQ := hid (show ∀ W : World, W.heap[w.heap.size]? = some (.cells rc 118 (0, 0)) → W.cell? ⟨w.heap.size, 0, none⟩ = some (.int .i64 r.i.cx) ∧ W.cell? ⟨w.heap.size, 1, none⟩ = some (.int .i64 r.i.cy) ∧ W.cell? ⟨w.heap.size, 2, none⟩ = some (.int .i64 r.i.sd) ∧ W.cell? ⟨w.heap.size, 3, none⟩ = some (.int .i64 r.i.W) ∧ W.cell? ⟨w.heap.size, 4, none⟩ = some (.int .i64 r.i.H) ∧ W.cell? ⟨w.heap.size, 5, none⟩ = some (.slice pa r.i.pl.length pc) ∧ W.cell? ⟨w.heap.size, 6, none⟩ = some (.slice qa r.i.ql.length qc) ∧ W.cell? ⟨w.heap.size, 7, none⟩ = some (.int .i64 r.g.fl) ∧ W.cell? ⟨w.heap.size, 8, none⟩ = some (.int .i64 r.g.kn) ∧ W.cell? ⟨w.heap.size, 9, none⟩ = some (.int .i64 r.g.a) ∧ W.cell? ⟨w.heap.size, 10, none⟩ = some (.int .i64 r.g.b) ∧ W.cell? ⟨w.heap.size, 11, none⟩ = some (.int .i64 r.g.c) from fun W h => ⟨cellN h HRC.out.1, cellN h HRC.out.2.1, cellN h HRC.out.2.2.1, cellN h HRC.out.2.2.2.1, cellN h HRC.out.2.2.2.2.1, cellN h HRC.out.2.2.2.2.2.1, cellN h HRC.out.2.2.2.2.2.2.1, cellN h HRC.out.2.2.2.2.2.2.2.1, cellN h HRC.out.2.2.2.2.2.2.2.2.1, cellN h HRC.out.2.2.2.2.2.2.2.2.2.1, cellN h HRC.out.2.2.2.2.2.2.2.2.2.2.1, cellN h HRC.out.2.2.2.2.2.2.2.2.2.2.2.1⟩)
        clear hx HTT
        have HPUT := hid (show ∀ (W : World) (cur' : Array Value) (_ : W.heap[g]? = some (.cells cur' 174 (0, 0))) {b' : BodyD} (_ : RowB cur' o b') (_ : ∀ i, i < o ∨ o + 8 ≤ i → cur'[i]? = cur[i]?), SceneAt W g off N (s.set k b') from fun W cur' h b' h1 h2 => HSC4.out.put HBK.out HG4.out h (by rw [HO.out]; exact h1) (by rw [HO.out]; exact h2))
        cases x with
        | error c =>
          have HGE := hid (HERRN.out c (k + 1) (HGO.out.1 c rfl) hlt)
          have HER := hid (HE0.out c rfl)
          have HT := hid (show ∀ W, Below w0.heap.size w0 W → Calls Tryz.prog 134 #[(.agg #[.int .i64 r.i.cx, .int .i64 r.i.cy, .int .i64 r.i.sd, .int .i64 r.i.W, .int .i64 r.i.H, .slice pa r.i.pl.length pc, .slice qa r.i.ql.length qc]), (.agg #[.int .i64 r.g.fl, .int .i64 r.g.kn, .int .i64 r.g.a, .int .i64 r.g.b, .int .i64 r.g.c]), (.agg #[.int .i64 px, .int .i64 py, .int .i64 vx, .int .i64 vy, .int .i64 sp]), .int .i64 (p : Int)] W fun e w' => e = .returned (.tuple #[.agg #[.int .i64 0, .int .i64 0, .int .i64 0, .int .i64 0, .int .i64 0], .int .i64 c]) ∧ Below W.heap.size W w' from HT.out)
          clear HE0 HGO HPUT HSC4
          refine wp_region_held_drew (S := (fun W => W.cell? ⟨w.heap.size, 0, none⟩ = some (.int .i64 r.i.cx) ∧ W.cell? ⟨w.heap.size, 1, none⟩ = some (.int .i64 r.i.cy) ∧ W.cell? ⟨w.heap.size, 2, none⟩ = some (.int .i64 r.i.sd) ∧ W.cell? ⟨w.heap.size, 3, none⟩ = some (.int .i64 r.i.W) ∧ W.cell? ⟨w.heap.size, 4, none⟩ = some (.int .i64 r.i.H) ∧ W.cell? ⟨w.heap.size, 5, none⟩ = some (.slice pa r.i.pl.length pc) ∧ W.cell? ⟨w.heap.size, 6, none⟩ = some (.slice qa r.i.ql.length qc) ∧ W.cell? ⟨w.heap.size, 7, none⟩ = some (.int .i64 r.g.fl) ∧ W.cell? ⟨w.heap.size, 8, none⟩ = some (.int .i64 r.g.kn) ∧ W.cell? ⟨w.heap.size, 9, none⟩ = some (.int .i64 r.g.a) ∧ W.cell? ⟨w.heap.size, 10, none⟩ = some (.int .i64 r.g.b) ∧ W.cell? ⟨w.heap.size, 11, none⟩ = some (.int .i64 r.g.c))) (by kernel_rfl) (HQ.out _ HA4.out) (fun hH => ?_)
          obtain ⟨v0, hv0⟩ : ∃ v0, v0 = w5.drew := ⟨_, rfl⟩
          have HA5 := hid (show v0.heap[w.heap.size]? = some (.cells rc 118 (0, 0)) by rw [hv0]; exact HA4.out)
          have HG5 := hid (show v0.heap[g]? = some (.cells cur 174 (0, 0)) by rw [hv0]; exact HG4.out)
          have HC5 := hid (show Ch (fun k => k = g) w v0 by rw [hv0]; exact ⟨HC4.out.1.drew, HC4.out.2⟩)
          have HBW := hid (HBWF.out _ HC5.out)
          have Y5 := hid (show v0.cell? ⟨g, o + 2, none⟩ = some (.int .i64 px) ∧ v0.cell? ⟨g, o + 3, none⟩ = some (.int .i64 py) ∧ v0.cell? ⟨g, o + 4, none⟩ = some (.int .i64 vx) ∧ v0.cell? ⟨g, o + 5, none⟩ = some (.int .i64 vy) ∧ v0.cell? ⟨g, o + 6, none⟩ = some (.int .i64 sp) from ⟨cellN HG5.out (HRW.out 2 (by omega)), cellN HG5.out (HRW.out 3 (by omega)), cellN HG5.out (HRW.out 4 (by omega)), cellN HG5.out (HRW.out 5 (by omega)), cellN HG5.out (HRW.out 6 (by omega))⟩)
          rw [← hv0] at hH ⊢
          clear hv0
          refine wpAnyH_take (i := 0) (oi := { dst := some 39, op := Go.Op.move (Go.Operand.tmp 7), type := 179, pos := "contact.go:188", after := #[], guard := none }) (v := (.pointer (some ⟨g, o, none⟩))) rfl (by kernel_rfl) (by kernel_rfl) (by kernel_rfl) (fun _ _ _ h => h) (Or.inl ⟨by rfl, ?_⟩) hH ?_
          · intro w hSw
            (try dsimp only at hSw)
            go_simp
          (try simp only [Act.put, List.setIfInBounds_toArray, List.set_cons_zero, List.set_cons_succ])
          refine wpAnyH_take (i := 1) (oi := { dst := some 40, op := Go.Op.fieldAddr 118 (Go.Operand.tmp 3) 0, type := 0, pos := "contact.go:188", after := #[], guard := none }) (v := (.pointer (some ⟨w.heap.size, 0, none⟩))) rfl (by kernel_rfl) (by kernel_rfl) (by kernel_rfl) (fun _ _ _ h => h) (Or.inl ⟨by rfl, ?_⟩) hH ?_
          · intro w hSw
            (try dsimp only at hSw)
            go_simp
          (try simp only [Act.put, List.setIfInBounds_toArray, List.set_cons_zero, List.set_cons_succ])
          refine wpAnyH_take (i := 2) (oi := { dst := some 41, op := Go.Op.load 31 (Go.Operand.tmp 40), type := 31, pos := "contact.go:188", after := #[{ on := 1, ground := Go.Ground.data }], guard := none }) (v := (.agg #[.int .i64 r.i.cx, .int .i64 r.i.cy, .int .i64 r.i.sd, .int .i64 r.i.W, .int .i64 r.i.H, .slice pa r.i.pl.length pc, .slice qa r.i.ql.length qc])) rfl (by kernel_rfl) (by kernel_rfl) (by kernel_rfl) (fun _ _ _ h => h) (Or.inl ⟨by rfl, ?_⟩) hH ?_
          · intro w hSw
            (try dsimp only at hSw)
            go_simp
          (try simp only [Act.put, List.setIfInBounds_toArray, List.set_cons_zero, List.set_cons_succ])
          refine wpAnyH_take (i := 3) (oi := { dst := some 42, op := Go.Op.fieldAddr 118 (Go.Operand.tmp 3) 1, type := 0, pos := "contact.go:188", after := #[], guard := none }) (v := (.pointer (some ⟨w.heap.size, 7, none⟩))) rfl (by kernel_rfl) (by kernel_rfl) (by kernel_rfl) (fun _ _ _ h => h) (Or.inl ⟨by rfl, ?_⟩) hH ?_
          · intro w hSw
            (try dsimp only at hSw)
            go_simp
          (try simp only [Act.put, List.setIfInBounds_toArray, List.set_cons_zero, List.set_cons_succ])
          refine wpAnyH_take (i := 4) (oi := { dst := some 43, op := Go.Op.load 24 (Go.Operand.tmp 42), type := 24, pos := "contact.go:188", after := #[{ on := 3, ground := Go.Ground.data }], guard := none }) (v := (.agg #[.int .i64 r.g.fl, .int .i64 r.g.kn, .int .i64 r.g.a, .int .i64 r.g.b, .int .i64 r.g.c])) rfl (by kernel_rfl) (by kernel_rfl) (by kernel_rfl) (fun _ _ _ h => h) (Or.inl ⟨by rfl, ?_⟩) hH ?_
          · intro w hSw
            (try dsimp only at hSw)
            go_simp
          (try simp only [Act.put, List.setIfInBounds_toArray, List.set_cons_zero, List.set_cons_succ])
          refine wpAnyH_take (i := 5) (oi := { dst := some 44, op := Go.Op.move (Go.Operand.tmp 7), type := 179, pos := "contact.go:188", after := #[], guard := none }) (v := (.pointer (some ⟨g, o, none⟩))) rfl (by kernel_rfl) (by kernel_rfl) (by kernel_rfl) (fun _ _ _ h => h) (Or.inl ⟨by rfl, ?_⟩) hH ?_
          · intro w hSw
            (try dsimp only at hSw)
            go_simp
          (try simp only [Act.put, List.setIfInBounds_toArray, List.set_cons_zero, List.set_cons_succ])
          refine wpAnyH_take (i := 6) (oi := { dst := some 45, op := Go.Op.nilCheck (Go.Operand.tmp 44), type := 0, pos := "contact.go:188", after := #[{ on := 5, ground := Go.Ground.data }], guard := none }) (v := (.pointer (some ⟨g, o, none⟩))) rfl (by kernel_rfl) (by kernel_rfl) (by kernel_rfl) (fun _ _ _ h => h) (Or.inl ⟨by rfl, ?_⟩) hH ?_
          · intro w hSw
            (try dsimp only at hSw)
            go_simp
          (try simp only [Act.put, List.setIfInBounds_toArray, List.set_cons_zero, List.set_cons_succ])
          refine wpAnyH_take (i := 7) (oi := { dst := some 46, op := Go.Op.fieldAddr 174 (Go.Operand.tmp 45) 0, type := 0, pos := "contact.go:188", after := #[{ on := 6, ground := Go.Ground.data }], guard := none }) (v := (.pointer (some ⟨g, o, none⟩))) rfl (by kernel_rfl) (by kernel_rfl) (by kernel_rfl) (fun _ _ _ h => h) (Or.inl ⟨by rfl, ?_⟩) hH ?_
          · intro w hSw
            (try dsimp only at hSw)
            go_simp
          (try simp only [Act.put, List.setIfInBounds_toArray, List.set_cons_zero, List.set_cons_succ])
          refine wpAnyH_take (i := 8) (oi := { dst := some 47, op := Go.Op.fieldAddr 72 (Go.Operand.tmp 46) 2, type := 0, pos := "contact.go:188", after := #[{ on := 7, ground := Go.Ground.data }], guard := none }) (v := (.pointer (some ⟨g, o + 2, none⟩))) rfl (by kernel_rfl) (by kernel_rfl) (by kernel_rfl) (fun _ _ _ h => h) (Or.inl ⟨by rfl, ?_⟩) hH ?_
          · intro w hSw
            (try dsimp only at hSw)
            go_simp
          (try simp only [Act.put, List.setIfInBounds_toArray, List.set_cons_zero, List.set_cons_succ])
          refine wpAnyH_take (i := 10) (oi := { dst := some 49, op := Go.Op.move (Go.Operand.tmp 8), type := 3, pos := "contact.go:188", after := #[], guard := none }) (v := (.int .i64 (p : Int))) rfl (by kernel_rfl) (by kernel_rfl) (by kernel_rfl) (fun _ _ _ h => h) (Or.inl ⟨by rfl, ?_⟩) hH ?_
          · intro w hSw
            (try dsimp only at hSw)
            go_simp
          (try simp only [Act.put, List.setIfInBounds_toArray, List.set_cons_zero, List.set_cons_succ])
          refine wpAnyH_ready (rs := [9]) (by kernel_rfl) (by simp) ?_
          refine AllReadyH.cons rfl (fun K hK => ?_) AllReadyH.nil
          (try dsimp only at hH)
          obtain ⟨y2, y3, y4, y5, y6⟩ := Y5.out
          go_simp
          refine hK.out _ _ (HQ.out _ HA5.out) (fun hH1 => ?_)
          clear hK K
          clear y2 y3 y4 y5 y6
          (try simp only [Act.put, List.setIfInBounds_toArray, List.set_cons_zero, List.set_cons_succ])
          refine wpAnyH_ready (rs := [11]) (by kernel_rfl) (by simp) ?_
          refine AllReadyH.cons rfl (fun K hK => ?_) AllReadyH.nil
          (try dsimp only at hH1)
          go_simp
          refine (HT.out _ HBW.out).mono ?_
          rintro e w6 ⟨rfl, hb6⟩
          refine hK.out _ _ (HQ.out _ (carry HA5.out hb6)) (fun hH2 => ?_)
          clear hK K
          have HA6 := hid (carry HA5.out hb6)
          have HG6 := hid (carry HG5.out hb6)
          have HC6 := hid (HC5.out.trans (Ch.of_below hb6))
          clear hb6
          (try simp only [Act.put, List.setIfInBounds_toArray, List.set_cons_zero, List.set_cons_succ])
          refine wpAnyH_take (i := 12) (oi := { dst := some 51, op := Go.Op.extract (Go.Operand.tmp 50) 0, type := 39, pos := "contact.go:188", after := #[{ on := 11, ground := Go.Ground.data }], guard := none }) (v := (.agg #[.int .i64 0, .int .i64 0, .int .i64 0, .int .i64 0, .int .i64 0])) rfl (by kernel_rfl) (by kernel_rfl) (by kernel_rfl) (fun _ _ _ h => h) (Or.inl ⟨by rfl, ?_⟩) hH2 ?_
          · intro w hSw
            (try dsimp only at hSw)
            go_simp
          (try simp only [Act.put, List.setIfInBounds_toArray, List.set_cons_zero, List.set_cons_succ])
          refine wpAnyH_take (i := 13) (oi := { dst := some 52, op := Go.Op.extract (Go.Operand.tmp 50) 1, type := 33, pos := "contact.go:188", after := #[{ on := 11, ground := Go.Ground.data }], guard := none }) (v := (.int .i64 c)) rfl (by kernel_rfl) (by kernel_rfl) (by kernel_rfl) (fun _ _ _ h => h) (Or.inl ⟨by rfl, ?_⟩) hH2 ?_
          · intro w hSw
            (try dsimp only at hSw)
            go_simp
          (try simp only [Act.put, List.setIfInBounds_toArray, List.set_cons_zero, List.set_cons_succ])
          refine wpAnyH_ready (rs := [14]) (by kernel_rfl) (by simp) ?_
          refine AllReadyH.cons rfl (fun K hK => ?_) AllReadyH.nil
          (try dsimp only at hH2)
          go_simp
          refine ((must133_err _ _ _ _ _ c HER.out _)).mono ?_
          rintro e w7 ⟨rfl, hb7⟩
          exact ⟨rfl, GlideE.err HGE.out (HC6.out.trans (Ch.of_below hb7))⟩
        | ok m =>
          have HNX := hid (HGO.out.2 m rfl)
          obtain ⟨mx, my, mvx, mvy, msp⟩ := m
          have HT := hid (show ∀ W, Below w0.heap.size w0 W → Calls Tryz.prog 134 #[(.agg #[.int .i64 r.i.cx, .int .i64 r.i.cy, .int .i64 r.i.sd, .int .i64 r.i.W, .int .i64 r.i.H, .slice pa r.i.pl.length pc, .slice qa r.i.ql.length qc]), (.agg #[.int .i64 r.g.fl, .int .i64 r.g.kn, .int .i64 r.g.a, .int .i64 r.g.b, .int .i64 r.g.c]), (.agg #[.int .i64 px, .int .i64 py, .int .i64 vx, .int .i64 vy, .int .i64 sp]), .int .i64 (p : Int)] W fun e w' => e = .returned (.tuple #[.agg #[.int .i64 mx, .int .i64 my, .int .i64 mvx, .int .i64 mvy, .int .i64 msp], .int .i64 0]) ∧ Below W.heap.size W w' from HT.out)
          have HM := hid (show ∀ W, Calls Tryz.prog 133 #[.agg #[.int .i64 mx, .int .i64 my, .int .i64 mvx, .int .i64 mvy, .int .i64 msp], .int .i64 0] W fun e w' => e = .returned (.agg #[.int .i64 mx, .int .i64 my, .int .i64 mvx, .int .i64 mvy, .int .i64 msp]) ∧ Below W.heap.size W w' from fun W => must133_ok ⟨mx, my, mvx, mvy, msp⟩ W)
          clear HE0 HGO HSC4
          refine wp_region_held_drew (S := (fun W => W.cell? ⟨w.heap.size, 0, none⟩ = some (.int .i64 r.i.cx) ∧ W.cell? ⟨w.heap.size, 1, none⟩ = some (.int .i64 r.i.cy) ∧ W.cell? ⟨w.heap.size, 2, none⟩ = some (.int .i64 r.i.sd) ∧ W.cell? ⟨w.heap.size, 3, none⟩ = some (.int .i64 r.i.W) ∧ W.cell? ⟨w.heap.size, 4, none⟩ = some (.int .i64 r.i.H) ∧ W.cell? ⟨w.heap.size, 5, none⟩ = some (.slice pa r.i.pl.length pc) ∧ W.cell? ⟨w.heap.size, 6, none⟩ = some (.slice qa r.i.ql.length qc) ∧ W.cell? ⟨w.heap.size, 7, none⟩ = some (.int .i64 r.g.fl) ∧ W.cell? ⟨w.heap.size, 8, none⟩ = some (.int .i64 r.g.kn) ∧ W.cell? ⟨w.heap.size, 9, none⟩ = some (.int .i64 r.g.a) ∧ W.cell? ⟨w.heap.size, 10, none⟩ = some (.int .i64 r.g.b) ∧ W.cell? ⟨w.heap.size, 11, none⟩ = some (.int .i64 r.g.c))) (by kernel_rfl) (HQ.out _ HA4.out) (fun hH => ?_)
          obtain ⟨v0, hv0⟩ : ∃ v0, v0 = w5.drew := ⟨_, rfl⟩
          have HA5 := hid (show v0.heap[w.heap.size]? = some (.cells rc 118 (0, 0)) by rw [hv0]; exact HA4.out)
          have HG5 := hid (show v0.heap[g]? = some (.cells cur 174 (0, 0)) by rw [hv0]; exact HG4.out)
          have HC5 := hid (show Ch (fun k => k = g) w v0 by rw [hv0]; exact ⟨HC4.out.1.drew, HC4.out.2⟩)
          have HBW := hid (HBWF.out _ HC5.out)
          have Y5 := hid (show v0.cell? ⟨g, o + 2, none⟩ = some (.int .i64 px) ∧ v0.cell? ⟨g, o + 3, none⟩ = some (.int .i64 py) ∧ v0.cell? ⟨g, o + 4, none⟩ = some (.int .i64 vx) ∧ v0.cell? ⟨g, o + 5, none⟩ = some (.int .i64 vy) ∧ v0.cell? ⟨g, o + 6, none⟩ = some (.int .i64 sp) from ⟨cellN HG5.out (HRW.out 2 (by omega)), cellN HG5.out (HRW.out 3 (by omega)), cellN HG5.out (HRW.out 4 (by omega)), cellN HG5.out (HRW.out 5 (by omega)), cellN HG5.out (HRW.out 6 (by omega))⟩)
          rw [← hv0] at hH ⊢
          clear hv0
          refine wpAnyH_take (i := 0) (oi := { dst := some 39, op := Go.Op.move (Go.Operand.tmp 7), type := 179, pos := "contact.go:188", after := #[], guard := none }) (v := (.pointer (some ⟨g, o, none⟩))) rfl (by kernel_rfl) (by kernel_rfl) (by kernel_rfl) (fun _ _ _ h => h) (Or.inl ⟨by rfl, ?_⟩) hH ?_
          · intro w hSw
            (try dsimp only at hSw)
            go_simp
          (try simp only [Act.put, List.setIfInBounds_toArray, List.set_cons_zero, List.set_cons_succ])
          refine wpAnyH_take (i := 1) (oi := { dst := some 40, op := Go.Op.fieldAddr 118 (Go.Operand.tmp 3) 0, type := 0, pos := "contact.go:188", after := #[], guard := none }) (v := (.pointer (some ⟨w.heap.size, 0, none⟩))) rfl (by kernel_rfl) (by kernel_rfl) (by kernel_rfl) (fun _ _ _ h => h) (Or.inl ⟨by rfl, ?_⟩) hH ?_
          · intro w hSw
            (try dsimp only at hSw)
            go_simp
          (try simp only [Act.put, List.setIfInBounds_toArray, List.set_cons_zero, List.set_cons_succ])
          refine wpAnyH_take (i := 2) (oi := { dst := some 41, op := Go.Op.load 31 (Go.Operand.tmp 40), type := 31, pos := "contact.go:188", after := #[{ on := 1, ground := Go.Ground.data }], guard := none }) (v := (.agg #[.int .i64 r.i.cx, .int .i64 r.i.cy, .int .i64 r.i.sd, .int .i64 r.i.W, .int .i64 r.i.H, .slice pa r.i.pl.length pc, .slice qa r.i.ql.length qc])) rfl (by kernel_rfl) (by kernel_rfl) (by kernel_rfl) (fun _ _ _ h => h) (Or.inl ⟨by rfl, ?_⟩) hH ?_
          · intro w hSw
            (try dsimp only at hSw)
            go_simp
          (try simp only [Act.put, List.setIfInBounds_toArray, List.set_cons_zero, List.set_cons_succ])
          refine wpAnyH_take (i := 3) (oi := { dst := some 42, op := Go.Op.fieldAddr 118 (Go.Operand.tmp 3) 1, type := 0, pos := "contact.go:188", after := #[], guard := none }) (v := (.pointer (some ⟨w.heap.size, 7, none⟩))) rfl (by kernel_rfl) (by kernel_rfl) (by kernel_rfl) (fun _ _ _ h => h) (Or.inl ⟨by rfl, ?_⟩) hH ?_
          · intro w hSw
            (try dsimp only at hSw)
            go_simp
          (try simp only [Act.put, List.setIfInBounds_toArray, List.set_cons_zero, List.set_cons_succ])
          refine wpAnyH_take (i := 4) (oi := { dst := some 43, op := Go.Op.load 24 (Go.Operand.tmp 42), type := 24, pos := "contact.go:188", after := #[{ on := 3, ground := Go.Ground.data }], guard := none }) (v := (.agg #[.int .i64 r.g.fl, .int .i64 r.g.kn, .int .i64 r.g.a, .int .i64 r.g.b, .int .i64 r.g.c])) rfl (by kernel_rfl) (by kernel_rfl) (by kernel_rfl) (fun _ _ _ h => h) (Or.inl ⟨by rfl, ?_⟩) hH ?_
          · intro w hSw
            (try dsimp only at hSw)
            go_simp
          (try simp only [Act.put, List.setIfInBounds_toArray, List.set_cons_zero, List.set_cons_succ])
          refine wpAnyH_take (i := 5) (oi := { dst := some 44, op := Go.Op.move (Go.Operand.tmp 7), type := 179, pos := "contact.go:188", after := #[], guard := none }) (v := (.pointer (some ⟨g, o, none⟩))) rfl (by kernel_rfl) (by kernel_rfl) (by kernel_rfl) (fun _ _ _ h => h) (Or.inl ⟨by rfl, ?_⟩) hH ?_
          · intro w hSw
            (try dsimp only at hSw)
            go_simp
          (try simp only [Act.put, List.setIfInBounds_toArray, List.set_cons_zero, List.set_cons_succ])
          refine wpAnyH_take (i := 6) (oi := { dst := some 45, op := Go.Op.nilCheck (Go.Operand.tmp 44), type := 0, pos := "contact.go:188", after := #[{ on := 5, ground := Go.Ground.data }], guard := none }) (v := (.pointer (some ⟨g, o, none⟩))) rfl (by kernel_rfl) (by kernel_rfl) (by kernel_rfl) (fun _ _ _ h => h) (Or.inl ⟨by rfl, ?_⟩) hH ?_
          · intro w hSw
            (try dsimp only at hSw)
            go_simp
          (try simp only [Act.put, List.setIfInBounds_toArray, List.set_cons_zero, List.set_cons_succ])
          refine wpAnyH_take (i := 7) (oi := { dst := some 46, op := Go.Op.fieldAddr 174 (Go.Operand.tmp 45) 0, type := 0, pos := "contact.go:188", after := #[{ on := 6, ground := Go.Ground.data }], guard := none }) (v := (.pointer (some ⟨g, o, none⟩))) rfl (by kernel_rfl) (by kernel_rfl) (by kernel_rfl) (fun _ _ _ h => h) (Or.inl ⟨by rfl, ?_⟩) hH ?_
          · intro w hSw
            (try dsimp only at hSw)
            go_simp
          (try simp only [Act.put, List.setIfInBounds_toArray, List.set_cons_zero, List.set_cons_succ])
          refine wpAnyH_take (i := 8) (oi := { dst := some 47, op := Go.Op.fieldAddr 72 (Go.Operand.tmp 46) 2, type := 0, pos := "contact.go:188", after := #[{ on := 7, ground := Go.Ground.data }], guard := none }) (v := (.pointer (some ⟨g, o + 2, none⟩))) rfl (by kernel_rfl) (by kernel_rfl) (by kernel_rfl) (fun _ _ _ h => h) (Or.inl ⟨by rfl, ?_⟩) hH ?_
          · intro w hSw
            (try dsimp only at hSw)
            go_simp
          (try simp only [Act.put, List.setIfInBounds_toArray, List.set_cons_zero, List.set_cons_succ])
          refine wpAnyH_take (i := 10) (oi := { dst := some 49, op := Go.Op.move (Go.Operand.tmp 8), type := 3, pos := "contact.go:188", after := #[], guard := none }) (v := (.int .i64 (p : Int))) rfl (by kernel_rfl) (by kernel_rfl) (by kernel_rfl) (fun _ _ _ h => h) (Or.inl ⟨by rfl, ?_⟩) hH ?_
          · intro w hSw
            (try dsimp only at hSw)
            go_simp
          (try simp only [Act.put, List.setIfInBounds_toArray, List.set_cons_zero, List.set_cons_succ])
          refine wpAnyH_ready (rs := [9]) (by kernel_rfl) (by simp) ?_
          refine AllReadyH.cons rfl (fun K hK => ?_) AllReadyH.nil
          (try dsimp only at hH)
          obtain ⟨y2, y3, y4, y5, y6⟩ := Y5.out
          go_simp
          refine hK.out _ _ (HQ.out _ HA5.out) (fun hH1 => ?_)
          clear hK K
          clear y2 y3 y4 y5 y6
          (try simp only [Act.put, List.setIfInBounds_toArray, List.set_cons_zero, List.set_cons_succ])
          refine wpAnyH_ready (rs := [11]) (by kernel_rfl) (by simp) ?_
          refine AllReadyH.cons rfl (fun K hK => ?_) AllReadyH.nil
          (try dsimp only at hH1)
          go_simp
          refine (HT.out _ HBW.out).mono ?_
          rintro e w6 ⟨rfl, hb6⟩
          refine hK.out _ _ (HQ.out _ (carry HA5.out hb6)) (fun hH2 => ?_)
          clear hK K
          have HA6 := hid (carry HA5.out hb6)
          have HG6 := hid (carry HG5.out hb6)
          have HC6 := hid (HC5.out.trans (Ch.of_below hb6))
          clear hb6
          (try simp only [Act.put, List.setIfInBounds_toArray, List.set_cons_zero, List.set_cons_succ])
          refine wpAnyH_take (i := 12) (oi := { dst := some 51, op := Go.Op.extract (Go.Operand.tmp 50) 0, type := 39, pos := "contact.go:188", after := #[{ on := 11, ground := Go.Ground.data }], guard := none }) (v := (.agg #[.int .i64 mx, .int .i64 my, .int .i64 mvx, .int .i64 mvy, .int .i64 msp])) rfl (by kernel_rfl) (by kernel_rfl) (by kernel_rfl) (fun _ _ _ h => h) (Or.inl ⟨by rfl, ?_⟩) hH2 ?_
          · intro w hSw
            (try dsimp only at hSw)
            go_simp
          (try simp only [Act.put, List.setIfInBounds_toArray, List.set_cons_zero, List.set_cons_succ])
          refine wpAnyH_take (i := 13) (oi := { dst := some 52, op := Go.Op.extract (Go.Operand.tmp 50) 1, type := 33, pos := "contact.go:188", after := #[{ on := 11, ground := Go.Ground.data }], guard := none }) (v := (.int .i64 0)) rfl (by kernel_rfl) (by kernel_rfl) (by kernel_rfl) (fun _ _ _ h => h) (Or.inl ⟨by rfl, ?_⟩) hH2 ?_
          · intro w hSw
            (try dsimp only at hSw)
            go_simp
          (try simp only [Act.put, List.setIfInBounds_toArray, List.set_cons_zero, List.set_cons_succ])
          refine wpAnyH_ready (rs := [14]) (by kernel_rfl) (by simp) ?_
          refine AllReadyH.cons rfl (fun K hK => ?_) AllReadyH.nil
          (try dsimp only at hH2)
          go_simp
          refine (HM.out _).mono ?_
          rintro e w7 ⟨rfl, hb7⟩
          refine hK.out _ _ (HQ.out _ (carry HA6.out hb7)) (fun hH3 => ?_)
          clear hK K
          have HA7 := hid (carry HA6.out hb7)
          have hG7 := carry HG6.out hb7
          have HC7 := hid (HC6.out.trans (Ch.of_below hb7))
          clear hb7
          (try simp only [Act.put, List.setIfInBounds_toArray, List.set_cons_zero, List.set_cons_succ])
          refine wpAnyH_take (i := 15) (oi := { dst := some 54, op := Go.Op.nilCheck (Go.Operand.tmp 39), type := 0, pos := "contact.go:188", after := #[{ on := 0, ground := Go.Ground.data }, { on := 0, ground := Go.Ground.phase }, { on := 1, ground := Go.Ground.phase }, { on := 2, ground := Go.Ground.phase }, { on := 3, ground := Go.Ground.phase }, { on := 4, ground := Go.Ground.phase }, { on := 5, ground := Go.Ground.phase }, { on := 6, ground := Go.Ground.phase }, { on := 7, ground := Go.Ground.phase }, { on := 8, ground := Go.Ground.phase }, { on := 9, ground := Go.Ground.phase }, { on := 10, ground := Go.Ground.phase }, { on := 11, ground := Go.Ground.phase }, { on := 12, ground := Go.Ground.phase }, { on := 13, ground := Go.Ground.phase }, { on := 14, ground := Go.Ground.phase }], guard := none }) (v := (.pointer (some ⟨g, o, none⟩))) rfl (by kernel_rfl) (by kernel_rfl) (by kernel_rfl) (fun _ _ _ h => h) (Or.inl ⟨by rfl, ?_⟩) hH3 ?_
          · intro w hSw
            (try dsimp only at hSw)
            go_simp
          (try simp only [Act.put, List.setIfInBounds_toArray, List.set_cons_zero, List.set_cons_succ])
          refine wpAnyH_take (i := 16) (oi := { dst := some 55, op := Go.Op.fieldAddr 174 (Go.Operand.tmp 54) 0, type := 0, pos := "contact.go:188", after := #[{ on := 15, ground := Go.Ground.data }, { on := 0, ground := Go.Ground.phase }, { on := 1, ground := Go.Ground.phase }, { on := 2, ground := Go.Ground.phase }, { on := 3, ground := Go.Ground.phase }, { on := 4, ground := Go.Ground.phase }, { on := 5, ground := Go.Ground.phase }, { on := 6, ground := Go.Ground.phase }, { on := 7, ground := Go.Ground.phase }, { on := 8, ground := Go.Ground.phase }, { on := 9, ground := Go.Ground.phase }, { on := 10, ground := Go.Ground.phase }, { on := 11, ground := Go.Ground.phase }, { on := 12, ground := Go.Ground.phase }, { on := 13, ground := Go.Ground.phase }, { on := 14, ground := Go.Ground.phase }], guard := none }) (v := (.pointer (some ⟨g, o, none⟩))) rfl (by kernel_rfl) (by kernel_rfl) (by kernel_rfl) (fun _ _ _ h => h) (Or.inl ⟨by rfl, ?_⟩) hH3 ?_
          · intro w hSw
            (try dsimp only at hSw)
            go_simp
          (try simp only [Act.put, List.setIfInBounds_toArray, List.set_cons_zero, List.set_cons_succ])
          refine wpAnyH_take (i := 17) (oi := { dst := some 56, op := Go.Op.fieldAddr 72 (Go.Operand.tmp 55) 2, type := 0, pos := "contact.go:188", after := #[{ on := 16, ground := Go.Ground.data }, { on := 0, ground := Go.Ground.phase }, { on := 1, ground := Go.Ground.phase }, { on := 2, ground := Go.Ground.phase }, { on := 3, ground := Go.Ground.phase }, { on := 4, ground := Go.Ground.phase }, { on := 5, ground := Go.Ground.phase }, { on := 6, ground := Go.Ground.phase }, { on := 7, ground := Go.Ground.phase }, { on := 8, ground := Go.Ground.phase }, { on := 9, ground := Go.Ground.phase }, { on := 10, ground := Go.Ground.phase }, { on := 11, ground := Go.Ground.phase }, { on := 12, ground := Go.Ground.phase }, { on := 13, ground := Go.Ground.phase }, { on := 14, ground := Go.Ground.phase }], guard := none }) (v := (.pointer (some ⟨g, o + 2, none⟩))) rfl (by kernel_rfl) (by kernel_rfl) (by kernel_rfl) (fun _ _ _ h => h) (Or.inl ⟨by rfl, ?_⟩) hH3 ?_
          · intro w hSw
            (try dsimp only at hSw)
            go_simp
          (try simp only [Act.put, List.setIfInBounds_toArray, List.set_cons_zero, List.set_cons_succ])
          refine wpAnyH_ready (rs := [18]) (by kernel_rfl) (by simp) ?_
          refine AllReadyH.cons rfl (fun K hK => ?_) AllReadyH.nil
          (try dsimp only at hH3)
          have y2 : w7.cell? ⟨g, o + 2, none⟩ = some (.int .i64 px) := cellN hG7 (HRW.out 2 (by omega))
          have y3 : w7.cell? ⟨g, o + 3, none⟩ = some (.int .i64 py) := cellN hG7 (HRW.out 3 (by omega))
          have y4 : w7.cell? ⟨g, o + 4, none⟩ = some (.int .i64 vx) := cellN hG7 (HRW.out 4 (by omega))
          have y5 : w7.cell? ⟨g, o + 5, none⟩ = some (.int .i64 vy) := cellN hG7 (HRW.out 5 (by omega))
          have y6 : w7.cell? ⟨g, o + 6, none⟩ = some (.int .i64 sp) := cellN hG7 (HRW.out 6 (by omega))
          have f2 : w7.frozen? ⟨g, o + 2, none⟩ = false := frozN hG7
          have f3 : w7.frozen? ⟨g, o + 3, none⟩ = false := frozN hG7
          have f4 : w7.frozen? ⟨g, o + 4, none⟩ = false := frozN hG7
          have f5 : w7.frozen? ⟨g, o + 5, none⟩ = false := frozN hG7
          have f6 : w7.frozen? ⟨g, o + 6, none⟩ = false := frozN hG7
          go_simp
          refine hK.out _ _ (HQ.out _ ((setMv_oth (g := g) (o := o) (w := w7) mx my mvx mvy msp HNE.out).trans HA7.out)) (fun hH4 => ?_)
          clear hK K
          have hA8 := (setMv_oth (g := g) (o := o) (w := w7) mx my mvx mvy msp HNE.out).trans HA7.out
          have hG8 := setMv_heap (o := o) hG7 mx my mvx mvy msp
          have hC8 := setMv_ch (g := g) (o := o) (fun k => k = g) rfl mx my mvx mvy msp HC7.out
          clear y2 y3 y4 y5 y6 f2 f3 f4 f5 f6 hG7
          generalize ((((w7.setCell ⟨g, o + 2, none⟩ (.int .i64 mx)).setCell ⟨g, o + 3, none⟩ (.int .i64 my)).setCell ⟨g, o + 4, none⟩ (.int .i64 mvx)).setCell ⟨g, o + 5, none⟩ (.int .i64 mvy)).setCell ⟨g, o + 6, none⟩ (.int .i64 msp) = w8 at *
          (try simp only [Act.put, List.setIfInBounds_toArray, List.set_cons_zero, List.set_cons_succ])
          refine wpAnyH_done (by kernel_rfl) ?_ _
          have HA8 := hid hA8
          have HG8 := hid hG8
          have HC8 := hid hC8
          clear hA8 hG8 hC8
          go_wp2_with fail
          exact ⟨⟨k + 1, _, hlt, by go_num, HNX.out, HPUT.out _ _ HG8.out (HRW.out.setMv mx my mvx mvy msp) (fun i hi => setMv_out mx my mvx mvy msp hi), HA8.out, HC8.out⟩, by simp only [intOf]; omega⟩
      · have HPW := hid (show powR r t k = 0 by unfold powR; rw [if_neg hw])
        have HPL := hid (show 0 ≤ 1000 by omega)
        have hw2 : ((k : Int) == r.who) = false := by simp [hw]
        go_upto_region 9 with fail
        have HSC4 := hid HSC3.out
        have HBX4 := hid HBX3.out
        have HCU4 := hid HCU3.out
        have HCH4 := hid HCH3.out
        clear HSC3 HBX3 HCU3 HCH3 hwho hbrm hw hw2 HSTR HSB
        obtain ⟨w5, hw5⟩ : ∃ w5, w5 = w3 := ⟨_, rfl⟩
        subst hw5
        have HA4 := hid HBX4.out
        have HG4 := hid HCU4.out
        have HC4 := hid HCH4.out
        clear HBX4 HCU4 HCH4
        obtain ⟨x, hx⟩ : ∃ x, tickI r.i r.g 0 ⟨px, py, vx, vy, sp⟩ = x := ⟨_, rfl⟩
        have HGO := hid (glide_go HGT.out HBK.out (by rw [HRB.out]; simp) HPW.out hx)
        have HE0 := hid (show ∀ c, x = .error c → c ≠ 0 from fun c e => by have := tickI_err (hx.trans e); omega)
        have HT := hid (show ∀ W, Below w0.heap.size w0 W → Calls Tryz.prog 134 #[(.agg #[.int .i64 r.i.cx, .int .i64 r.i.cy, .int .i64 r.i.sd, .int .i64 r.i.W, .int .i64 r.i.H, .slice pa r.i.pl.length pc, .slice qa r.i.ql.length qc]), (.agg #[.int .i64 r.g.fl, .int .i64 r.g.kn, .int .i64 r.g.a, .int .i64 r.g.b, .int .i64 r.g.c]), (.agg #[.int .i64 px, .int .i64 py, .int .i64 vx, .int .i64 vy, .int .i64 sp]), .int .i64 0] W fun e w' => e = tickE x ∧ Below W.heap.size W w' from fun W hb => by have h := HTT.out ⟨px, py, vx, vy, sp⟩ 0 W hb HMOK.out HPL.out; rw [hx] at h; exact h)
        have HQ := hid (show ∀ W : World, W.heap[w.heap.size]? = some (.cells rc 118 (0, 0)) → W.cell? ⟨w.heap.size, 0, none⟩ = some (.int .i64 r.i.cx) ∧ W.cell? ⟨w.heap.size, 1, none⟩ = some (.int .i64 r.i.cy) ∧ W.cell? ⟨w.heap.size, 2, none⟩ = some (.int .i64 r.i.sd) ∧ W.cell? ⟨w.heap.size, 3, none⟩ = some (.int .i64 r.i.W) ∧ W.cell? ⟨w.heap.size, 4, none⟩ = some (.int .i64 r.i.H) ∧ W.cell? ⟨w.heap.size, 5, none⟩ = some (.slice pa r.i.pl.length pc) ∧ W.cell? ⟨w.heap.size, 6, none⟩ = some (.slice qa r.i.ql.length qc) ∧ W.cell? ⟨w.heap.size, 7, none⟩ = some (.int .i64 r.g.fl) ∧ W.cell? ⟨w.heap.size, 8, none⟩ = some (.int .i64 r.g.kn) ∧ W.cell? ⟨w.heap.size, 9, none⟩ = some (.int .i64 r.g.a) ∧ W.cell? ⟨w.heap.size, 10, none⟩ = some (.int .i64 r.g.b) ∧ W.cell? ⟨w.heap.size, 11, none⟩ = some (.int .i64 r.g.c) from fun W h => ⟨cellN h HRC.out.1, cellN h HRC.out.2.1, cellN h HRC.out.2.2.1, cellN h HRC.out.2.2.2.1, cellN h HRC.out.2.2.2.2.1, cellN h HRC.out.2.2.2.2.2.1, cellN h HRC.out.2.2.2.2.2.2.1, cellN h HRC.out.2.2.2.2.2.2.2.1, cellN h HRC.out.2.2.2.2.2.2.2.2.1, cellN h HRC.out.2.2.2.2.2.2.2.2.2.1, cellN h HRC.out.2.2.2.2.2.2.2.2.2.2.1, cellN h HRC.out.2.2.2.2.2.2.2.2.2.2.2.1⟩)
        clear hx HTT
        have HPUT := hid (show ∀ (W : World) (cur' : Array Value) (_ : W.heap[g]? = some (.cells cur' 174 (0, 0))) {b' : BodyD} (_ : RowB cur' o b') (_ : ∀ i, i < o ∨ o + 8 ≤ i → cur'[i]? = cur[i]?), SceneAt W g off N (s.set k b') from fun W cur' h b' h1 h2 => HSC4.out.put HBK.out HG4.out h (by rw [HO.out]; exact h1) (by rw [HO.out]; exact h2))
        cases x with
        | error c =>
          have HGE := hid (HERRN.out c (k + 1) (HGO.out.1 c rfl) hlt)
          have HER := hid (HE0.out c rfl)
          have HT := hid (show ∀ W, Below w0.heap.size w0 W → Calls Tryz.prog 134 #[(.agg #[.int .i64 r.i.cx, .int .i64 r.i.cy, .int .i64 r.i.sd, .int .i64 r.i.W, .int .i64 r.i.H, .slice pa r.i.pl.length pc, .slice qa r.i.ql.length qc]), (.agg #[.int .i64 r.g.fl, .int .i64 r.g.kn, .int .i64 r.g.a, .int .i64 r.g.b, .int .i64 r.g.c]), (.agg #[.int .i64 px, .int .i64 py, .int .i64 vx, .int .i64 vy, .int .i64 sp]), .int .i64 0] W fun e w' => e = .returned (.tuple #[.agg #[.int .i64 0, .int .i64 0, .int .i64 0, .int .i64 0, .int .i64 0], .int .i64 c]) ∧ Below W.heap.size W w' from HT.out)
          clear HE0 HGO HPUT HSC4
          refine wp_region_held_drew (S := (fun W => W.cell? ⟨w.heap.size, 0, none⟩ = some (.int .i64 r.i.cx) ∧ W.cell? ⟨w.heap.size, 1, none⟩ = some (.int .i64 r.i.cy) ∧ W.cell? ⟨w.heap.size, 2, none⟩ = some (.int .i64 r.i.sd) ∧ W.cell? ⟨w.heap.size, 3, none⟩ = some (.int .i64 r.i.W) ∧ W.cell? ⟨w.heap.size, 4, none⟩ = some (.int .i64 r.i.H) ∧ W.cell? ⟨w.heap.size, 5, none⟩ = some (.slice pa r.i.pl.length pc) ∧ W.cell? ⟨w.heap.size, 6, none⟩ = some (.slice qa r.i.ql.length qc) ∧ W.cell? ⟨w.heap.size, 7, none⟩ = some (.int .i64 r.g.fl) ∧ W.cell? ⟨w.heap.size, 8, none⟩ = some (.int .i64 r.g.kn) ∧ W.cell? ⟨w.heap.size, 9, none⟩ = some (.int .i64 r.g.a) ∧ W.cell? ⟨w.heap.size, 10, none⟩ = some (.int .i64 r.g.b) ∧ W.cell? ⟨w.heap.size, 11, none⟩ = some (.int .i64 r.g.c))) (by kernel_rfl) (HQ.out _ HA4.out) (fun hH => ?_)
          obtain ⟨v0, hv0⟩ : ∃ v0, v0 = w5.drew := ⟨_, rfl⟩
          have HA5 := hid (show v0.heap[w.heap.size]? = some (.cells rc 118 (0, 0)) by rw [hv0]; exact HA4.out)
          have HG5 := hid (show v0.heap[g]? = some (.cells cur 174 (0, 0)) by rw [hv0]; exact HG4.out)
          have HC5 := hid (show Ch (fun k => k = g) w v0 by rw [hv0]; exact ⟨HC4.out.1.drew, HC4.out.2⟩)
          have HBW := hid (HBWF.out _ HC5.out)
          have Y5 := hid (show v0.cell? ⟨g, o + 2, none⟩ = some (.int .i64 px) ∧ v0.cell? ⟨g, o + 3, none⟩ = some (.int .i64 py) ∧ v0.cell? ⟨g, o + 4, none⟩ = some (.int .i64 vx) ∧ v0.cell? ⟨g, o + 5, none⟩ = some (.int .i64 vy) ∧ v0.cell? ⟨g, o + 6, none⟩ = some (.int .i64 sp) from ⟨cellN HG5.out (HRW.out 2 (by omega)), cellN HG5.out (HRW.out 3 (by omega)), cellN HG5.out (HRW.out 4 (by omega)), cellN HG5.out (HRW.out 5 (by omega)), cellN HG5.out (HRW.out 6 (by omega))⟩)
          rw [← hv0] at hH ⊢
          clear hv0
          refine wpAnyH_take (i := 0) (oi := { dst := some 39, op := Go.Op.move (Go.Operand.tmp 7), type := 179, pos := "contact.go:188", after := #[], guard := none }) (v := (.pointer (some ⟨g, o, none⟩))) rfl (by kernel_rfl) (by kernel_rfl) (by kernel_rfl) (fun _ _ _ h => h) (Or.inl ⟨by rfl, ?_⟩) hH ?_
          · intro w hSw
            (try dsimp only at hSw)
            go_simp
          (try simp only [Act.put, List.setIfInBounds_toArray, List.set_cons_zero, List.set_cons_succ])
          refine wpAnyH_take (i := 1) (oi := { dst := some 40, op := Go.Op.fieldAddr 118 (Go.Operand.tmp 3) 0, type := 0, pos := "contact.go:188", after := #[], guard := none }) (v := (.pointer (some ⟨w.heap.size, 0, none⟩))) rfl (by kernel_rfl) (by kernel_rfl) (by kernel_rfl) (fun _ _ _ h => h) (Or.inl ⟨by rfl, ?_⟩) hH ?_
          · intro w hSw
            (try dsimp only at hSw)
            go_simp
          (try simp only [Act.put, List.setIfInBounds_toArray, List.set_cons_zero, List.set_cons_succ])
          refine wpAnyH_take (i := 2) (oi := { dst := some 41, op := Go.Op.load 31 (Go.Operand.tmp 40), type := 31, pos := "contact.go:188", after := #[{ on := 1, ground := Go.Ground.data }], guard := none }) (v := (.agg #[.int .i64 r.i.cx, .int .i64 r.i.cy, .int .i64 r.i.sd, .int .i64 r.i.W, .int .i64 r.i.H, .slice pa r.i.pl.length pc, .slice qa r.i.ql.length qc])) rfl (by kernel_rfl) (by kernel_rfl) (by kernel_rfl) (fun _ _ _ h => h) (Or.inl ⟨by rfl, ?_⟩) hH ?_
          · intro w hSw
            (try dsimp only at hSw)
            go_simp
          (try simp only [Act.put, List.setIfInBounds_toArray, List.set_cons_zero, List.set_cons_succ])
          refine wpAnyH_take (i := 3) (oi := { dst := some 42, op := Go.Op.fieldAddr 118 (Go.Operand.tmp 3) 1, type := 0, pos := "contact.go:188", after := #[], guard := none }) (v := (.pointer (some ⟨w.heap.size, 7, none⟩))) rfl (by kernel_rfl) (by kernel_rfl) (by kernel_rfl) (fun _ _ _ h => h) (Or.inl ⟨by rfl, ?_⟩) hH ?_
          · intro w hSw
            (try dsimp only at hSw)
            go_simp
          (try simp only [Act.put, List.setIfInBounds_toArray, List.set_cons_zero, List.set_cons_succ])
          refine wpAnyH_take (i := 4) (oi := { dst := some 43, op := Go.Op.load 24 (Go.Operand.tmp 42), type := 24, pos := "contact.go:188", after := #[{ on := 3, ground := Go.Ground.data }], guard := none }) (v := (.agg #[.int .i64 r.g.fl, .int .i64 r.g.kn, .int .i64 r.g.a, .int .i64 r.g.b, .int .i64 r.g.c])) rfl (by kernel_rfl) (by kernel_rfl) (by kernel_rfl) (fun _ _ _ h => h) (Or.inl ⟨by rfl, ?_⟩) hH ?_
          · intro w hSw
            (try dsimp only at hSw)
            go_simp
          (try simp only [Act.put, List.setIfInBounds_toArray, List.set_cons_zero, List.set_cons_succ])
          refine wpAnyH_take (i := 5) (oi := { dst := some 44, op := Go.Op.move (Go.Operand.tmp 7), type := 179, pos := "contact.go:188", after := #[], guard := none }) (v := (.pointer (some ⟨g, o, none⟩))) rfl (by kernel_rfl) (by kernel_rfl) (by kernel_rfl) (fun _ _ _ h => h) (Or.inl ⟨by rfl, ?_⟩) hH ?_
          · intro w hSw
            (try dsimp only at hSw)
            go_simp
          (try simp only [Act.put, List.setIfInBounds_toArray, List.set_cons_zero, List.set_cons_succ])
          refine wpAnyH_take (i := 6) (oi := { dst := some 45, op := Go.Op.nilCheck (Go.Operand.tmp 44), type := 0, pos := "contact.go:188", after := #[{ on := 5, ground := Go.Ground.data }], guard := none }) (v := (.pointer (some ⟨g, o, none⟩))) rfl (by kernel_rfl) (by kernel_rfl) (by kernel_rfl) (fun _ _ _ h => h) (Or.inl ⟨by rfl, ?_⟩) hH ?_
          · intro w hSw
            (try dsimp only at hSw)
            go_simp
          (try simp only [Act.put, List.setIfInBounds_toArray, List.set_cons_zero, List.set_cons_succ])
          refine wpAnyH_take (i := 7) (oi := { dst := some 46, op := Go.Op.fieldAddr 174 (Go.Operand.tmp 45) 0, type := 0, pos := "contact.go:188", after := #[{ on := 6, ground := Go.Ground.data }], guard := none }) (v := (.pointer (some ⟨g, o, none⟩))) rfl (by kernel_rfl) (by kernel_rfl) (by kernel_rfl) (fun _ _ _ h => h) (Or.inl ⟨by rfl, ?_⟩) hH ?_
          · intro w hSw
            (try dsimp only at hSw)
            go_simp
          (try simp only [Act.put, List.setIfInBounds_toArray, List.set_cons_zero, List.set_cons_succ])
          refine wpAnyH_take (i := 8) (oi := { dst := some 47, op := Go.Op.fieldAddr 72 (Go.Operand.tmp 46) 2, type := 0, pos := "contact.go:188", after := #[{ on := 7, ground := Go.Ground.data }], guard := none }) (v := (.pointer (some ⟨g, o + 2, none⟩))) rfl (by kernel_rfl) (by kernel_rfl) (by kernel_rfl) (fun _ _ _ h => h) (Or.inl ⟨by rfl, ?_⟩) hH ?_
          · intro w hSw
            (try dsimp only at hSw)
            go_simp
          (try simp only [Act.put, List.setIfInBounds_toArray, List.set_cons_zero, List.set_cons_succ])
          refine wpAnyH_take (i := 10) (oi := { dst := some 49, op := Go.Op.move (Go.Operand.tmp 8), type := 3, pos := "contact.go:188", after := #[], guard := none }) (v := (.int .i64 0)) rfl (by kernel_rfl) (by kernel_rfl) (by kernel_rfl) (fun _ _ _ h => h) (Or.inl ⟨by rfl, ?_⟩) hH ?_
          · intro w hSw
            (try dsimp only at hSw)
            go_simp
          (try simp only [Act.put, List.setIfInBounds_toArray, List.set_cons_zero, List.set_cons_succ])
          refine wpAnyH_ready (rs := [9]) (by kernel_rfl) (by simp) ?_
          refine AllReadyH.cons rfl (fun K hK => ?_) AllReadyH.nil
          (try dsimp only at hH)
          obtain ⟨y2, y3, y4, y5, y6⟩ := Y5.out
          go_simp
          refine hK.out _ _ (HQ.out _ HA5.out) (fun hH1 => ?_)
          clear hK K
          clear y2 y3 y4 y5 y6
          (try simp only [Act.put, List.setIfInBounds_toArray, List.set_cons_zero, List.set_cons_succ])
          refine wpAnyH_ready (rs := [11]) (by kernel_rfl) (by simp) ?_
          refine AllReadyH.cons rfl (fun K hK => ?_) AllReadyH.nil
          (try dsimp only at hH1)
          go_simp
          refine (HT.out _ HBW.out).mono ?_
          rintro e w6 ⟨rfl, hb6⟩
          refine hK.out _ _ (HQ.out _ (carry HA5.out hb6)) (fun hH2 => ?_)
          clear hK K
          have HA6 := hid (carry HA5.out hb6)
          have HG6 := hid (carry HG5.out hb6)
          have HC6 := hid (HC5.out.trans (Ch.of_below hb6))
          clear hb6
          (try simp only [Act.put, List.setIfInBounds_toArray, List.set_cons_zero, List.set_cons_succ])
          refine wpAnyH_take (i := 12) (oi := { dst := some 51, op := Go.Op.extract (Go.Operand.tmp 50) 0, type := 39, pos := "contact.go:188", after := #[{ on := 11, ground := Go.Ground.data }], guard := none }) (v := (.agg #[.int .i64 0, .int .i64 0, .int .i64 0, .int .i64 0, .int .i64 0])) rfl (by kernel_rfl) (by kernel_rfl) (by kernel_rfl) (fun _ _ _ h => h) (Or.inl ⟨by rfl, ?_⟩) hH2 ?_
          · intro w hSw
            (try dsimp only at hSw)
            go_simp
          (try simp only [Act.put, List.setIfInBounds_toArray, List.set_cons_zero, List.set_cons_succ])
          refine wpAnyH_take (i := 13) (oi := { dst := some 52, op := Go.Op.extract (Go.Operand.tmp 50) 1, type := 33, pos := "contact.go:188", after := #[{ on := 11, ground := Go.Ground.data }], guard := none }) (v := (.int .i64 c)) rfl (by kernel_rfl) (by kernel_rfl) (by kernel_rfl) (fun _ _ _ h => h) (Or.inl ⟨by rfl, ?_⟩) hH2 ?_
          · intro w hSw
            (try dsimp only at hSw)
            go_simp
          (try simp only [Act.put, List.setIfInBounds_toArray, List.set_cons_zero, List.set_cons_succ])
          refine wpAnyH_ready (rs := [14]) (by kernel_rfl) (by simp) ?_
          refine AllReadyH.cons rfl (fun K hK => ?_) AllReadyH.nil
          (try dsimp only at hH2)
          go_simp
          refine ((must133_err _ _ _ _ _ c HER.out _)).mono ?_
          rintro e w7 ⟨rfl, hb7⟩
          exact ⟨rfl, GlideE.err HGE.out (HC6.out.trans (Ch.of_below hb7))⟩
        | ok m =>
          have HNX := hid (HGO.out.2 m rfl)
          obtain ⟨mx, my, mvx, mvy, msp⟩ := m
          have HT := hid (show ∀ W, Below w0.heap.size w0 W → Calls Tryz.prog 134 #[(.agg #[.int .i64 r.i.cx, .int .i64 r.i.cy, .int .i64 r.i.sd, .int .i64 r.i.W, .int .i64 r.i.H, .slice pa r.i.pl.length pc, .slice qa r.i.ql.length qc]), (.agg #[.int .i64 r.g.fl, .int .i64 r.g.kn, .int .i64 r.g.a, .int .i64 r.g.b, .int .i64 r.g.c]), (.agg #[.int .i64 px, .int .i64 py, .int .i64 vx, .int .i64 vy, .int .i64 sp]), .int .i64 0] W fun e w' => e = .returned (.tuple #[.agg #[.int .i64 mx, .int .i64 my, .int .i64 mvx, .int .i64 mvy, .int .i64 msp], .int .i64 0]) ∧ Below W.heap.size W w' from HT.out)
          have HM := hid (show ∀ W, Calls Tryz.prog 133 #[.agg #[.int .i64 mx, .int .i64 my, .int .i64 mvx, .int .i64 mvy, .int .i64 msp], .int .i64 0] W fun e w' => e = .returned (.agg #[.int .i64 mx, .int .i64 my, .int .i64 mvx, .int .i64 mvy, .int .i64 msp]) ∧ Below W.heap.size W w' from fun W => must133_ok ⟨mx, my, mvx, mvy, msp⟩ W)
          clear HE0 HGO HSC4
          refine wp_region_held_drew (S := (fun W => W.cell? ⟨w.heap.size, 0, none⟩ = some (.int .i64 r.i.cx) ∧ W.cell? ⟨w.heap.size, 1, none⟩ = some (.int .i64 r.i.cy) ∧ W.cell? ⟨w.heap.size, 2, none⟩ = some (.int .i64 r.i.sd) ∧ W.cell? ⟨w.heap.size, 3, none⟩ = some (.int .i64 r.i.W) ∧ W.cell? ⟨w.heap.size, 4, none⟩ = some (.int .i64 r.i.H) ∧ W.cell? ⟨w.heap.size, 5, none⟩ = some (.slice pa r.i.pl.length pc) ∧ W.cell? ⟨w.heap.size, 6, none⟩ = some (.slice qa r.i.ql.length qc) ∧ W.cell? ⟨w.heap.size, 7, none⟩ = some (.int .i64 r.g.fl) ∧ W.cell? ⟨w.heap.size, 8, none⟩ = some (.int .i64 r.g.kn) ∧ W.cell? ⟨w.heap.size, 9, none⟩ = some (.int .i64 r.g.a) ∧ W.cell? ⟨w.heap.size, 10, none⟩ = some (.int .i64 r.g.b) ∧ W.cell? ⟨w.heap.size, 11, none⟩ = some (.int .i64 r.g.c))) (by kernel_rfl) (HQ.out _ HA4.out) (fun hH => ?_)
          obtain ⟨v0, hv0⟩ : ∃ v0, v0 = w5.drew := ⟨_, rfl⟩
          have HA5 := hid (show v0.heap[w.heap.size]? = some (.cells rc 118 (0, 0)) by rw [hv0]; exact HA4.out)
          have HG5 := hid (show v0.heap[g]? = some (.cells cur 174 (0, 0)) by rw [hv0]; exact HG4.out)
          have HC5 := hid (show Ch (fun k => k = g) w v0 by rw [hv0]; exact ⟨HC4.out.1.drew, HC4.out.2⟩)
          have HBW := hid (HBWF.out _ HC5.out)
          have Y5 := hid (show v0.cell? ⟨g, o + 2, none⟩ = some (.int .i64 px) ∧ v0.cell? ⟨g, o + 3, none⟩ = some (.int .i64 py) ∧ v0.cell? ⟨g, o + 4, none⟩ = some (.int .i64 vx) ∧ v0.cell? ⟨g, o + 5, none⟩ = some (.int .i64 vy) ∧ v0.cell? ⟨g, o + 6, none⟩ = some (.int .i64 sp) from ⟨cellN HG5.out (HRW.out 2 (by omega)), cellN HG5.out (HRW.out 3 (by omega)), cellN HG5.out (HRW.out 4 (by omega)), cellN HG5.out (HRW.out 5 (by omega)), cellN HG5.out (HRW.out 6 (by omega))⟩)
          rw [← hv0] at hH ⊢
          clear hv0
          refine wpAnyH_take (i := 0) (oi := { dst := some 39, op := Go.Op.move (Go.Operand.tmp 7), type := 179, pos := "contact.go:188", after := #[], guard := none }) (v := (.pointer (some ⟨g, o, none⟩))) rfl (by kernel_rfl) (by kernel_rfl) (by kernel_rfl) (fun _ _ _ h => h) (Or.inl ⟨by rfl, ?_⟩) hH ?_
          · intro w hSw
            (try dsimp only at hSw)
            go_simp
          (try simp only [Act.put, List.setIfInBounds_toArray, List.set_cons_zero, List.set_cons_succ])
          refine wpAnyH_take (i := 1) (oi := { dst := some 40, op := Go.Op.fieldAddr 118 (Go.Operand.tmp 3) 0, type := 0, pos := "contact.go:188", after := #[], guard := none }) (v := (.pointer (some ⟨w.heap.size, 0, none⟩))) rfl (by kernel_rfl) (by kernel_rfl) (by kernel_rfl) (fun _ _ _ h => h) (Or.inl ⟨by rfl, ?_⟩) hH ?_
          · intro w hSw
            (try dsimp only at hSw)
            go_simp
          (try simp only [Act.put, List.setIfInBounds_toArray, List.set_cons_zero, List.set_cons_succ])
          refine wpAnyH_take (i := 2) (oi := { dst := some 41, op := Go.Op.load 31 (Go.Operand.tmp 40), type := 31, pos := "contact.go:188", after := #[{ on := 1, ground := Go.Ground.data }], guard := none }) (v := (.agg #[.int .i64 r.i.cx, .int .i64 r.i.cy, .int .i64 r.i.sd, .int .i64 r.i.W, .int .i64 r.i.H, .slice pa r.i.pl.length pc, .slice qa r.i.ql.length qc])) rfl (by kernel_rfl) (by kernel_rfl) (by kernel_rfl) (fun _ _ _ h => h) (Or.inl ⟨by rfl, ?_⟩) hH ?_
          · intro w hSw
            (try dsimp only at hSw)
            go_simp
          (try simp only [Act.put, List.setIfInBounds_toArray, List.set_cons_zero, List.set_cons_succ])
          refine wpAnyH_take (i := 3) (oi := { dst := some 42, op := Go.Op.fieldAddr 118 (Go.Operand.tmp 3) 1, type := 0, pos := "contact.go:188", after := #[], guard := none }) (v := (.pointer (some ⟨w.heap.size, 7, none⟩))) rfl (by kernel_rfl) (by kernel_rfl) (by kernel_rfl) (fun _ _ _ h => h) (Or.inl ⟨by rfl, ?_⟩) hH ?_
          · intro w hSw
            (try dsimp only at hSw)
            go_simp
          (try simp only [Act.put, List.setIfInBounds_toArray, List.set_cons_zero, List.set_cons_succ])
          refine wpAnyH_take (i := 4) (oi := { dst := some 43, op := Go.Op.load 24 (Go.Operand.tmp 42), type := 24, pos := "contact.go:188", after := #[{ on := 3, ground := Go.Ground.data }], guard := none }) (v := (.agg #[.int .i64 r.g.fl, .int .i64 r.g.kn, .int .i64 r.g.a, .int .i64 r.g.b, .int .i64 r.g.c])) rfl (by kernel_rfl) (by kernel_rfl) (by kernel_rfl) (fun _ _ _ h => h) (Or.inl ⟨by rfl, ?_⟩) hH ?_
          · intro w hSw
            (try dsimp only at hSw)
            go_simp
          (try simp only [Act.put, List.setIfInBounds_toArray, List.set_cons_zero, List.set_cons_succ])
          refine wpAnyH_take (i := 5) (oi := { dst := some 44, op := Go.Op.move (Go.Operand.tmp 7), type := 179, pos := "contact.go:188", after := #[], guard := none }) (v := (.pointer (some ⟨g, o, none⟩))) rfl (by kernel_rfl) (by kernel_rfl) (by kernel_rfl) (fun _ _ _ h => h) (Or.inl ⟨by rfl, ?_⟩) hH ?_
          · intro w hSw
            (try dsimp only at hSw)
            go_simp
          (try simp only [Act.put, List.setIfInBounds_toArray, List.set_cons_zero, List.set_cons_succ])
          refine wpAnyH_take (i := 6) (oi := { dst := some 45, op := Go.Op.nilCheck (Go.Operand.tmp 44), type := 0, pos := "contact.go:188", after := #[{ on := 5, ground := Go.Ground.data }], guard := none }) (v := (.pointer (some ⟨g, o, none⟩))) rfl (by kernel_rfl) (by kernel_rfl) (by kernel_rfl) (fun _ _ _ h => h) (Or.inl ⟨by rfl, ?_⟩) hH ?_
          · intro w hSw
            (try dsimp only at hSw)
            go_simp
          (try simp only [Act.put, List.setIfInBounds_toArray, List.set_cons_zero, List.set_cons_succ])
          refine wpAnyH_take (i := 7) (oi := { dst := some 46, op := Go.Op.fieldAddr 174 (Go.Operand.tmp 45) 0, type := 0, pos := "contact.go:188", after := #[{ on := 6, ground := Go.Ground.data }], guard := none }) (v := (.pointer (some ⟨g, o, none⟩))) rfl (by kernel_rfl) (by kernel_rfl) (by kernel_rfl) (fun _ _ _ h => h) (Or.inl ⟨by rfl, ?_⟩) hH ?_
          · intro w hSw
            (try dsimp only at hSw)
            go_simp
          (try simp only [Act.put, List.setIfInBounds_toArray, List.set_cons_zero, List.set_cons_succ])
          refine wpAnyH_take (i := 8) (oi := { dst := some 47, op := Go.Op.fieldAddr 72 (Go.Operand.tmp 46) 2, type := 0, pos := "contact.go:188", after := #[{ on := 7, ground := Go.Ground.data }], guard := none }) (v := (.pointer (some ⟨g, o + 2, none⟩))) rfl (by kernel_rfl) (by kernel_rfl) (by kernel_rfl) (fun _ _ _ h => h) (Or.inl ⟨by rfl, ?_⟩) hH ?_
          · intro w hSw
            (try dsimp only at hSw)
            go_simp
          (try simp only [Act.put, List.setIfInBounds_toArray, List.set_cons_zero, List.set_cons_succ])
          refine wpAnyH_take (i := 10) (oi := { dst := some 49, op := Go.Op.move (Go.Operand.tmp 8), type := 3, pos := "contact.go:188", after := #[], guard := none }) (v := (.int .i64 0)) rfl (by kernel_rfl) (by kernel_rfl) (by kernel_rfl) (fun _ _ _ h => h) (Or.inl ⟨by rfl, ?_⟩) hH ?_
          · intro w hSw
            (try dsimp only at hSw)
            go_simp
          (try simp only [Act.put, List.setIfInBounds_toArray, List.set_cons_zero, List.set_cons_succ])
          refine wpAnyH_ready (rs := [9]) (by kernel_rfl) (by simp) ?_
          refine AllReadyH.cons rfl (fun K hK => ?_) AllReadyH.nil
          (try dsimp only at hH)
          obtain ⟨y2, y3, y4, y5, y6⟩ := Y5.out
          go_simp
          refine hK.out _ _ (HQ.out _ HA5.out) (fun hH1 => ?_)
          clear hK K
          clear y2 y3 y4 y5 y6
          (try simp only [Act.put, List.setIfInBounds_toArray, List.set_cons_zero, List.set_cons_succ])
          refine wpAnyH_ready (rs := [11]) (by kernel_rfl) (by simp) ?_
          refine AllReadyH.cons rfl (fun K hK => ?_) AllReadyH.nil
          (try dsimp only at hH1)
          go_simp
          refine (HT.out _ HBW.out).mono ?_
          rintro e w6 ⟨rfl, hb6⟩
          refine hK.out _ _ (HQ.out _ (carry HA5.out hb6)) (fun hH2 => ?_)
          clear hK K
          have HA6 := hid (carry HA5.out hb6)
          have HG6 := hid (carry HG5.out hb6)
          have HC6 := hid (HC5.out.trans (Ch.of_below hb6))
          clear hb6
          (try simp only [Act.put, List.setIfInBounds_toArray, List.set_cons_zero, List.set_cons_succ])
          refine wpAnyH_take (i := 12) (oi := { dst := some 51, op := Go.Op.extract (Go.Operand.tmp 50) 0, type := 39, pos := "contact.go:188", after := #[{ on := 11, ground := Go.Ground.data }], guard := none }) (v := (.agg #[.int .i64 mx, .int .i64 my, .int .i64 mvx, .int .i64 mvy, .int .i64 msp])) rfl (by kernel_rfl) (by kernel_rfl) (by kernel_rfl) (fun _ _ _ h => h) (Or.inl ⟨by rfl, ?_⟩) hH2 ?_
          · intro w hSw
            (try dsimp only at hSw)
            go_simp
          (try simp only [Act.put, List.setIfInBounds_toArray, List.set_cons_zero, List.set_cons_succ])
          refine wpAnyH_take (i := 13) (oi := { dst := some 52, op := Go.Op.extract (Go.Operand.tmp 50) 1, type := 33, pos := "contact.go:188", after := #[{ on := 11, ground := Go.Ground.data }], guard := none }) (v := (.int .i64 0)) rfl (by kernel_rfl) (by kernel_rfl) (by kernel_rfl) (fun _ _ _ h => h) (Or.inl ⟨by rfl, ?_⟩) hH2 ?_
          · intro w hSw
            (try dsimp only at hSw)
            go_simp
          (try simp only [Act.put, List.setIfInBounds_toArray, List.set_cons_zero, List.set_cons_succ])
          refine wpAnyH_ready (rs := [14]) (by kernel_rfl) (by simp) ?_
          refine AllReadyH.cons rfl (fun K hK => ?_) AllReadyH.nil
          (try dsimp only at hH2)
          go_simp
          refine (HM.out _).mono ?_
          rintro e w7 ⟨rfl, hb7⟩
          refine hK.out _ _ (HQ.out _ (carry HA6.out hb7)) (fun hH3 => ?_)
          clear hK K
          have HA7 := hid (carry HA6.out hb7)
          have hG7 := carry HG6.out hb7
          have HC7 := hid (HC6.out.trans (Ch.of_below hb7))
          clear hb7
          (try simp only [Act.put, List.setIfInBounds_toArray, List.set_cons_zero, List.set_cons_succ])
          refine wpAnyH_take (i := 15) (oi := { dst := some 54, op := Go.Op.nilCheck (Go.Operand.tmp 39), type := 0, pos := "contact.go:188", after := #[{ on := 0, ground := Go.Ground.data }, { on := 0, ground := Go.Ground.phase }, { on := 1, ground := Go.Ground.phase }, { on := 2, ground := Go.Ground.phase }, { on := 3, ground := Go.Ground.phase }, { on := 4, ground := Go.Ground.phase }, { on := 5, ground := Go.Ground.phase }, { on := 6, ground := Go.Ground.phase }, { on := 7, ground := Go.Ground.phase }, { on := 8, ground := Go.Ground.phase }, { on := 9, ground := Go.Ground.phase }, { on := 10, ground := Go.Ground.phase }, { on := 11, ground := Go.Ground.phase }, { on := 12, ground := Go.Ground.phase }, { on := 13, ground := Go.Ground.phase }, { on := 14, ground := Go.Ground.phase }], guard := none }) (v := (.pointer (some ⟨g, o, none⟩))) rfl (by kernel_rfl) (by kernel_rfl) (by kernel_rfl) (fun _ _ _ h => h) (Or.inl ⟨by rfl, ?_⟩) hH3 ?_
          · intro w hSw
            (try dsimp only at hSw)
            go_simp
          (try simp only [Act.put, List.setIfInBounds_toArray, List.set_cons_zero, List.set_cons_succ])
          refine wpAnyH_take (i := 16) (oi := { dst := some 55, op := Go.Op.fieldAddr 174 (Go.Operand.tmp 54) 0, type := 0, pos := "contact.go:188", after := #[{ on := 15, ground := Go.Ground.data }, { on := 0, ground := Go.Ground.phase }, { on := 1, ground := Go.Ground.phase }, { on := 2, ground := Go.Ground.phase }, { on := 3, ground := Go.Ground.phase }, { on := 4, ground := Go.Ground.phase }, { on := 5, ground := Go.Ground.phase }, { on := 6, ground := Go.Ground.phase }, { on := 7, ground := Go.Ground.phase }, { on := 8, ground := Go.Ground.phase }, { on := 9, ground := Go.Ground.phase }, { on := 10, ground := Go.Ground.phase }, { on := 11, ground := Go.Ground.phase }, { on := 12, ground := Go.Ground.phase }, { on := 13, ground := Go.Ground.phase }, { on := 14, ground := Go.Ground.phase }], guard := none }) (v := (.pointer (some ⟨g, o, none⟩))) rfl (by kernel_rfl) (by kernel_rfl) (by kernel_rfl) (fun _ _ _ h => h) (Or.inl ⟨by rfl, ?_⟩) hH3 ?_
          · intro w hSw
            (try dsimp only at hSw)
            go_simp
          (try simp only [Act.put, List.setIfInBounds_toArray, List.set_cons_zero, List.set_cons_succ])
          refine wpAnyH_take (i := 17) (oi := { dst := some 56, op := Go.Op.fieldAddr 72 (Go.Operand.tmp 55) 2, type := 0, pos := "contact.go:188", after := #[{ on := 16, ground := Go.Ground.data }, { on := 0, ground := Go.Ground.phase }, { on := 1, ground := Go.Ground.phase }, { on := 2, ground := Go.Ground.phase }, { on := 3, ground := Go.Ground.phase }, { on := 4, ground := Go.Ground.phase }, { on := 5, ground := Go.Ground.phase }, { on := 6, ground := Go.Ground.phase }, { on := 7, ground := Go.Ground.phase }, { on := 8, ground := Go.Ground.phase }, { on := 9, ground := Go.Ground.phase }, { on := 10, ground := Go.Ground.phase }, { on := 11, ground := Go.Ground.phase }, { on := 12, ground := Go.Ground.phase }, { on := 13, ground := Go.Ground.phase }, { on := 14, ground := Go.Ground.phase }], guard := none }) (v := (.pointer (some ⟨g, o + 2, none⟩))) rfl (by kernel_rfl) (by kernel_rfl) (by kernel_rfl) (fun _ _ _ h => h) (Or.inl ⟨by rfl, ?_⟩) hH3 ?_
          · intro w hSw
            (try dsimp only at hSw)
            go_simp
          (try simp only [Act.put, List.setIfInBounds_toArray, List.set_cons_zero, List.set_cons_succ])
          refine wpAnyH_ready (rs := [18]) (by kernel_rfl) (by simp) ?_
          refine AllReadyH.cons rfl (fun K hK => ?_) AllReadyH.nil
          (try dsimp only at hH3)
          have y2 : w7.cell? ⟨g, o + 2, none⟩ = some (.int .i64 px) := cellN hG7 (HRW.out 2 (by omega))
          have y3 : w7.cell? ⟨g, o + 3, none⟩ = some (.int .i64 py) := cellN hG7 (HRW.out 3 (by omega))
          have y4 : w7.cell? ⟨g, o + 4, none⟩ = some (.int .i64 vx) := cellN hG7 (HRW.out 4 (by omega))
          have y5 : w7.cell? ⟨g, o + 5, none⟩ = some (.int .i64 vy) := cellN hG7 (HRW.out 5 (by omega))
          have y6 : w7.cell? ⟨g, o + 6, none⟩ = some (.int .i64 sp) := cellN hG7 (HRW.out 6 (by omega))
          have f2 : w7.frozen? ⟨g, o + 2, none⟩ = false := frozN hG7
          have f3 : w7.frozen? ⟨g, o + 3, none⟩ = false := frozN hG7
          have f4 : w7.frozen? ⟨g, o + 4, none⟩ = false := frozN hG7
          have f5 : w7.frozen? ⟨g, o + 5, none⟩ = false := frozN hG7
          have f6 : w7.frozen? ⟨g, o + 6, none⟩ = false := frozN hG7
          go_simp
          refine hK.out _ _ (HQ.out _ ((setMv_oth (g := g) (o := o) (w := w7) mx my mvx mvy msp HNE.out).trans HA7.out)) (fun hH4 => ?_)
          clear hK K
          have hA8 := (setMv_oth (g := g) (o := o) (w := w7) mx my mvx mvy msp HNE.out).trans HA7.out
          have hG8 := setMv_heap (o := o) hG7 mx my mvx mvy msp
          have hC8 := setMv_ch (g := g) (o := o) (fun k => k = g) rfl mx my mvx mvy msp HC7.out
          clear y2 y3 y4 y5 y6 f2 f3 f4 f5 f6 hG7
          generalize ((((w7.setCell ⟨g, o + 2, none⟩ (.int .i64 mx)).setCell ⟨g, o + 3, none⟩ (.int .i64 my)).setCell ⟨g, o + 4, none⟩ (.int .i64 mvx)).setCell ⟨g, o + 5, none⟩ (.int .i64 mvy)).setCell ⟨g, o + 6, none⟩ (.int .i64 msp) = w8 at *
          (try simp only [Act.put, List.setIfInBounds_toArray, List.set_cons_zero, List.set_cons_succ])
          refine wpAnyH_done (by kernel_rfl) ?_ _
          have HA8 := hid hA8
          have HG8 := hid hG8
          have HC8 := hid hC8
          clear hA8 hG8 hC8
          go_wp2_with fail
          exact ⟨⟨k + 1, _, hlt, by go_num, HNX.out, HPUT.out _ _ HG8.out (HRW.out.setMv mx my mvx mvy msp) (fun i hi => setMv_out mx my mvx mvy msp hi), HA8.out, HC8.out⟩, by simp only [intOf]; omega⟩
    · obtain rfl : k = N := by omega
      have HLA := hid (HOKN.out s HGT.out)
      go_wp2_with fail
      go_end0
      exact GlideE.fine HLA.out HSC.out HCH.out
end Go.Proofs.YtolnhicngepnnaaGreat
/- contact: a round of contacts. -/
namespace Go.Proofs.YtolnhicngepnnaaGreat
open Go.RowKit

theorem SceneAt.below {w w' : World} {g off N : Nat} {s : List BodyD} (h : SceneAt w g off N s) (hb : Below w.heap.size w w') : SceneAt w' g off N s :=
  ⟨h.1, fun hN => by obtain ⟨c, h1, h2⟩ := h.2 hN; exact ⟨c, carry h1 hb, h2⟩⟩
theorem Rows.put2 {cur cur' : Array Value} {off a b : Nat} {s : List BodyD} {x y : BodyD} (h : Rows cur off s) (ra : RowB cur' (off + a * 8) x) (rb : RowB cur' (off + b * 8) y)
    (ho : ∀ i, i < off + a * 8 ∨ off + a * 8 + 8 ≤ i → i < off + b * 8 ∨ off + b * 8 + 8 ≤ i → cur'[i]? = cur[i]?) : Rows cur' off ((s.set a x).set b y) := by
  intro j z hz
  by_cases e : j = b
  · subst e
    obtain ⟨h1, h2⟩ := List.getElem?_eq_some_iff.1 hz
    rw [List.getElem_set_self] at h2
    subst h2; exact rb
  · rw [List.getElem?_set_ne (fun h => e h.symm)] at hz
    by_cases e2 : j = a
    · subst e2
      obtain ⟨h1, h2⟩ := List.getElem?_eq_some_iff.1 hz
      rw [List.getElem_set_self] at h2
      subst h2; exact ra
    · rw [List.getElem?_set_ne (fun h => e2 h.symm)] at hz
      intro c hc
      rw [ho (off + j * 8 + c) (by omega) (by omega)]
      exact h j z hz c hc
theorem own_type {w : World} {base sz n k : Nat} {t : TypeId} {v : Value} {xs : List Value} (h : w.ownsRow base t sz v n xs) (hk : v.ownBlock = some k) : base ≤ k ∧ ∃ cur, w.heap[k]? = some (.cells cur t (0, 0)) := by
  rcases h.2 with ⟨rfl, _⟩ | ⟨g, cap, cur, rfl, hb, hg, _⟩
  · cases hk
  · obtain rfl : g = k := by simpa [Value.ownBlock] using hk
    exact ⟨hb, cur, hg⟩
theorem type_ne {w : World} {a b : Nat} {c d : Array Value} {t u : TypeId} (ha : w.heap[a]? = some (.cells c t (0, 0))) (hb : w.heap[b]? = some (.cells d u (0, 0))) (h : t ≠ u) : a ≠ b := by
  rintro rfl
  rw [ha] at hb
  simp only [Option.some.injEq, Obj.cells.injEq] at hb
  exact h hb.2.1
theorem own_ch {w w' : World} {g base sz n : Nat} {t : TypeId} {v : Value} {xs : List Value} (h : w.ownsRow base t sz v n xs) (hc : Ch (fun k => k = g) w w') (hn : v.ownBlock ≠ some g) : w'.ownsRow base t sz v n xs := by
  refine ⟨h.1, ?_⟩
  rcases h.2 with h1 | ⟨q, cap, cur, rfl, hb, hg, h3⟩
  · exact .inl h1
  · exact .inr ⟨q, cap, cur, rfl, hb, (hc.2 q (Array.getElem?_eq_some_iff.1 hg).1 (fun e => hn (by rw [e]; rfl))).trans hg, h3⟩
/-- The heap in a round: the boxes of the scene, the rink, the hits and the tick. -/
structure RInv (wB w : World) (g off N : Nat) (sv : Value) (rc : Array Value) (t : Int) (bs br bh bt : Nat) (q : RS) : Prop where
  s0 : w.heap[bs]? = some (.cells #[sv] 121 (0, 0))
  r0 : w.heap[br]? = some (.cells rc 118 (0, 0))
  t0 : w.heap[bt]? = some (.cells #[.int .i64 t] 3 (0, 0))
  h0 : ∃ v, w.heap[bh]? = some (.cells #[v] 75 (0, 0)) ∧ w.ownsRow wB.heap.size 86 3 v q.hits.length (q.hits.flatMap HitD.cells)
  sc : SceneAt w g off N q.s
  ch : Ch (fun k => k = g) wB w
section
variable {wB w w' : World} {g off N : Nat} {sv : Value} {rc : Array Value} {t : Int} {bs br bh bt : Nat} {q : RS}
theorem RInv.below (h : RInv wB w g off N sv rc t bs br bh bt q) (hb : Below w.heap.size w w') : RInv wB w' g off N sv rc t bs br bh bt q :=
  ⟨carry h.s0 hb, carry h.r0 hb, carry h.t0 hb, by obtain ⟨v, h1, h2⟩ := h.h0; exact ⟨v, carry h1 hb, own_below h2 hb⟩, h.sc.below hb, h.ch.trans (Ch.of_below hb)⟩
theorem RInv.name (_h : RInv wB w g off N sv rc t bs br bh bt q) : ∃ x, x = w := ⟨_, rfl⟩
theorem RInv.drew (h : RInv wB w g off N sv rc t bs br bh bt q) : RInv wB w.drew g off N sv rc t bs br bh bt q := h.below (Below.refl _ _).drew
theorem RInv.scene {s : List BodyD} {m : Bool} (h : RInv wB w g off N sv rc t bs br bh bt q) {cur : Array Value} (hg : w.heap[g]? = some (.cells cur 174 (0, 0))) (hc : Ch (fun k => k = g) w w') (hs : SceneAt w' g off N s) : RInv wB w' g off N sv rc t bs br bh bt ⟨s, m, q.hits⟩ := by
  have lt : ∀ {k : Nat} {o : Obj}, w.heap[k]? = some o → k < w.heap.size := fun h => (Array.getElem?_eq_some_iff.1 h).1
  refine ⟨(hc.2 _ (lt h.s0) (type_ne h.s0 hg (by decide))).trans h.s0, (hc.2 _ (lt h.r0) (type_ne h.r0 hg (by decide))).trans h.r0, (hc.2 _ (lt h.t0) (type_ne h.t0 hg (by decide))).trans h.t0, ?_, hs, h.ch.trans hc⟩
  obtain ⟨v, h1, h2⟩ := h.h0
  refine ⟨v, (hc.2 _ (lt h1) (type_ne h1 hg (by decide))).trans h1, own_ch h2 hc (fun e => ?_)⟩
  obtain ⟨_, c, hcc⟩ := own_type h2 e
  exact type_ne hcc hg (by decide) rfl
theorem RInv.sees (h : RInv wB w g off N sv rc t bs br bh bt q) (el : Int) (hel : rc[14]? = some (.int .i64 el)) : w.cell? ⟨bs, 0, none⟩ = some sv ∧ w.cell? ⟨br, 14, none⟩ = some (.int .i64 el) := ⟨cellN h.s0 rfl, cellN h.r0 hel⟩
theorem grown_keep {w2 : World} {o : Obj} {v : Value} {base sz n k : Nat} {xs : List Value} {c : Array Value} {u : TypeId} (hrow : w.ownsRow base 86 sz v n xs) (hgrow : (w.alloc o).grownBy w2 v.ownBlock) (hk : w.heap[k]? = some (.cells c u (0, 0))) (hu : u ≠ 86) : w2.heap[k]? = some (.cells c u (0, 0)) := by
  have lt : k < w.heap.size := (Array.getElem?_eq_some_iff.1 hk).1
  refine ((hgrow.block k (by simp; omega) (fun e => ?_)).trans (Below.heap_alloc _ _ _ lt)).trans hk
  obtain ⟨_, cc, hcc⟩ := own_type hrow e.symm
  exact type_ne hk hcc hu rfl
/-- A hit is kept. -/
theorem RInv.hit {w2 : World} {o : Obj} {v v' : Value} {x : HitD} (h : RInv wB w g off N sv rc t bs br bh bt q) (hbh : wB.heap.size ≤ bh) (hv : w.heap[bh]? = some (.cells #[v] 75 (0, 0))) (hrow : w.ownsRow wB.heap.size 86 3 v q.hits.length (q.hits.flatMap HitD.cells))
    (hgrow : (w.alloc o).grownBy w2 v.ownBlock) (hown : w2.ownsRow wB.heap.size 86 3 v' (q.hits.length + 1) (q.hits.flatMap HitD.cells ++ x.cells)) (hcur : ∃ cur, w.heap[g]? = some (.cells cur 174 (0, 0))) :
    RInv wB (w2.setCell ⟨bh, 0, none⟩ v') g off N sv rc t bs br bh bt ⟨q.s, q.met, q.hits ++ [x]⟩ := by
  have lt : ∀ {k : Nat} {o : Obj}, w.heap[k]? = some o → k < w.heap.size := fun h => (Array.getElem?_eq_some_iff.1 h).1
  have keep : ∀ {k : Nat} {c : Array Value} {u : TypeId}, w.heap[k]? = some (.cells c u (0, 0)) → u ≠ 86 → w2.heap[k]? = some (.cells c u (0, 0)) := by
    intro k c u hk hu
    refine ((hgrow.block k (by simp; have := lt hk; omega) (fun e => ?_)).trans (Below.heap_alloc _ _ _ (lt hk))).trans hk
    obtain ⟨_, cc, hcc⟩ := own_type hrow e.symm
    exact type_ne hk hcc hu rfl
  have keep2 : ∀ {k : Nat} {c : Array Value} {u : TypeId}, w.heap[k]? = some (.cells c u (0, 0)) → u ≠ 86 → u ≠ 75 → (w2.setCell ⟨bh, 0, none⟩ v').heap[k]? = some (.cells c u (0, 0)) := by
    intro k c u hk hu h7
    rw [heap_setCell_other _ _ k _ (show k ≠ bh from type_ne hk hv h7)]
    exact keep hk hu
  obtain ⟨cur, hg⟩ := hcur
  have hv2 := keep hv (by decide)
  have hB0 : Below wB.heap.size w w2 := ((Below.refl _ _).alloc h.ch.1.size o).grown hgrow (by simp; have := h.ch.1.size; omega) (fun k e => (own_type hrow e).1)
  refine ⟨keep2 h.s0 (by decide) (by decide), keep2 h.r0 (by decide) (by decide), keep2 h.t0 (by decide) (by decide), ⟨v', ?_, ?_⟩, ⟨h.sc.1, fun hN => ?_⟩, ?_⟩
  · have := heap_setCell_same w2 bh 0 _ _ v' hv2
    rw [this]; simp
  · have h1 : (w2.setCell ⟨bh, 0, none⟩ v').ownsRow wB.heap.size 86 3 v' (q.hits.length + 1) (q.hits.flatMap HitD.cells ++ x.cells) := by
      refine ownsRow_setCell_other hown (fun e => ?_) _
      obtain ⟨_, cc, hcc⟩ := own_type hown e
      exact type_ne hcc hv2 (by decide) rfl
    simpa using h1
  · obtain ⟨c, h1, h2⟩ := h.sc.2 hN
    exact ⟨c, keep2 h1 (by decide) (by decide), h2⟩
  · refine ⟨h.ch.1.trans ((((Below.refl 0 w).alloc (Nat.zero_le _) o).grown hgrow (Nat.zero_le _) (fun _ _ => Nat.zero_le _)).setCell (p := ⟨bh, 0, none⟩) (Nat.zero_le _) _), fun k hk hne => ?_⟩
    rw [heap_setCell_other _ _ k _ (show k ≠ bh by omega)]
    have hsz := h.ch.1.size
    exact ((hgrow.block k (by simp; omega) (fun e => by have := (own_type hrow e.symm).1; omega)).trans (Below.heap_alloc _ _ _ (by omega))).trans (h.ch.2 k hk hne)
/-- How a round ends. -/
def RoundE (x : Except Int RS) (wB : World) (g off N : Nat) (sv : Value) (rc : Array Value) (t : Int) (bs br bh bt : Nat) (e : Ending) (w' : World) : Prop :=
  match x with
  | .error c => e = .panicked (cmisfit c) ∧ Ch (fun k => k = g) wB w'
  | .ok q => e = .returned (.bool q.met) ∧ RInv wB w' g off N sv rc t bs br bh bt q
theorem RoundE.err {x : Except Int RS} {c : Int} (h : x = .error c) (hc : Ch (fun k => k = g) wB w) : RoundE x wB g off N sv rc t bs br bh bt (.panicked (cmisfit c)) w := by rw [h]; exact ⟨rfl, hc⟩
theorem RoundE.fine {x : Except Int RS} {b : Bool} (h : x = .ok q) (hb : q.met = b) (hc : RInv wB w g off N sv rc t bs br bh bt q) : RoundE x wB g off N sv rc t bs br bh bt (.returned (.bool b)) w := by rw [h, ← hb]; exact ⟨rfl, hc⟩
end
theorem info86 : (Tryz.prog.info? 86).map (fun i => (i.zero, i.size, i.bytes)) = some (some (.agg #[.int .i64 0, .int .i64 0, .int .i64 0]), 3, 24) := by kernel_rfl
theorem made_hit (w : World) (base : Nat) (x y z : Int) (hb : base ≤ w.heap.size) : (w.alloc (.cells #[.int .i64 x, .int .i64 y, .int .i64 z] 86)).ownsRow base 86 3 (.slice (some ⟨w.heap.size, 0, none⟩) 1 1) 1 [.int .i64 x, .int .i64 y, .int .i64 z] :=
  ⟨rfl, .inr ⟨w.heap.size, 1, _, rfl, hb, heap_alloc_new w _, Nat.le_refl _, by decide, rfl, rfl⟩⟩
theorem pairS_hits {el t : Int} {a b : Nat} {st q : RS} (h : pairS el t a b st = .ok q) : q.hits.length ≤ st.hits.length + 1 := by
  unfold pairS at h
  split at h
  · rename_i x y _ _
    split at h
    · cases hm : meetR el x y with
      | error c => rw [hm] at h; simp [pairM] at h
      | ok o =>
        rw [hm] at h
        cases o with
        | none => simp only [pairM, Except.ok.injEq] at h; subst h; omega
        | some p => simp only [pairM, Except.ok.injEq] at h; subst h; simp
    · simp only [Except.ok.injEq] at h; subst h; omega
  · simp only [Except.ok.injEq] at h; subst h; omega
theorem innTo_hits {el t : Int} {a : Nat} {st : RS} : ∀ {n : Nat} {q : RS}, innTo el t a st n = .ok q → q.hits.length ≤ st.hits.length + n
  | 0, q, h => by simp only [innTo, Except.ok.injEq] at h; subst h; omega
  | n + 1, q, h => by
    obtain ⟨p, h1, h2⟩ := thenR_ok h
    have := innTo_hits h1
    have := pairS_hits h2
    omega
theorem outTo_hits {el t : Int} {N : Nat} {st : RS} : ∀ {n : Nat} {q : RS}, outTo el t N st n = .ok q → q.hits.length ≤ st.hits.length + n * N
  | 0, q, h => by simp only [outTo, Except.ok.injEq] at h; subst h; omega
  | n + 1, q, h => by
    obtain ⟨p, h1, h2⟩ := thenR_ok h
    have := outTo_hits h1
    have := innTo_hits h2
    rw [Nat.add_mul]
    omega
theorem inn_step {el t : Int} {a j : Nat} {st q : RS} (hj : a + 1 ≤ j) (h : innTo el t a st (j - (a + 1)) = .ok q) : innTo el t a st (j + 1 - (a + 1)) = pairS el t a j q := by
  rw [show j + 1 - (a + 1) = (j - (a + 1)) + 1 by omega]
  simp only [innTo, h, thenR]
  rw [show a + 1 + (j - (a + 1)) = j by omega]
set_option maxRecDepth 100000 in
set_option maxHeartbeats 16000000 in
theorem round80_any (wB w : World) (g off N cap : Nat) (a : Option Addr) (rc : Array Value) (t el : Int) (bs br bh bt : Nat) (s : List BodyD) (m0 : Bool) (hits : List HitD)
    (ha : 0 < N → a = some ⟨g, off, none⟩) (hN : N ≤ 16) (hel : rc[14]? = some (.int .i64 el)) (he : 0 ≤ el ∧ el ≤ 1000) (hl : ∀ b ∈ s, b.m.ok = true) (hbh : wB.heap.size ≤ bh) (hh : hits.length ≤ 10000)
    (h : RInv wB w g off N (.slice a N cap) rc t bs br bh bt ⟨s, m0, hits⟩) :
    Calls Tryz.prog 80 #[.pointer (some ⟨bs, 0, none⟩), .pointer (some ⟨br, 0, none⟩), .pointer (some ⟨bh, 0, none⟩), .pointer (some ⟨bt, 0, none⟩)] w fun e w' => RoundE (roundS el t ⟨s, m0, hits⟩) wB g off N (.slice a N cap) rc t bs br bh bt e w' := by
  have hsl : s.length = N := h.sc.1
  have hans0 : roundS el t ⟨s, m0, hits⟩ = outTo el t N ⟨s, false, hits⟩ N := by unfold roundS; rw [hsl]
  obtain ⟨ans, hans⟩ : ∃ x, roundS el t ⟨s, m0, hits⟩ = x := ⟨_, rfl⟩
  rw [hans]
  rw [hans0] at hans
  obtain ⟨F, hF⟩ : ∃ F : Nat → Except Int RS, (fun n => outTo el t N ⟨s, false, hits⟩ n) = F := ⟨_, rfl⟩
  have HF0 := hid (show F 0 = .ok ⟨s, false, hits⟩ by rw [← hF]; rfl)
  have HFE := hid (show ∀ c k, F k = .error c → k ≤ N → ans = .error c from fun c k h1 h2 => by rw [← hF] at h1; exact hans.symm.trans (outTo_err h1 N h2))
  have HFN := hid (show ∀ q, F N = .ok q → ans = .ok q from fun q h1 => by rw [← hF] at h1; exact hans.symm.trans h1)
  have HFL := hid (show ∀ k q, F k = .ok q → Like s q.s from fun k q h1 => by rw [← hF] at h1; exact outTo_like (l := s) (st := ⟨s, false, hits⟩) (Like.refl hl) h1)
  have HFH := hid (show ∀ k q, k ≤ N → F k = .ok q → q.hits.length ≤ 10256 from fun k q hk h1 => by
    rw [← hF] at h1
    have h2 := outTo_hits h1
    have h3 : k * N ≤ 16 * 16 := Nat.mul_le_mul (by omega) hN
    dsimp only at h2
    omega)
  have HFI := hid (show ∀ k q q2, F k = .ok q → innTo el t k q (N - (k + 1)) = .ok q2 → F (k + 1) = .ok q2 from fun k q q2 h1 h2 => by
    rw [← hF] at h1 ⊢
    dsimp only at h1 ⊢
    simp only [outTo, h1, thenR, h2])
  have HFX := hid (show ∀ k q c, F k = .ok q → innTo el t k q (N - (k + 1)) = .error c → F (k + 1) = .error c from fun k q c h1 h2 => by
    rw [← hF] at h1 ⊢
    dsimp only at h1 ⊢
    simp only [outTo, h1, thenR, h2])
  have HR0 := hid (show RInv wB w g off N (.slice a N cap) rc t bs br bh bt ⟨s, false, hits⟩ from ⟨h.s0, h.r0, h.t0, h.h0, h.sc, h.ch⟩)
  have HA := hid ha
  have HHN := hid hN
  have HEL := hid hel
  have HE := hid he
  have HBH := hid hbh
  clear ha hN hel he hl hbh hh h hsl hans0 hans hF
  have hb0 := cellN (i := 0) (v := .slice a N cap) HR0.out.s0 rfl
  go_enter Tryz.func80, Tryz.ntmps80
  go_wp2_with fail
  clear hb0
  go_loopw [9, 4] (fun i m wq => ∃ (k : Nat) (q : RS), k ≤ N ∧ i = .int .i64 k ∧ F k = .ok q ∧ m = .bool q.met ∧ RInv wB wq g off N (.slice a N cap) rc t bs br bh bt q) (fun i _ _ => N - (intOf i).toNat)
  case atStart => exact ⟨0, _, Nat.zero_le _, rfl, HF0.out, rfl, HR0.out⟩
  case round =>
    clear HF0 HR0
    obtain ⟨k, q, hk, rfl, hq, rfl, hri⟩ := hrel
    obtain ⟨wo, rfl⟩ : ∃ wo, wo = wr := ⟨_, rfl⟩
    have HQF := hid hq
    have HRO := hid hri
    clear hq hri
    by_cases hlt : k < N
    · have hk16 : k < 16 := Nat.lt_of_lt_of_le hlt HHN.out
      obtain rfl := HA.out (Nat.lt_of_le_of_lt (Nat.zero_le _) hlt)
      go_wp2_with fail
      go_loopw [6, 4] (fun i m wq => ∃ (j : Nat) (q2 : RS), k + 1 ≤ j ∧ j ≤ N ∧ i = .int .i64 j ∧ innTo el t k q (j - (k + 1)) = .ok q2 ∧ m = .bool q2.met ∧ RInv wB wq g off N (.slice (some ⟨g, off, none⟩) N cap) rc t bs br bh bt q2) (fun i _ _ => N - (intOf i).toNat)
      case atStart => exact ⟨k + 1, q, Nat.le_refl _, hlt, by go_num, by rw [Nat.sub_self]; rfl, rfl, HRO.out⟩
      case round =>
        clear HRO
        obtain ⟨j, q2, hkj, hj, rfl, hin, rfl, hri⟩ := hrel
        obtain ⟨wi, rfl⟩ : ∃ wi, wi = wr := ⟨_, rfl⟩
        have HIN := hid hin
        have HRI := hid hri
        clear hin hri
        by_cases hjl : j < N
        · have hj16 : j < 16 := Nat.lt_of_lt_of_le hjl HHN.out
          have hlk := innTo_like (HFL.out k q HQF.out) HIN.out
          have HHB := hid (show q2.hits.length ≤ 11000 by
            have h1 := HFH.out k q hk HQF.out
            have h2 := innTo_hits HIN.out
            have h3 := HHN.out
            omega)
          have hls : q2.s.length = N := HRI.out.sc.1
          obtain ⟨x, hx⟩ : ∃ b, q2.s[k]? = some b := ⟨_, List.getElem?_eq_getElem (by omega)⟩
          obtain ⟨y, hy⟩ : ∃ b, q2.s[j]? = some b := ⟨_, List.getElem?_eq_getElem (by omega)⟩
          have hxo := hlk.2.1 x (List.mem_of_getElem? hx)
          have hyo := hlk.2.1 y (List.mem_of_getElem? hy)
          have HTC := hid (fun W => touches81_any x y (mov_spot hxo) (mov_spot hyo) W)
          obtain ⟨cur, hcu, hrw⟩ := HRI.out.sc.2 (by omega)
          have HRX := hid (hrw k x hx)
          have HRY := hid (hrw j y hy)
          have HCU := hid hcu
          have HPS := hid (show innTo el t k q (j + 1 - (k + 1)) = if touchB x y = true then pairM t k j q2 (meetR el x y) else .ok q2 from by
            rw [inn_step hkj HIN.out]; simp only [pairS, hx, hy])
          have HMEE := hid (fun (ht : touchB x y = true) (W : World) (hW : W.heap[g]? = some (.cells cur 174 (0, 0))) => meet82_any el HE.out x y hxo hyo ht g (off + k * 8) (off + j * 8) cur W hW HRX.out HRY.out (by omega))
          have HPUT := hid (show ∀ (W W' : World) (cur' : Array Value) (x' y' : BodyD), RInv wB W g off N (.slice (some ⟨g, off, none⟩) N cap) rc t bs br bh bt q2 → W.heap[g]? = some (.cells cur 174 (0, 0)) → Ch (fun k => k = g) W W' → W'.heap[g]? = some (.cells cur' 174 (0, 0)) → RowB cur' (off + k * 8) x' → RowB cur' (off + j * 8) y' → (∀ i, (i < off + k * 8 ∨ off + k * 8 + 8 ≤ i) → (i < off + j * 8 ∨ off + j * 8 + 8 ≤ i) → cur'[i]? = cur[i]?) → RInv wB W' g off N (.slice (some ⟨g, off, none⟩) N cap) rc t bs br bh bt ⟨(q2.s.set k x').set j y', true, q2.hits⟩ from
            fun W W' cur' x' y' h1 h2 h3 h4 h5 h6 h7 => h1.scene h2 h3 ⟨by simp [hls], fun _ => ⟨cur', h4, hrw.put2 h5 h6 h7⟩⟩)
          obtain ⟨tb, htb⟩ : ∃ b, touchB x y = b := ⟨_, rfl⟩
          obtain ⟨mr, hmr⟩ : ∃ r, meetR el x y = r := ⟨_, rfl⟩
          rw [htb] at HTC HPS HMEE
          rw [hmr] at HPS HMEE
          have HMOK := hid (show ∀ c, mr = .error c → innTo el t k q (N - (k + 1)) = .error c ∨ tb = false from fun c e => by
            cases tb with
            | false => exact .inr rfl
            | true => left; refine innTo_err (k := j + 1 - (k + 1)) ?_ _ (by omega); rw [HPS.out, e]; rfl)
          clear htb hmr hlk hls hx hy hxo hyo hcu hrw
          obtain ⟨xt, xn, ⟨xpx, xpy, xvx, xvy, xsp⟩, xo⟩ := x
          obtain ⟨yt, yn, ⟨ypx, ypy, yvx, yvy, ysp⟩, yo⟩ := y
          have HTC := hid (show ∀ W, Calls Tryz.prog 81 #[.agg #[.int .i64 xt, .int .i64 xn, .int .i64 xpx, .int .i64 xpy, .int .i64 xvx, .int .i64 xvy, .int .i64 xsp, .bool xo], .agg #[.int .i64 yt, .int .i64 yn, .int .i64 ypx, .int .i64 ypy, .int .i64 yvx, .int .i64 yvy, .int .i64 ysp, .bool yo]] W fun e w' => e = .returned (.bool tb) ∧ Below W.heap.size W w' from HTC.out)
          have HX0 := hid (show ∀ W : World, W.heap[g]? = some (.cells cur 174 (0, 0)) → W.cell? ⟨g, off + k * 8, none⟩ = some (.int .i64 xt) ∧ W.cell? ⟨g, off + k * 8 + 1, none⟩ = some (.int .i64 xn) ∧ W.cell? ⟨g, off + k * 8 + 2, none⟩ = some (.int .i64 xpx) ∧ W.cell? ⟨g, off + k * 8 + 3, none⟩ = some (.int .i64 xpy) ∧ W.cell? ⟨g, off + k * 8 + 4, none⟩ = some (.int .i64 xvx) ∧ W.cell? ⟨g, off + k * 8 + 5, none⟩ = some (.int .i64 xvy) ∧ W.cell? ⟨g, off + k * 8 + 6, none⟩ = some (.int .i64 xsp) ∧ W.cell? ⟨g, off + k * 8 + 7, none⟩ = some (.bool xo) from fun W h => ⟨cellN h (HRX.out 0 (by omega)), cellN h (HRX.out 1 (by omega)), cellN h (HRX.out 2 (by omega)), cellN h (HRX.out 3 (by omega)), cellN h (HRX.out 4 (by omega)), cellN h (HRX.out 5 (by omega)), cellN h (HRX.out 6 (by omega)), cellN h (HRX.out 7 (by omega))⟩)
          have HY0 := hid (show ∀ W : World, W.heap[g]? = some (.cells cur 174 (0, 0)) → W.cell? ⟨g, off + j * 8, none⟩ = some (.int .i64 yt) ∧ W.cell? ⟨g, off + j * 8 + 1, none⟩ = some (.int .i64 yn) ∧ W.cell? ⟨g, off + j * 8 + 2, none⟩ = some (.int .i64 ypx) ∧ W.cell? ⟨g, off + j * 8 + 3, none⟩ = some (.int .i64 ypy) ∧ W.cell? ⟨g, off + j * 8 + 4, none⟩ = some (.int .i64 yvx) ∧ W.cell? ⟨g, off + j * 8 + 5, none⟩ = some (.int .i64 yvy) ∧ W.cell? ⟨g, off + j * 8 + 6, none⟩ = some (.int .i64 ysp) ∧ W.cell? ⟨g, off + j * 8 + 7, none⟩ = some (.bool yo) from fun W h => ⟨cellN h (HRY.out 0 (by omega)), cellN h (HRY.out 1 (by omega)), cellN h (HRY.out 2 (by omega)), cellN h (HRY.out 3 (by omega)), cellN h (HRY.out 4 (by omega)), cellN h (HRY.out 5 (by omega)), cellN h (HRY.out 6 (by omega)), cellN h (HRY.out 7 (by omega))⟩)
          have HQ4 := hid (show ∀ W : World, RInv wB W g off N (.slice (some ⟨g, off, none⟩) N cap) rc t bs br bh bt q2 → W.heap[g]? = some (.cells cur 174 (0, 0)) → W.cell? ⟨bs, 0, none⟩ = some (.slice (some ⟨g, off, none⟩) N cap) ∧ W.cell? ⟨br, 14, none⟩ = some (.int .i64 el) from fun W h _ => h.sees el HEL.out)
          have HQ1 := hid (show ∀ W : World, RInv wB W g off N (.slice (some ⟨g, off, none⟩) N cap) rc t bs br bh bt q2 → W.heap[g]? = some (.cells cur 174 (0, 0)) → W.cell? ⟨bs, 0, none⟩ = some (.slice (some ⟨g, off, none⟩) N cap) ∧ W.cell? ⟨br, 14, none⟩ = some (.int .i64 el) ∧ W.cell? ⟨g, off + k * 8, none⟩ = some (.int .i64 xt) ∧ W.cell? ⟨g, off + k * 8 + 1, none⟩ = some (.int .i64 xn) ∧ W.cell? ⟨g, off + k * 8 + 2, none⟩ = some (.int .i64 xpx) ∧ W.cell? ⟨g, off + k * 8 + 3, none⟩ = some (.int .i64 xpy) ∧ W.cell? ⟨g, off + k * 8 + 4, none⟩ = some (.int .i64 xvx) ∧ W.cell? ⟨g, off + k * 8 + 5, none⟩ = some (.int .i64 xvy) ∧ W.cell? ⟨g, off + k * 8 + 6, none⟩ = some (.int .i64 xsp) ∧ W.cell? ⟨g, off + k * 8 + 7, none⟩ = some (.bool xo) ∧ W.cell? ⟨g, off + j * 8, none⟩ = some (.int .i64 yt) ∧ W.cell? ⟨g, off + j * 8 + 1, none⟩ = some (.int .i64 yn) ∧ W.cell? ⟨g, off + j * 8 + 2, none⟩ = some (.int .i64 ypx) ∧ W.cell? ⟨g, off + j * 8 + 3, none⟩ = some (.int .i64 ypy) ∧ W.cell? ⟨g, off + j * 8 + 4, none⟩ = some (.int .i64 yvx) ∧ W.cell? ⟨g, off + j * 8 + 5, none⟩ = some (.int .i64 yvy) ∧ W.cell? ⟨g, off + j * 8 + 6, none⟩ = some (.int .i64 ysp) ∧ W.cell? ⟨g, off + j * 8 + 7, none⟩ = some (.bool yo) from fun W h hg => by
            obtain ⟨h1, h2⟩ := h.sees el HEL.out
            obtain ⟨a0, a1, a2, a3, a4, a5, a6, a7⟩ := HX0.out W hg
            obtain ⟨b0, b1, b2, b3, b4, b5, b6, b7⟩ := HY0.out W hg
            exact ⟨h1, h2, a0, a1, a2, a3, a4, a5, a6, a7, b0, b1, b2, b3, b4, b5, b6, b7⟩)
          obtain ⟨hbx, -⟩ := HRI.out.sees el HEL.out
          go_upto_region 7 with fail
          clear hbx
          cases tb with
          | false =>
            have HNX := hid (show innTo el t k q (j + 1 - (k + 1)) = .ok q2 by rw [HPS.out]; rfl)
            clear HPS HMEE HMOK HPUT
            refine wp_region_held_drew (S := (fun W => W.cell? ⟨bs, 0, none⟩ = some (.slice (some ⟨g, off, none⟩) N cap) ∧ W.cell? ⟨br, 14, none⟩ = some (.int .i64 el) ∧ W.cell? ⟨g, off + k * 8, none⟩ = some (.int .i64 xt) ∧ W.cell? ⟨g, off + k * 8 + 1, none⟩ = some (.int .i64 xn) ∧ W.cell? ⟨g, off + k * 8 + 2, none⟩ = some (.int .i64 xpx) ∧ W.cell? ⟨g, off + k * 8 + 3, none⟩ = some (.int .i64 xpy) ∧ W.cell? ⟨g, off + k * 8 + 4, none⟩ = some (.int .i64 xvx) ∧ W.cell? ⟨g, off + k * 8 + 5, none⟩ = some (.int .i64 xvy) ∧ W.cell? ⟨g, off + k * 8 + 6, none⟩ = some (.int .i64 xsp) ∧ W.cell? ⟨g, off + k * 8 + 7, none⟩ = some (.bool xo) ∧ W.cell? ⟨g, off + j * 8, none⟩ = some (.int .i64 yt) ∧ W.cell? ⟨g, off + j * 8 + 1, none⟩ = some (.int .i64 yn) ∧ W.cell? ⟨g, off + j * 8 + 2, none⟩ = some (.int .i64 ypx) ∧ W.cell? ⟨g, off + j * 8 + 3, none⟩ = some (.int .i64 ypy) ∧ W.cell? ⟨g, off + j * 8 + 4, none⟩ = some (.int .i64 yvx) ∧ W.cell? ⟨g, off + j * 8 + 5, none⟩ = some (.int .i64 yvy) ∧ W.cell? ⟨g, off + j * 8 + 6, none⟩ = some (.int .i64 ysp) ∧ W.cell? ⟨g, off + j * 8 + 7, none⟩ = some (.bool yo))) (by kernel_rfl) (HQ1.out _ HRI.out.drew HCU.out) (fun hH => ?_)
            obtain ⟨v0, hv0⟩ : ∃ v0, v0 = wi.drew := ⟨_, rfl⟩
            have HI0 := hid (show RInv wB v0 g off N (.slice (some ⟨g, off, none⟩) N cap) rc t bs br bh bt q2 by rw [hv0]; exact HRI.out.drew)
            have HG0 := hid (show v0.heap[g]? = some (.cells cur 174 (0, 0)) by rw [hv0]; exact HCU.out)
            rw [← hv0] at hH ⊢
            clear hv0
            refine wpAnyH_take (i := 0) (oi := { dst := some 20, op := Go.Op.load 121 (Go.Operand.tmp 0), type := 121, pos := "contact.go:199", after := #[], guard := none }) (v := (.slice (some ⟨g, off, none⟩) N cap)) rfl (by kernel_rfl) (by kernel_rfl) (by kernel_rfl) (fun _ _ _ h => h) (Or.inl ⟨by rfl, ?_⟩) hH ?_
            · intro w hSw
              (try dsimp only at hSw)
              go_simp
            (try simp only [Act.put, List.setIfInBounds_toArray, List.set_cons_zero, List.set_cons_succ])
            refine wpAnyH_take (i := 1) (oi := { dst := some 21, op := Go.Op.move (Go.Operand.tmp 5), type := 3, pos := "contact.go:199", after := #[], guard := none }) (v := (.int .i64 (k : Int))) rfl (by kernel_rfl) (by kernel_rfl) (by kernel_rfl) (fun _ _ _ h => h) (Or.inl ⟨by rfl, ?_⟩) hH ?_
            · intro w hSw
              (try dsimp only at hSw)
              go_simp
            (try simp only [Act.put, List.setIfInBounds_toArray, List.set_cons_zero, List.set_cons_succ])
            refine wpAnyH_take (i := 2) (oi := { dst := some 22, op := Go.Op.indexAddr 121 (Go.Operand.tmp 20) (Go.Operand.tmp 21), type := 0, pos := "contact.go:199", after := #[{ on := 0, ground := Go.Ground.data }, { on := 1, ground := Go.Ground.data }], guard := none }) (v := (.pointer (some ⟨g, off + k * 8, none⟩))) rfl (by kernel_rfl) (by kernel_rfl) (by kernel_rfl) (fun _ _ _ h => h) (Or.inl ⟨by rfl, ?_⟩) hH ?_
            · intro w hSw
              (try dsimp only at hSw)
              go_simp
            (try simp only [Act.put, List.setIfInBounds_toArray, List.set_cons_zero, List.set_cons_succ])
            refine wpAnyH_take (i := 3) (oi := { dst := some 23, op := Go.Op.load 174 (Go.Operand.tmp 22), type := 174, pos := "contact.go:199", after := #[{ on := 2, ground := Go.Ground.data }], guard := none }) (v := (.agg #[.int .i64 xt, .int .i64 xn, .int .i64 xpx, .int .i64 xpy, .int .i64 xvx, .int .i64 xvy, .int .i64 xsp, .bool xo])) rfl (by kernel_rfl) (by kernel_rfl) (by kernel_rfl) (fun _ _ _ h => h) (Or.inl ⟨by rfl, ?_⟩) hH ?_
            · intro w hSw
              (try dsimp only at hSw)
              go_simp
            (try simp only [Act.put, List.setIfInBounds_toArray, List.set_cons_zero, List.set_cons_succ])
            refine wpAnyH_take (i := 4) (oi := { dst := some 24, op := Go.Op.load 121 (Go.Operand.tmp 0), type := 121, pos := "contact.go:199", after := #[], guard := none }) (v := (.slice (some ⟨g, off, none⟩) N cap)) rfl (by kernel_rfl) (by kernel_rfl) (by kernel_rfl) (fun _ _ _ h => h) (Or.inl ⟨by rfl, ?_⟩) hH ?_
            · intro w hSw
              (try dsimp only at hSw)
              go_simp
            (try simp only [Act.put, List.setIfInBounds_toArray, List.set_cons_zero, List.set_cons_succ])
            refine wpAnyH_take (i := 5) (oi := { dst := some 25, op := Go.Op.move (Go.Operand.tmp 6), type := 3, pos := "contact.go:199", after := #[], guard := none }) (v := (.int .i64 (j : Int))) rfl (by kernel_rfl) (by kernel_rfl) (by kernel_rfl) (fun _ _ _ h => h) (Or.inl ⟨by rfl, ?_⟩) hH ?_
            · intro w hSw
              (try dsimp only at hSw)
              go_simp
            (try simp only [Act.put, List.setIfInBounds_toArray, List.set_cons_zero, List.set_cons_succ])
            refine wpAnyH_take (i := 6) (oi := { dst := some 26, op := Go.Op.indexAddr 121 (Go.Operand.tmp 24) (Go.Operand.tmp 25), type := 0, pos := "contact.go:199", after := #[{ on := 4, ground := Go.Ground.data }, { on := 5, ground := Go.Ground.data }], guard := none }) (v := (.pointer (some ⟨g, off + j * 8, none⟩))) rfl (by kernel_rfl) (by kernel_rfl) (by kernel_rfl) (fun _ _ _ h => h) (Or.inl ⟨by rfl, ?_⟩) hH ?_
            · intro w hSw
              (try dsimp only at hSw)
              go_simp
            (try simp only [Act.put, List.setIfInBounds_toArray, List.set_cons_zero, List.set_cons_succ])
            refine wpAnyH_take (i := 7) (oi := { dst := some 27, op := Go.Op.load 174 (Go.Operand.tmp 26), type := 174, pos := "contact.go:199", after := #[{ on := 6, ground := Go.Ground.data }], guard := none }) (v := (.agg #[.int .i64 yt, .int .i64 yn, .int .i64 ypx, .int .i64 ypy, .int .i64 yvx, .int .i64 yvy, .int .i64 ysp, .bool yo])) rfl (by kernel_rfl) (by kernel_rfl) (by kernel_rfl) (fun _ _ _ h => h) (Or.inl ⟨by rfl, ?_⟩) hH ?_
            · intro w hSw
              (try dsimp only at hSw)
              go_simp
            (try simp only [Act.put, List.setIfInBounds_toArray, List.set_cons_zero, List.set_cons_succ])
            refine wpAnyH_ready (rs := [8]) (by kernel_rfl) (by simp) ?_
            refine AllReadyH.cons rfl (fun K hK => ?_) AllReadyH.nil
            (try dsimp only at hH)
            go_simp
            refine (HTC.out _).mono ?_
            rintro e w8 ⟨rfl, hb8⟩
            refine hK.out _ _ (HQ1.out _ (HI0.out.below hb8) (carry HG0.out hb8)) (fun hH1 => ?_)
            clear hK K
            have HI1 := hid (HI0.out.below hb8)
            have HG1 := hid (carry HG0.out hb8)
            clear hb8
            (try simp only [Act.put, List.setIfInBounds_toArray, List.set_cons_zero, List.set_cons_succ])
            refine wpAnyH_take (i := 9) (oi := { dst := some 29, op := Go.Op.move (Go.Operand.tmp 28), type := 4, pos := "contact.go:199", after := #[{ on := 8, ground := Go.Ground.data }, { on := 8, ground := Go.Ground.chain }], guard := none }) (v := (.bool false)) rfl (by kernel_rfl) (by kernel_rfl) (by kernel_rfl) (fun _ _ _ h => h) (Or.inl ⟨by rfl, ?_⟩) hH1 ?_
            · intro w hSw
              (try dsimp only at hSw)
              go_simp
            (try simp only [Act.put, List.setIfInBounds_toArray, List.set_cons_zero, List.set_cons_succ])
            refine wpAnyH_take (i := 10) (oi := { dst := some 30, op := Go.Op.load 121 (Go.Operand.tmp 0), type := 121, pos := "contact.go:199", after := #[{ on := 9, ground := Go.Ground.guard }], guard := some (9, true) }) (v := undef) rfl (by kernel_rfl) (by kernel_rfl) (by kernel_rfl) (fun _ _ _ h => h) (Or.inr ⟨by rfl, rfl⟩) hH1 ?_
            (try simp only [Act.put, List.setIfInBounds_toArray, List.set_cons_zero, List.set_cons_succ])
            refine wpAnyH_take (i := 11) (oi := { dst := some 31, op := Go.Op.move (Go.Operand.tmp 5), type := 3, pos := "contact.go:199", after := #[{ on := 9, ground := Go.Ground.guard }], guard := some (9, true) }) (v := undef) rfl (by kernel_rfl) (by kernel_rfl) (by kernel_rfl) (fun _ _ _ h => h) (Or.inr ⟨by rfl, rfl⟩) hH1 ?_
            (try simp only [Act.put, List.setIfInBounds_toArray, List.set_cons_zero, List.set_cons_succ])
            refine wpAnyH_take (i := 12) (oi := { dst := some 32, op := Go.Op.indexAddr 121 (Go.Operand.tmp 30) (Go.Operand.tmp 31), type := 0, pos := "contact.go:199", after := #[{ on := 10, ground := Go.Ground.data }, { on := 11, ground := Go.Ground.data }, { on := 9, ground := Go.Ground.guard }], guard := some (9, true) }) (v := undef) rfl (by kernel_rfl) (by kernel_rfl) (by kernel_rfl) (fun _ _ _ h => h) (Or.inr ⟨by rfl, rfl⟩) hH1 ?_
            (try simp only [Act.put, List.setIfInBounds_toArray, List.set_cons_zero, List.set_cons_succ])
            refine wpAnyH_take (i := 13) (oi := { dst := some 33, op := Go.Op.load 121 (Go.Operand.tmp 0), type := 121, pos := "contact.go:199", after := #[{ on := 9, ground := Go.Ground.guard }], guard := some (9, true) }) (v := undef) rfl (by kernel_rfl) (by kernel_rfl) (by kernel_rfl) (fun _ _ _ h => h) (Or.inr ⟨by rfl, rfl⟩) hH1 ?_
            (try simp only [Act.put, List.setIfInBounds_toArray, List.set_cons_zero, List.set_cons_succ])
            refine wpAnyH_take (i := 14) (oi := { dst := some 34, op := Go.Op.move (Go.Operand.tmp 6), type := 3, pos := "contact.go:199", after := #[{ on := 9, ground := Go.Ground.guard }], guard := some (9, true) }) (v := undef) rfl (by kernel_rfl) (by kernel_rfl) (by kernel_rfl) (fun _ _ _ h => h) (Or.inr ⟨by rfl, rfl⟩) hH1 ?_
            (try simp only [Act.put, List.setIfInBounds_toArray, List.set_cons_zero, List.set_cons_succ])
            refine wpAnyH_take (i := 15) (oi := { dst := some 35, op := Go.Op.indexAddr 121 (Go.Operand.tmp 33) (Go.Operand.tmp 34), type := 0, pos := "contact.go:199", after := #[{ on := 13, ground := Go.Ground.data }, { on := 14, ground := Go.Ground.data }, { on := 9, ground := Go.Ground.guard }], guard := some (9, true) }) (v := undef) rfl (by kernel_rfl) (by kernel_rfl) (by kernel_rfl) (fun _ _ _ h => h) (Or.inr ⟨by rfl, rfl⟩) hH1 ?_
            (try simp only [Act.put, List.setIfInBounds_toArray, List.set_cons_zero, List.set_cons_succ])
            refine wpAnyH_take (i := 16) (oi := { dst := some 36, op := Go.Op.fieldAddr 118 (Go.Operand.tmp 1) 4, type := 0, pos := "contact.go:199", after := #[{ on := 9, ground := Go.Ground.guard }], guard := some (9, true) }) (v := undef) rfl (by kernel_rfl) (by kernel_rfl) (by kernel_rfl) (fun _ _ _ h => h) (Or.inr ⟨by rfl, rfl⟩) hH1 ?_
            (try simp only [Act.put, List.setIfInBounds_toArray, List.set_cons_zero, List.set_cons_succ])
            refine wpAnyH_take (i := 17) (oi := { dst := some 37, op := Go.Op.load 3 (Go.Operand.tmp 36), type := 3, pos := "contact.go:199", after := #[{ on := 16, ground := Go.Ground.data }, { on := 9, ground := Go.Ground.guard }], guard := some (9, true) }) (v := undef) rfl (by kernel_rfl) (by kernel_rfl) (by kernel_rfl) (fun _ _ _ h => h) (Or.inr ⟨by rfl, rfl⟩) hH1 ?_
            (try simp only [Act.put, List.setIfInBounds_toArray, List.set_cons_zero, List.set_cons_succ])
            refine wpAnyH_take (i := 18) (oi := { dst := some 38, op := Go.Op.call { callee := Go.Callee.value (Go.Operand.func 82), args := #[Go.Operand.tmp 32, Go.Operand.tmp 35, Go.Operand.tmp 37], argTypes := #[179, 179, 3] }, type := 4, pos := "contact.go:199", after := #[{ on := 12, ground := Go.Ground.data }, { on := 15, ground := Go.Ground.data }, { on := 17, ground := Go.Ground.data }, { on := 9, ground := Go.Ground.chain }, { on := 9, ground := Go.Ground.guard }], guard := some (9, true) }) (v := undef) rfl (by kernel_rfl) (by kernel_rfl) (by kernel_rfl) (fun _ _ _ h => h) (Or.inr ⟨by rfl, rfl⟩) hH1 ?_
            (try simp only [Act.put, List.setIfInBounds_toArray, List.set_cons_zero, List.set_cons_succ])
            refine wpAnyH_take (i := 19) (oi := { dst := some 39, op := Go.Op.pick (Go.Operand.tmp 29) (Go.Operand.tmp 38) (Go.Operand.const (Go.Value.bool false)), type := 4, pos := "contact.go:199", after := #[{ on := 9, ground := Go.Ground.data }, { on := 18, ground := Go.Ground.data }], guard := none }) (v := (.bool false)) rfl (by kernel_rfl) (by kernel_rfl) (by kernel_rfl) (fun _ _ _ h => h) (Or.inl ⟨by rfl, ?_⟩) hH1 ?_
            · intro w hSw
              (try dsimp only at hSw)
              go_simp
            (try simp only [Act.put, List.setIfInBounds_toArray, List.set_cons_zero, List.set_cons_succ])
            refine wpAnyH_done (by kernel_rfl) ?_ _
            go_wp2_with fail
            exact ⟨⟨j + 1, q2, by omega, by omega, by go_num, HNX.out, rfl, HI1.out⟩, by simp only [intOf]; omega⟩
          | true =>
          have HME := hid (HMEE.out rfl)
          clear HMEE
          cases mr with
          | error c =>
            have HNX := hid (show ans = .error c from HFE.out c (k + 1) (HFX.out k q c HQF.out ((HMOK.out c rfl).resolve_right (by simp))) hlt)
            clear HPS HMOK HPUT
            refine wp_region_held_drew (S := (fun W => W.cell? ⟨bs, 0, none⟩ = some (.slice (some ⟨g, off, none⟩) N cap) ∧ W.cell? ⟨br, 14, none⟩ = some (.int .i64 el) ∧ W.cell? ⟨g, off + k * 8, none⟩ = some (.int .i64 xt) ∧ W.cell? ⟨g, off + k * 8 + 1, none⟩ = some (.int .i64 xn) ∧ W.cell? ⟨g, off + k * 8 + 2, none⟩ = some (.int .i64 xpx) ∧ W.cell? ⟨g, off + k * 8 + 3, none⟩ = some (.int .i64 xpy) ∧ W.cell? ⟨g, off + k * 8 + 4, none⟩ = some (.int .i64 xvx) ∧ W.cell? ⟨g, off + k * 8 + 5, none⟩ = some (.int .i64 xvy) ∧ W.cell? ⟨g, off + k * 8 + 6, none⟩ = some (.int .i64 xsp) ∧ W.cell? ⟨g, off + k * 8 + 7, none⟩ = some (.bool xo) ∧ W.cell? ⟨g, off + j * 8, none⟩ = some (.int .i64 yt) ∧ W.cell? ⟨g, off + j * 8 + 1, none⟩ = some (.int .i64 yn) ∧ W.cell? ⟨g, off + j * 8 + 2, none⟩ = some (.int .i64 ypx) ∧ W.cell? ⟨g, off + j * 8 + 3, none⟩ = some (.int .i64 ypy) ∧ W.cell? ⟨g, off + j * 8 + 4, none⟩ = some (.int .i64 yvx) ∧ W.cell? ⟨g, off + j * 8 + 5, none⟩ = some (.int .i64 yvy) ∧ W.cell? ⟨g, off + j * 8 + 6, none⟩ = some (.int .i64 ysp) ∧ W.cell? ⟨g, off + j * 8 + 7, none⟩ = some (.bool yo))) (by kernel_rfl) (HQ1.out _ HRI.out.drew HCU.out) (fun hH => ?_)
            obtain ⟨v0, hv0⟩ : ∃ v0, v0 = wi.drew := ⟨_, rfl⟩
            have HI0 := hid (show RInv wB v0 g off N (.slice (some ⟨g, off, none⟩) N cap) rc t bs br bh bt q2 by rw [hv0]; exact HRI.out.drew)
            have HG0 := hid (show v0.heap[g]? = some (.cells cur 174 (0, 0)) by rw [hv0]; exact HCU.out)
            rw [← hv0] at hH ⊢
            clear hv0
            refine wpAnyH_take (i := 0) (oi := { dst := some 20, op := Go.Op.load 121 (Go.Operand.tmp 0), type := 121, pos := "contact.go:199", after := #[], guard := none }) (v := (.slice (some ⟨g, off, none⟩) N cap)) rfl (by kernel_rfl) (by kernel_rfl) (by kernel_rfl) (fun _ _ _ h => h) (Or.inl ⟨by rfl, ?_⟩) hH ?_
            · intro w hSw
              (try dsimp only at hSw)
              go_simp
            (try simp only [Act.put, List.setIfInBounds_toArray, List.set_cons_zero, List.set_cons_succ])
            refine wpAnyH_take (i := 1) (oi := { dst := some 21, op := Go.Op.move (Go.Operand.tmp 5), type := 3, pos := "contact.go:199", after := #[], guard := none }) (v := (.int .i64 (k : Int))) rfl (by kernel_rfl) (by kernel_rfl) (by kernel_rfl) (fun _ _ _ h => h) (Or.inl ⟨by rfl, ?_⟩) hH ?_
            · intro w hSw
              (try dsimp only at hSw)
              go_simp
            (try simp only [Act.put, List.setIfInBounds_toArray, List.set_cons_zero, List.set_cons_succ])
            refine wpAnyH_take (i := 2) (oi := { dst := some 22, op := Go.Op.indexAddr 121 (Go.Operand.tmp 20) (Go.Operand.tmp 21), type := 0, pos := "contact.go:199", after := #[{ on := 0, ground := Go.Ground.data }, { on := 1, ground := Go.Ground.data }], guard := none }) (v := (.pointer (some ⟨g, off + k * 8, none⟩))) rfl (by kernel_rfl) (by kernel_rfl) (by kernel_rfl) (fun _ _ _ h => h) (Or.inl ⟨by rfl, ?_⟩) hH ?_
            · intro w hSw
              (try dsimp only at hSw)
              go_simp
            (try simp only [Act.put, List.setIfInBounds_toArray, List.set_cons_zero, List.set_cons_succ])
            refine wpAnyH_take (i := 3) (oi := { dst := some 23, op := Go.Op.load 174 (Go.Operand.tmp 22), type := 174, pos := "contact.go:199", after := #[{ on := 2, ground := Go.Ground.data }], guard := none }) (v := (.agg #[.int .i64 xt, .int .i64 xn, .int .i64 xpx, .int .i64 xpy, .int .i64 xvx, .int .i64 xvy, .int .i64 xsp, .bool xo])) rfl (by kernel_rfl) (by kernel_rfl) (by kernel_rfl) (fun _ _ _ h => h) (Or.inl ⟨by rfl, ?_⟩) hH ?_
            · intro w hSw
              (try dsimp only at hSw)
              go_simp
            (try simp only [Act.put, List.setIfInBounds_toArray, List.set_cons_zero, List.set_cons_succ])
            refine wpAnyH_take (i := 4) (oi := { dst := some 24, op := Go.Op.load 121 (Go.Operand.tmp 0), type := 121, pos := "contact.go:199", after := #[], guard := none }) (v := (.slice (some ⟨g, off, none⟩) N cap)) rfl (by kernel_rfl) (by kernel_rfl) (by kernel_rfl) (fun _ _ _ h => h) (Or.inl ⟨by rfl, ?_⟩) hH ?_
            · intro w hSw
              (try dsimp only at hSw)
              go_simp
            (try simp only [Act.put, List.setIfInBounds_toArray, List.set_cons_zero, List.set_cons_succ])
            refine wpAnyH_take (i := 5) (oi := { dst := some 25, op := Go.Op.move (Go.Operand.tmp 6), type := 3, pos := "contact.go:199", after := #[], guard := none }) (v := (.int .i64 (j : Int))) rfl (by kernel_rfl) (by kernel_rfl) (by kernel_rfl) (fun _ _ _ h => h) (Or.inl ⟨by rfl, ?_⟩) hH ?_
            · intro w hSw
              (try dsimp only at hSw)
              go_simp
            (try simp only [Act.put, List.setIfInBounds_toArray, List.set_cons_zero, List.set_cons_succ])
            refine wpAnyH_take (i := 6) (oi := { dst := some 26, op := Go.Op.indexAddr 121 (Go.Operand.tmp 24) (Go.Operand.tmp 25), type := 0, pos := "contact.go:199", after := #[{ on := 4, ground := Go.Ground.data }, { on := 5, ground := Go.Ground.data }], guard := none }) (v := (.pointer (some ⟨g, off + j * 8, none⟩))) rfl (by kernel_rfl) (by kernel_rfl) (by kernel_rfl) (fun _ _ _ h => h) (Or.inl ⟨by rfl, ?_⟩) hH ?_
            · intro w hSw
              (try dsimp only at hSw)
              go_simp
            (try simp only [Act.put, List.setIfInBounds_toArray, List.set_cons_zero, List.set_cons_succ])
            refine wpAnyH_take (i := 7) (oi := { dst := some 27, op := Go.Op.load 174 (Go.Operand.tmp 26), type := 174, pos := "contact.go:199", after := #[{ on := 6, ground := Go.Ground.data }], guard := none }) (v := (.agg #[.int .i64 yt, .int .i64 yn, .int .i64 ypx, .int .i64 ypy, .int .i64 yvx, .int .i64 yvy, .int .i64 ysp, .bool yo])) rfl (by kernel_rfl) (by kernel_rfl) (by kernel_rfl) (fun _ _ _ h => h) (Or.inl ⟨by rfl, ?_⟩) hH ?_
            · intro w hSw
              (try dsimp only at hSw)
              go_simp
            (try simp only [Act.put, List.setIfInBounds_toArray, List.set_cons_zero, List.set_cons_succ])
            refine wpAnyH_ready (rs := [8]) (by kernel_rfl) (by simp) ?_
            refine AllReadyH.cons rfl (fun K hK => ?_) AllReadyH.nil
            (try dsimp only at hH)
            go_simp
            refine (HTC.out _).mono ?_
            rintro e w8 ⟨rfl, hb8⟩
            refine hK.out _ _ (HQ1.out _ (HI0.out.below hb8) (carry HG0.out hb8)) (fun hH1 => ?_)
            clear hK K
            have HI1 := hid (HI0.out.below hb8)
            have HG1 := hid (carry HG0.out hb8)
            clear hb8
            (try simp only [Act.put, List.setIfInBounds_toArray, List.set_cons_zero, List.set_cons_succ])
            refine wpAnyH_take (i := 9) (oi := { dst := some 29, op := Go.Op.move (Go.Operand.tmp 28), type := 4, pos := "contact.go:199", after := #[{ on := 8, ground := Go.Ground.data }, { on := 8, ground := Go.Ground.chain }], guard := none }) (v := (.bool true)) rfl (by kernel_rfl) (by kernel_rfl) (by kernel_rfl) (fun _ _ _ h => h) (Or.inl ⟨by rfl, ?_⟩) hH1 ?_
            · intro w hSw
              (try dsimp only at hSw)
              go_simp
            (try simp only [Act.put, List.setIfInBounds_toArray, List.set_cons_zero, List.set_cons_succ])
            refine wpAnyH_take (i := 10) (oi := { dst := some 30, op := Go.Op.load 121 (Go.Operand.tmp 0), type := 121, pos := "contact.go:199", after := #[{ on := 9, ground := Go.Ground.guard }], guard := some (9, true) }) (v := (.slice (some ⟨g, off, none⟩) N cap)) rfl (by kernel_rfl) (by kernel_rfl) (by kernel_rfl) (fun _ _ _ h => h) (Or.inl ⟨by rfl, ?_⟩) hH1 ?_
            · intro w hSw
              (try dsimp only at hSw)
              go_simp
            (try simp only [Act.put, List.setIfInBounds_toArray, List.set_cons_zero, List.set_cons_succ])
            refine wpAnyH_take (i := 11) (oi := { dst := some 31, op := Go.Op.move (Go.Operand.tmp 5), type := 3, pos := "contact.go:199", after := #[{ on := 9, ground := Go.Ground.guard }], guard := some (9, true) }) (v := (.int .i64 (k : Int))) rfl (by kernel_rfl) (by kernel_rfl) (by kernel_rfl) (fun _ _ _ h => h) (Or.inl ⟨by rfl, ?_⟩) hH1 ?_
            · intro w hSw
              (try dsimp only at hSw)
              go_simp
            (try simp only [Act.put, List.setIfInBounds_toArray, List.set_cons_zero, List.set_cons_succ])
            refine wpAnyH_take (i := 12) (oi := { dst := some 32, op := Go.Op.indexAddr 121 (Go.Operand.tmp 30) (Go.Operand.tmp 31), type := 0, pos := "contact.go:199", after := #[{ on := 10, ground := Go.Ground.data }, { on := 11, ground := Go.Ground.data }, { on := 9, ground := Go.Ground.guard }], guard := some (9, true) }) (v := (.pointer (some ⟨g, off + k * 8, none⟩))) rfl (by kernel_rfl) (by kernel_rfl) (by kernel_rfl) (fun _ _ _ h => h) (Or.inl ⟨by rfl, ?_⟩) hH1 ?_
            · intro w hSw
              (try dsimp only at hSw)
              go_simp
            (try simp only [Act.put, List.setIfInBounds_toArray, List.set_cons_zero, List.set_cons_succ])
            refine wpAnyH_take (i := 13) (oi := { dst := some 33, op := Go.Op.load 121 (Go.Operand.tmp 0), type := 121, pos := "contact.go:199", after := #[{ on := 9, ground := Go.Ground.guard }], guard := some (9, true) }) (v := (.slice (some ⟨g, off, none⟩) N cap)) rfl (by kernel_rfl) (by kernel_rfl) (by kernel_rfl) (fun _ _ _ h => h) (Or.inl ⟨by rfl, ?_⟩) hH1 ?_
            · intro w hSw
              (try dsimp only at hSw)
              go_simp
            (try simp only [Act.put, List.setIfInBounds_toArray, List.set_cons_zero, List.set_cons_succ])
            refine wpAnyH_take (i := 14) (oi := { dst := some 34, op := Go.Op.move (Go.Operand.tmp 6), type := 3, pos := "contact.go:199", after := #[{ on := 9, ground := Go.Ground.guard }], guard := some (9, true) }) (v := (.int .i64 (j : Int))) rfl (by kernel_rfl) (by kernel_rfl) (by kernel_rfl) (fun _ _ _ h => h) (Or.inl ⟨by rfl, ?_⟩) hH1 ?_
            · intro w hSw
              (try dsimp only at hSw)
              go_simp
            (try simp only [Act.put, List.setIfInBounds_toArray, List.set_cons_zero, List.set_cons_succ])
            refine wpAnyH_take (i := 15) (oi := { dst := some 35, op := Go.Op.indexAddr 121 (Go.Operand.tmp 33) (Go.Operand.tmp 34), type := 0, pos := "contact.go:199", after := #[{ on := 13, ground := Go.Ground.data }, { on := 14, ground := Go.Ground.data }, { on := 9, ground := Go.Ground.guard }], guard := some (9, true) }) (v := (.pointer (some ⟨g, off + j * 8, none⟩))) rfl (by kernel_rfl) (by kernel_rfl) (by kernel_rfl) (fun _ _ _ h => h) (Or.inl ⟨by rfl, ?_⟩) hH1 ?_
            · intro w hSw
              (try dsimp only at hSw)
              go_simp
            (try simp only [Act.put, List.setIfInBounds_toArray, List.set_cons_zero, List.set_cons_succ])
            refine wpAnyH_take (i := 16) (oi := { dst := some 36, op := Go.Op.fieldAddr 118 (Go.Operand.tmp 1) 4, type := 0, pos := "contact.go:199", after := #[{ on := 9, ground := Go.Ground.guard }], guard := some (9, true) }) (v := (.pointer (some ⟨br, 14, none⟩))) rfl (by kernel_rfl) (by kernel_rfl) (by kernel_rfl) (fun _ _ _ h => h) (Or.inl ⟨by rfl, ?_⟩) hH1 ?_
            · intro w hSw
              (try dsimp only at hSw)
              go_simp
            (try simp only [Act.put, List.setIfInBounds_toArray, List.set_cons_zero, List.set_cons_succ])
            refine wpAnyH_take (i := 17) (oi := { dst := some 37, op := Go.Op.load 3 (Go.Operand.tmp 36), type := 3, pos := "contact.go:199", after := #[{ on := 16, ground := Go.Ground.data }, { on := 9, ground := Go.Ground.guard }], guard := some (9, true) }) (v := (.int .i64 el)) rfl (by kernel_rfl) (by kernel_rfl) (by kernel_rfl) (fun _ _ _ h => h) (Or.inl ⟨by rfl, ?_⟩) hH1 ?_
            · intro w hSw
              (try dsimp only at hSw)
              go_simp
            (try simp only [Act.put, List.setIfInBounds_toArray, List.set_cons_zero, List.set_cons_succ])
            refine wpAnyH_ready (rs := [18]) (by kernel_rfl) (by simp) ?_
            refine AllReadyH.cons rfl (fun K hK => ?_) AllReadyH.nil
            (try dsimp only at hH1)
            go_simp
            refine (HME.out _ HG1.out).mono ?_
            rintro e w9 ⟨rfl, hc9⟩
            exact ⟨rfl, RoundE.err HNX.out (HI1.out.ch.trans hc9)⟩
          | ok o =>
          cases o with
          | none =>
            have HNX := hid (show innTo el t k q (j + 1 - (k + 1)) = .ok q2 by rw [HPS.out]; rfl)
            clear HPS HMOK HPUT
            refine wp_region_held_drew (S := (fun W => W.cell? ⟨bs, 0, none⟩ = some (.slice (some ⟨g, off, none⟩) N cap) ∧ W.cell? ⟨br, 14, none⟩ = some (.int .i64 el) ∧ W.cell? ⟨g, off + k * 8, none⟩ = some (.int .i64 xt) ∧ W.cell? ⟨g, off + k * 8 + 1, none⟩ = some (.int .i64 xn) ∧ W.cell? ⟨g, off + k * 8 + 2, none⟩ = some (.int .i64 xpx) ∧ W.cell? ⟨g, off + k * 8 + 3, none⟩ = some (.int .i64 xpy) ∧ W.cell? ⟨g, off + k * 8 + 4, none⟩ = some (.int .i64 xvx) ∧ W.cell? ⟨g, off + k * 8 + 5, none⟩ = some (.int .i64 xvy) ∧ W.cell? ⟨g, off + k * 8 + 6, none⟩ = some (.int .i64 xsp) ∧ W.cell? ⟨g, off + k * 8 + 7, none⟩ = some (.bool xo) ∧ W.cell? ⟨g, off + j * 8, none⟩ = some (.int .i64 yt) ∧ W.cell? ⟨g, off + j * 8 + 1, none⟩ = some (.int .i64 yn) ∧ W.cell? ⟨g, off + j * 8 + 2, none⟩ = some (.int .i64 ypx) ∧ W.cell? ⟨g, off + j * 8 + 3, none⟩ = some (.int .i64 ypy) ∧ W.cell? ⟨g, off + j * 8 + 4, none⟩ = some (.int .i64 yvx) ∧ W.cell? ⟨g, off + j * 8 + 5, none⟩ = some (.int .i64 yvy) ∧ W.cell? ⟨g, off + j * 8 + 6, none⟩ = some (.int .i64 ysp) ∧ W.cell? ⟨g, off + j * 8 + 7, none⟩ = some (.bool yo))) (by kernel_rfl) (HQ1.out _ HRI.out.drew HCU.out) (fun hH => ?_)
            obtain ⟨v0, hv0⟩ : ∃ v0, v0 = wi.drew := ⟨_, rfl⟩
            have HI0 := hid (show RInv wB v0 g off N (.slice (some ⟨g, off, none⟩) N cap) rc t bs br bh bt q2 by rw [hv0]; exact HRI.out.drew)
            have HG0 := hid (show v0.heap[g]? = some (.cells cur 174 (0, 0)) by rw [hv0]; exact HCU.out)
            rw [← hv0] at hH ⊢
            clear hv0
            refine wpAnyH_take (i := 0) (oi := { dst := some 20, op := Go.Op.load 121 (Go.Operand.tmp 0), type := 121, pos := "contact.go:199", after := #[], guard := none }) (v := (.slice (some ⟨g, off, none⟩) N cap)) rfl (by kernel_rfl) (by kernel_rfl) (by kernel_rfl) (fun _ _ _ h => h) (Or.inl ⟨by rfl, ?_⟩) hH ?_
            · intro w hSw
              (try dsimp only at hSw)
              go_simp
            (try simp only [Act.put, List.setIfInBounds_toArray, List.set_cons_zero, List.set_cons_succ])
            refine wpAnyH_take (i := 1) (oi := { dst := some 21, op := Go.Op.move (Go.Operand.tmp 5), type := 3, pos := "contact.go:199", after := #[], guard := none }) (v := (.int .i64 (k : Int))) rfl (by kernel_rfl) (by kernel_rfl) (by kernel_rfl) (fun _ _ _ h => h) (Or.inl ⟨by rfl, ?_⟩) hH ?_
            · intro w hSw
              (try dsimp only at hSw)
              go_simp
            (try simp only [Act.put, List.setIfInBounds_toArray, List.set_cons_zero, List.set_cons_succ])
            refine wpAnyH_take (i := 2) (oi := { dst := some 22, op := Go.Op.indexAddr 121 (Go.Operand.tmp 20) (Go.Operand.tmp 21), type := 0, pos := "contact.go:199", after := #[{ on := 0, ground := Go.Ground.data }, { on := 1, ground := Go.Ground.data }], guard := none }) (v := (.pointer (some ⟨g, off + k * 8, none⟩))) rfl (by kernel_rfl) (by kernel_rfl) (by kernel_rfl) (fun _ _ _ h => h) (Or.inl ⟨by rfl, ?_⟩) hH ?_
            · intro w hSw
              (try dsimp only at hSw)
              go_simp
            (try simp only [Act.put, List.setIfInBounds_toArray, List.set_cons_zero, List.set_cons_succ])
            refine wpAnyH_take (i := 3) (oi := { dst := some 23, op := Go.Op.load 174 (Go.Operand.tmp 22), type := 174, pos := "contact.go:199", after := #[{ on := 2, ground := Go.Ground.data }], guard := none }) (v := (.agg #[.int .i64 xt, .int .i64 xn, .int .i64 xpx, .int .i64 xpy, .int .i64 xvx, .int .i64 xvy, .int .i64 xsp, .bool xo])) rfl (by kernel_rfl) (by kernel_rfl) (by kernel_rfl) (fun _ _ _ h => h) (Or.inl ⟨by rfl, ?_⟩) hH ?_
            · intro w hSw
              (try dsimp only at hSw)
              go_simp
            (try simp only [Act.put, List.setIfInBounds_toArray, List.set_cons_zero, List.set_cons_succ])
            refine wpAnyH_take (i := 4) (oi := { dst := some 24, op := Go.Op.load 121 (Go.Operand.tmp 0), type := 121, pos := "contact.go:199", after := #[], guard := none }) (v := (.slice (some ⟨g, off, none⟩) N cap)) rfl (by kernel_rfl) (by kernel_rfl) (by kernel_rfl) (fun _ _ _ h => h) (Or.inl ⟨by rfl, ?_⟩) hH ?_
            · intro w hSw
              (try dsimp only at hSw)
              go_simp
            (try simp only [Act.put, List.setIfInBounds_toArray, List.set_cons_zero, List.set_cons_succ])
            refine wpAnyH_take (i := 5) (oi := { dst := some 25, op := Go.Op.move (Go.Operand.tmp 6), type := 3, pos := "contact.go:199", after := #[], guard := none }) (v := (.int .i64 (j : Int))) rfl (by kernel_rfl) (by kernel_rfl) (by kernel_rfl) (fun _ _ _ h => h) (Or.inl ⟨by rfl, ?_⟩) hH ?_
            · intro w hSw
              (try dsimp only at hSw)
              go_simp
            (try simp only [Act.put, List.setIfInBounds_toArray, List.set_cons_zero, List.set_cons_succ])
            refine wpAnyH_take (i := 6) (oi := { dst := some 26, op := Go.Op.indexAddr 121 (Go.Operand.tmp 24) (Go.Operand.tmp 25), type := 0, pos := "contact.go:199", after := #[{ on := 4, ground := Go.Ground.data }, { on := 5, ground := Go.Ground.data }], guard := none }) (v := (.pointer (some ⟨g, off + j * 8, none⟩))) rfl (by kernel_rfl) (by kernel_rfl) (by kernel_rfl) (fun _ _ _ h => h) (Or.inl ⟨by rfl, ?_⟩) hH ?_
            · intro w hSw
              (try dsimp only at hSw)
              go_simp
            (try simp only [Act.put, List.setIfInBounds_toArray, List.set_cons_zero, List.set_cons_succ])
            refine wpAnyH_take (i := 7) (oi := { dst := some 27, op := Go.Op.load 174 (Go.Operand.tmp 26), type := 174, pos := "contact.go:199", after := #[{ on := 6, ground := Go.Ground.data }], guard := none }) (v := (.agg #[.int .i64 yt, .int .i64 yn, .int .i64 ypx, .int .i64 ypy, .int .i64 yvx, .int .i64 yvy, .int .i64 ysp, .bool yo])) rfl (by kernel_rfl) (by kernel_rfl) (by kernel_rfl) (fun _ _ _ h => h) (Or.inl ⟨by rfl, ?_⟩) hH ?_
            · intro w hSw
              (try dsimp only at hSw)
              go_simp
            (try simp only [Act.put, List.setIfInBounds_toArray, List.set_cons_zero, List.set_cons_succ])
            refine wpAnyH_ready (rs := [8]) (by kernel_rfl) (by simp) ?_
            refine AllReadyH.cons rfl (fun K hK => ?_) AllReadyH.nil
            (try dsimp only at hH)
            go_simp
            refine (HTC.out _).mono ?_
            rintro e w8 ⟨rfl, hb8⟩
            refine hK.out _ _ (HQ1.out _ (HI0.out.below hb8) (carry HG0.out hb8)) (fun hH1 => ?_)
            clear hK K
            have HI1 := hid (HI0.out.below hb8)
            have HG1 := hid (carry HG0.out hb8)
            clear hb8
            (try simp only [Act.put, List.setIfInBounds_toArray, List.set_cons_zero, List.set_cons_succ])
            refine wpAnyH_take (i := 9) (oi := { dst := some 29, op := Go.Op.move (Go.Operand.tmp 28), type := 4, pos := "contact.go:199", after := #[{ on := 8, ground := Go.Ground.data }, { on := 8, ground := Go.Ground.chain }], guard := none }) (v := (.bool true)) rfl (by kernel_rfl) (by kernel_rfl) (by kernel_rfl) (fun _ _ _ h => h) (Or.inl ⟨by rfl, ?_⟩) hH1 ?_
            · intro w hSw
              (try dsimp only at hSw)
              go_simp
            (try simp only [Act.put, List.setIfInBounds_toArray, List.set_cons_zero, List.set_cons_succ])
            refine wpAnyH_take (i := 10) (oi := { dst := some 30, op := Go.Op.load 121 (Go.Operand.tmp 0), type := 121, pos := "contact.go:199", after := #[{ on := 9, ground := Go.Ground.guard }], guard := some (9, true) }) (v := (.slice (some ⟨g, off, none⟩) N cap)) rfl (by kernel_rfl) (by kernel_rfl) (by kernel_rfl) (fun _ _ _ h => h) (Or.inl ⟨by rfl, ?_⟩) hH1 ?_
            · intro w hSw
              (try dsimp only at hSw)
              go_simp
            (try simp only [Act.put, List.setIfInBounds_toArray, List.set_cons_zero, List.set_cons_succ])
            refine wpAnyH_take (i := 11) (oi := { dst := some 31, op := Go.Op.move (Go.Operand.tmp 5), type := 3, pos := "contact.go:199", after := #[{ on := 9, ground := Go.Ground.guard }], guard := some (9, true) }) (v := (.int .i64 (k : Int))) rfl (by kernel_rfl) (by kernel_rfl) (by kernel_rfl) (fun _ _ _ h => h) (Or.inl ⟨by rfl, ?_⟩) hH1 ?_
            · intro w hSw
              (try dsimp only at hSw)
              go_simp
            (try simp only [Act.put, List.setIfInBounds_toArray, List.set_cons_zero, List.set_cons_succ])
            refine wpAnyH_take (i := 12) (oi := { dst := some 32, op := Go.Op.indexAddr 121 (Go.Operand.tmp 30) (Go.Operand.tmp 31), type := 0, pos := "contact.go:199", after := #[{ on := 10, ground := Go.Ground.data }, { on := 11, ground := Go.Ground.data }, { on := 9, ground := Go.Ground.guard }], guard := some (9, true) }) (v := (.pointer (some ⟨g, off + k * 8, none⟩))) rfl (by kernel_rfl) (by kernel_rfl) (by kernel_rfl) (fun _ _ _ h => h) (Or.inl ⟨by rfl, ?_⟩) hH1 ?_
            · intro w hSw
              (try dsimp only at hSw)
              go_simp
            (try simp only [Act.put, List.setIfInBounds_toArray, List.set_cons_zero, List.set_cons_succ])
            refine wpAnyH_take (i := 13) (oi := { dst := some 33, op := Go.Op.load 121 (Go.Operand.tmp 0), type := 121, pos := "contact.go:199", after := #[{ on := 9, ground := Go.Ground.guard }], guard := some (9, true) }) (v := (.slice (some ⟨g, off, none⟩) N cap)) rfl (by kernel_rfl) (by kernel_rfl) (by kernel_rfl) (fun _ _ _ h => h) (Or.inl ⟨by rfl, ?_⟩) hH1 ?_
            · intro w hSw
              (try dsimp only at hSw)
              go_simp
            (try simp only [Act.put, List.setIfInBounds_toArray, List.set_cons_zero, List.set_cons_succ])
            refine wpAnyH_take (i := 14) (oi := { dst := some 34, op := Go.Op.move (Go.Operand.tmp 6), type := 3, pos := "contact.go:199", after := #[{ on := 9, ground := Go.Ground.guard }], guard := some (9, true) }) (v := (.int .i64 (j : Int))) rfl (by kernel_rfl) (by kernel_rfl) (by kernel_rfl) (fun _ _ _ h => h) (Or.inl ⟨by rfl, ?_⟩) hH1 ?_
            · intro w hSw
              (try dsimp only at hSw)
              go_simp
            (try simp only [Act.put, List.setIfInBounds_toArray, List.set_cons_zero, List.set_cons_succ])
            refine wpAnyH_take (i := 15) (oi := { dst := some 35, op := Go.Op.indexAddr 121 (Go.Operand.tmp 33) (Go.Operand.tmp 34), type := 0, pos := "contact.go:199", after := #[{ on := 13, ground := Go.Ground.data }, { on := 14, ground := Go.Ground.data }, { on := 9, ground := Go.Ground.guard }], guard := some (9, true) }) (v := (.pointer (some ⟨g, off + j * 8, none⟩))) rfl (by kernel_rfl) (by kernel_rfl) (by kernel_rfl) (fun _ _ _ h => h) (Or.inl ⟨by rfl, ?_⟩) hH1 ?_
            · intro w hSw
              (try dsimp only at hSw)
              go_simp
            (try simp only [Act.put, List.setIfInBounds_toArray, List.set_cons_zero, List.set_cons_succ])
            refine wpAnyH_take (i := 16) (oi := { dst := some 36, op := Go.Op.fieldAddr 118 (Go.Operand.tmp 1) 4, type := 0, pos := "contact.go:199", after := #[{ on := 9, ground := Go.Ground.guard }], guard := some (9, true) }) (v := (.pointer (some ⟨br, 14, none⟩))) rfl (by kernel_rfl) (by kernel_rfl) (by kernel_rfl) (fun _ _ _ h => h) (Or.inl ⟨by rfl, ?_⟩) hH1 ?_
            · intro w hSw
              (try dsimp only at hSw)
              go_simp
            (try simp only [Act.put, List.setIfInBounds_toArray, List.set_cons_zero, List.set_cons_succ])
            refine wpAnyH_take (i := 17) (oi := { dst := some 37, op := Go.Op.load 3 (Go.Operand.tmp 36), type := 3, pos := "contact.go:199", after := #[{ on := 16, ground := Go.Ground.data }, { on := 9, ground := Go.Ground.guard }], guard := some (9, true) }) (v := (.int .i64 el)) rfl (by kernel_rfl) (by kernel_rfl) (by kernel_rfl) (fun _ _ _ h => h) (Or.inl ⟨by rfl, ?_⟩) hH1 ?_
            · intro w hSw
              (try dsimp only at hSw)
              go_simp
            (try simp only [Act.put, List.setIfInBounds_toArray, List.set_cons_zero, List.set_cons_succ])
            refine wpAnyH_ready (rs := [18]) (by kernel_rfl) (by simp) ?_
            refine AllReadyH.cons rfl (fun K hK => ?_) AllReadyH.nil
            (try dsimp only at hH1)
            go_simp
            refine (HME.out _ HG1.out).mono ?_
            rintro e w9 ⟨rfl, hb9⟩
            refine hK.out _ _ (HQ1.out _ (HI1.out.below hb9) (carry HG1.out hb9)) (fun hH2 => ?_)
            clear hK K
            have HI2 := hid (HI1.out.below hb9)
            clear hb9
            (try simp only [Act.put, List.setIfInBounds_toArray, List.set_cons_zero, List.set_cons_succ])
            refine wpAnyH_take (i := 19) (oi := { dst := some 39, op := Go.Op.pick (Go.Operand.tmp 29) (Go.Operand.tmp 38) (Go.Operand.const (Go.Value.bool false)), type := 4, pos := "contact.go:199", after := #[{ on := 9, ground := Go.Ground.data }, { on := 18, ground := Go.Ground.data }], guard := none }) (v := (.bool false)) rfl (by kernel_rfl) (by kernel_rfl) (by kernel_rfl) (fun _ _ _ h => h) (Or.inl ⟨by rfl, ?_⟩) hH2 ?_
            · intro w hSw
              (try dsimp only at hSw)
              go_simp
            (try simp only [Act.put, List.setIfInBounds_toArray, List.set_cons_zero, List.set_cons_succ])
            refine wpAnyH_done (by kernel_rfl) ?_ _
            go_wp2_with fail
            exact ⟨⟨j + 1, q2, by omega, by omega, by go_num, HNX.out, rfl, HI2.out⟩, by simp only [intOf]; omega⟩
          | some p =>
            obtain ⟨x', y'⟩ := p
            have HNX := hid (show innTo el t k q (j + 1 - (k + 1)) = .ok ⟨(q2.s.set k x').set j y', true, q2.hits ++ [⟨t, k, j⟩]⟩ by rw [HPS.out]; rfl)
            clear HPS HMOK HQ1
            have HQ5 := hid (show ∀ W : World, RInv wB W g off N (.slice (some ⟨g, off, none⟩) N cap) rc t bs br bh bt ⟨(q2.s.set k x').set j y', true, q2.hits⟩ → W.cell? ⟨bs, 0, none⟩ = some (.slice (some ⟨g, off, none⟩) N cap) ∧ W.cell? ⟨br, 14, none⟩ = some (.int .i64 el) from fun W h => h.sees el HEL.out)
            go_cut [39] (fun v wx => v = .bool true ∧ RInv wB wx g off N (.slice (some ⟨g, off, none⟩) N cap) rc t bs br bh bt ⟨(q2.s.set k x').set j y', true, q2.hits⟩)
            case first =>
              refine wp_region_held_drew (S := (fun W => W.cell? ⟨bs, 0, none⟩ = some (.slice (some ⟨g, off, none⟩) N cap) ∧ W.cell? ⟨br, 14, none⟩ = some (.int .i64 el))) (by kernel_rfl) (HQ4.out _ HRI.out.drew HCU.out) (fun hH => ?_)
              obtain ⟨v0, hv0⟩ : ∃ v0, v0 = wi.drew := ⟨_, rfl⟩
              have HI0 := hid (show RInv wB v0 g off N (.slice (some ⟨g, off, none⟩) N cap) rc t bs br bh bt q2 by rw [hv0]; exact HRI.out.drew)
              have HG0 := hid (show v0.heap[g]? = some (.cells cur 174 (0, 0)) by rw [hv0]; exact HCU.out)
              rw [← hv0] at hH ⊢
              clear hv0
              refine wpAnyH_take (i := 0) (oi := { dst := some 20, op := Go.Op.load 121 (Go.Operand.tmp 0), type := 121, pos := "contact.go:199", after := #[], guard := none }) (v := (.slice (some ⟨g, off, none⟩) N cap)) rfl (by kernel_rfl) (by kernel_rfl) (by kernel_rfl) (fun _ _ _ h => h) (Or.inl ⟨by rfl, ?_⟩) hH ?_
              · intro w hSw
                (try dsimp only at hSw)
                go_simp
              (try simp only [Act.put, List.setIfInBounds_toArray, List.set_cons_zero, List.set_cons_succ])
              refine wpAnyH_take (i := 1) (oi := { dst := some 21, op := Go.Op.move (Go.Operand.tmp 5), type := 3, pos := "contact.go:199", after := #[], guard := none }) (v := (.int .i64 (k : Int))) rfl (by kernel_rfl) (by kernel_rfl) (by kernel_rfl) (fun _ _ _ h => h) (Or.inl ⟨by rfl, ?_⟩) hH ?_
              · intro w hSw
                (try dsimp only at hSw)
                go_simp
              (try simp only [Act.put, List.setIfInBounds_toArray, List.set_cons_zero, List.set_cons_succ])
              refine wpAnyH_take (i := 2) (oi := { dst := some 22, op := Go.Op.indexAddr 121 (Go.Operand.tmp 20) (Go.Operand.tmp 21), type := 0, pos := "contact.go:199", after := #[{ on := 0, ground := Go.Ground.data }, { on := 1, ground := Go.Ground.data }], guard := none }) (v := (.pointer (some ⟨g, off + k * 8, none⟩))) rfl (by kernel_rfl) (by kernel_rfl) (by kernel_rfl) (fun _ _ _ h => h) (Or.inl ⟨by rfl, ?_⟩) hH ?_
              · intro w hSw
                (try dsimp only at hSw)
                go_simp
              (try simp only [Act.put, List.setIfInBounds_toArray, List.set_cons_zero, List.set_cons_succ])
              refine wpAnyH_take (i := 4) (oi := { dst := some 24, op := Go.Op.load 121 (Go.Operand.tmp 0), type := 121, pos := "contact.go:199", after := #[], guard := none }) (v := (.slice (some ⟨g, off, none⟩) N cap)) rfl (by kernel_rfl) (by kernel_rfl) (by kernel_rfl) (fun _ _ _ h => h) (Or.inl ⟨by rfl, ?_⟩) hH ?_
              · intro w hSw
                (try dsimp only at hSw)
                go_simp
              (try simp only [Act.put, List.setIfInBounds_toArray, List.set_cons_zero, List.set_cons_succ])
              refine wpAnyH_take (i := 5) (oi := { dst := some 25, op := Go.Op.move (Go.Operand.tmp 6), type := 3, pos := "contact.go:199", after := #[], guard := none }) (v := (.int .i64 (j : Int))) rfl (by kernel_rfl) (by kernel_rfl) (by kernel_rfl) (fun _ _ _ h => h) (Or.inl ⟨by rfl, ?_⟩) hH ?_
              · intro w hSw
                (try dsimp only at hSw)
                go_simp
              (try simp only [Act.put, List.setIfInBounds_toArray, List.set_cons_zero, List.set_cons_succ])
              refine wpAnyH_take (i := 6) (oi := { dst := some 26, op := Go.Op.indexAddr 121 (Go.Operand.tmp 24) (Go.Operand.tmp 25), type := 0, pos := "contact.go:199", after := #[{ on := 4, ground := Go.Ground.data }, { on := 5, ground := Go.Ground.data }], guard := none }) (v := (.pointer (some ⟨g, off + j * 8, none⟩))) rfl (by kernel_rfl) (by kernel_rfl) (by kernel_rfl) (fun _ _ _ h => h) (Or.inl ⟨by rfl, ?_⟩) hH ?_
              · intro w hSw
                (try dsimp only at hSw)
                go_simp
              (try simp only [Act.put, List.setIfInBounds_toArray, List.set_cons_zero, List.set_cons_succ])
              refine wpAnyH_ready (rs := [3, 7]) (by kernel_rfl) (by simp) ?_
              refine AllReadyH.cons rfl (fun K hK => ?_) (AllReadyH.cons rfl (fun K hK => ?_) AllReadyH.nil)
              · skip
                (try dsimp only at hH)
                obtain ⟨z0, z1, z2, z3, z4, z5, z6, z7⟩ := HX0.out _ HG0.out
                go_simp
                refine hK.out _ _ (HQ4.out _ HI0.out HG0.out) (fun hH1 => ?_)
                clear hK K
                clear z0 z1 z2 z3 z4 z5 z6 z7
                (try simp only [Act.put, List.setIfInBounds_toArray, List.set_cons_zero, List.set_cons_succ])
                refine wpAnyH_ready (rs := [7]) (by kernel_rfl) (by simp) ?_
                refine AllReadyH.cons rfl (fun K hK => ?_) AllReadyH.nil
                (try dsimp only at hH1)
                obtain ⟨z0, z1, z2, z3, z4, z5, z6, z7⟩ := HY0.out _ HG0.out
                go_simp
                refine hK.out _ _ (HQ4.out _ HI0.out HG0.out) (fun hH2 => ?_)
                clear hK K
                clear z0 z1 z2 z3 z4 z5 z6 z7
                (try simp only [Act.put, List.setIfInBounds_toArray, List.set_cons_zero, List.set_cons_succ])
                refine wpAnyH_ready (rs := [8]) (by kernel_rfl) (by simp) ?_
                refine AllReadyH.cons rfl (fun K hK => ?_) AllReadyH.nil
                (try dsimp only at hH2)
                go_simp
                refine (HTC.out _).mono ?_
                rintro e w8 ⟨rfl, hb8⟩
                refine hK.out _ _ (HQ4.out _ (HI0.out.below hb8) (carry HG0.out hb8)) (fun hH3 => ?_)
                clear hK K
                have HI1 := hid (HI0.out.below hb8)
                have HG1 := hid (carry HG0.out hb8)
                clear hb8
                (try simp only [Act.put, List.setIfInBounds_toArray, List.set_cons_zero, List.set_cons_succ])
                refine wpAnyH_take (i := 9) (oi := { dst := some 29, op := Go.Op.move (Go.Operand.tmp 28), type := 4, pos := "contact.go:199", after := #[{ on := 8, ground := Go.Ground.data }, { on := 8, ground := Go.Ground.chain }], guard := none }) (v := (.bool true)) rfl (by kernel_rfl) (by kernel_rfl) (by kernel_rfl) (fun _ _ _ h => h) (Or.inl ⟨by rfl, ?_⟩) hH3 ?_
                · intro w hSw
                  (try dsimp only at hSw)
                  go_simp
                (try simp only [Act.put, List.setIfInBounds_toArray, List.set_cons_zero, List.set_cons_succ])
                refine wpAnyH_take (i := 10) (oi := { dst := some 30, op := Go.Op.load 121 (Go.Operand.tmp 0), type := 121, pos := "contact.go:199", after := #[{ on := 9, ground := Go.Ground.guard }], guard := some (9, true) }) (v := (.slice (some ⟨g, off, none⟩) N cap)) rfl (by kernel_rfl) (by kernel_rfl) (by kernel_rfl) (fun _ _ _ h => h) (Or.inl ⟨by rfl, ?_⟩) hH3 ?_
                · intro w hSw
                  (try dsimp only at hSw)
                  go_simp
                (try simp only [Act.put, List.setIfInBounds_toArray, List.set_cons_zero, List.set_cons_succ])
                refine wpAnyH_take (i := 11) (oi := { dst := some 31, op := Go.Op.move (Go.Operand.tmp 5), type := 3, pos := "contact.go:199", after := #[{ on := 9, ground := Go.Ground.guard }], guard := some (9, true) }) (v := (.int .i64 (k : Int))) rfl (by kernel_rfl) (by kernel_rfl) (by kernel_rfl) (fun _ _ _ h => h) (Or.inl ⟨by rfl, ?_⟩) hH3 ?_
                · intro w hSw
                  (try dsimp only at hSw)
                  go_simp
                (try simp only [Act.put, List.setIfInBounds_toArray, List.set_cons_zero, List.set_cons_succ])
                refine wpAnyH_take (i := 12) (oi := { dst := some 32, op := Go.Op.indexAddr 121 (Go.Operand.tmp 30) (Go.Operand.tmp 31), type := 0, pos := "contact.go:199", after := #[{ on := 10, ground := Go.Ground.data }, { on := 11, ground := Go.Ground.data }, { on := 9, ground := Go.Ground.guard }], guard := some (9, true) }) (v := (.pointer (some ⟨g, off + k * 8, none⟩))) rfl (by kernel_rfl) (by kernel_rfl) (by kernel_rfl) (fun _ _ _ h => h) (Or.inl ⟨by rfl, ?_⟩) hH3 ?_
                · intro w hSw
                  (try dsimp only at hSw)
                  go_simp
                (try simp only [Act.put, List.setIfInBounds_toArray, List.set_cons_zero, List.set_cons_succ])
                refine wpAnyH_take (i := 13) (oi := { dst := some 33, op := Go.Op.load 121 (Go.Operand.tmp 0), type := 121, pos := "contact.go:199", after := #[{ on := 9, ground := Go.Ground.guard }], guard := some (9, true) }) (v := (.slice (some ⟨g, off, none⟩) N cap)) rfl (by kernel_rfl) (by kernel_rfl) (by kernel_rfl) (fun _ _ _ h => h) (Or.inl ⟨by rfl, ?_⟩) hH3 ?_
                · intro w hSw
                  (try dsimp only at hSw)
                  go_simp
                (try simp only [Act.put, List.setIfInBounds_toArray, List.set_cons_zero, List.set_cons_succ])
                refine wpAnyH_take (i := 14) (oi := { dst := some 34, op := Go.Op.move (Go.Operand.tmp 6), type := 3, pos := "contact.go:199", after := #[{ on := 9, ground := Go.Ground.guard }], guard := some (9, true) }) (v := (.int .i64 (j : Int))) rfl (by kernel_rfl) (by kernel_rfl) (by kernel_rfl) (fun _ _ _ h => h) (Or.inl ⟨by rfl, ?_⟩) hH3 ?_
                · intro w hSw
                  (try dsimp only at hSw)
                  go_simp
                (try simp only [Act.put, List.setIfInBounds_toArray, List.set_cons_zero, List.set_cons_succ])
                refine wpAnyH_take (i := 15) (oi := { dst := some 35, op := Go.Op.indexAddr 121 (Go.Operand.tmp 33) (Go.Operand.tmp 34), type := 0, pos := "contact.go:199", after := #[{ on := 13, ground := Go.Ground.data }, { on := 14, ground := Go.Ground.data }, { on := 9, ground := Go.Ground.guard }], guard := some (9, true) }) (v := (.pointer (some ⟨g, off + j * 8, none⟩))) rfl (by kernel_rfl) (by kernel_rfl) (by kernel_rfl) (fun _ _ _ h => h) (Or.inl ⟨by rfl, ?_⟩) hH3 ?_
                · intro w hSw
                  (try dsimp only at hSw)
                  go_simp
                (try simp only [Act.put, List.setIfInBounds_toArray, List.set_cons_zero, List.set_cons_succ])
                refine wpAnyH_take (i := 16) (oi := { dst := some 36, op := Go.Op.fieldAddr 118 (Go.Operand.tmp 1) 4, type := 0, pos := "contact.go:199", after := #[{ on := 9, ground := Go.Ground.guard }], guard := some (9, true) }) (v := (.pointer (some ⟨br, 14, none⟩))) rfl (by kernel_rfl) (by kernel_rfl) (by kernel_rfl) (fun _ _ _ h => h) (Or.inl ⟨by rfl, ?_⟩) hH3 ?_
                · intro w hSw
                  (try dsimp only at hSw)
                  go_simp
                (try simp only [Act.put, List.setIfInBounds_toArray, List.set_cons_zero, List.set_cons_succ])
                refine wpAnyH_take (i := 17) (oi := { dst := some 37, op := Go.Op.load 3 (Go.Operand.tmp 36), type := 3, pos := "contact.go:199", after := #[{ on := 16, ground := Go.Ground.data }, { on := 9, ground := Go.Ground.guard }], guard := some (9, true) }) (v := (.int .i64 el)) rfl (by kernel_rfl) (by kernel_rfl) (by kernel_rfl) (fun _ _ _ h => h) (Or.inl ⟨by rfl, ?_⟩) hH3 ?_
                · intro w hSw
                  (try dsimp only at hSw)
                  go_simp
                (try simp only [Act.put, List.setIfInBounds_toArray, List.set_cons_zero, List.set_cons_succ])
                refine wpAnyH_ready (rs := [18]) (by kernel_rfl) (by simp) ?_
                refine AllReadyH.cons rfl (fun K hK => ?_) AllReadyH.nil
                (try dsimp only at hH3)
                go_simp
                refine (HME.out _ HG1.out).mono ?_
                rintro e w9 ⟨rfl, hc9, cur9, hcu9, hs9, ra9, rb9, ho9⟩
                refine hK.out _ _ (HQ5.out _ (HPUT.out _ _ _ _ _ HI1.out HG1.out hc9 hcu9 ra9 rb9 ho9)) (fun hH4 => ?_)
                clear hK K
                have HI2 := hid (HPUT.out _ _ _ _ _ HI1.out HG1.out hc9 hcu9 ra9 rb9 ho9)
                clear hc9 hcu9 hs9 ra9 rb9 ho9
                (try simp only [Act.put, List.setIfInBounds_toArray, List.set_cons_zero, List.set_cons_succ])
                refine wpAnyH_take (i := 19) (oi := { dst := some 39, op := Go.Op.pick (Go.Operand.tmp 29) (Go.Operand.tmp 38) (Go.Operand.const (Go.Value.bool false)), type := 4, pos := "contact.go:199", after := #[{ on := 9, ground := Go.Ground.data }, { on := 18, ground := Go.Ground.data }], guard := none }) (v := (.bool true)) rfl (by kernel_rfl) (by kernel_rfl) (by kernel_rfl) (fun _ _ _ h => h) (Or.inl ⟨by rfl, ?_⟩) hH4 ?_
                · intro w hSw
                  (try dsimp only at hSw)
                  go_simp
                (try simp only [Act.put, List.setIfInBounds_toArray, List.set_cons_zero, List.set_cons_succ])
                refine wpAnyH_done (by kernel_rfl) ?_ _
                go_wp2_with fail
                go_meet
                exact ⟨rfl, HI2.out⟩
              · skip
                (try dsimp only at hH)
                obtain ⟨z0, z1, z2, z3, z4, z5, z6, z7⟩ := HY0.out _ HG0.out
                go_simp
                refine hK.out _ _ (HQ4.out _ HI0.out HG0.out) (fun hH5 => ?_)
                clear hK K
                clear z0 z1 z2 z3 z4 z5 z6 z7
                (try simp only [Act.put, List.setIfInBounds_toArray, List.set_cons_zero, List.set_cons_succ])
                refine wpAnyH_ready (rs := [3]) (by kernel_rfl) (by simp) ?_
                refine AllReadyH.cons rfl (fun K hK => ?_) AllReadyH.nil
                (try dsimp only at hH5)
                obtain ⟨z0, z1, z2, z3, z4, z5, z6, z7⟩ := HX0.out _ HG0.out
                go_simp
                refine hK.out _ _ (HQ4.out _ HI0.out HG0.out) (fun hH6 => ?_)
                clear hK K
                clear z0 z1 z2 z3 z4 z5 z6 z7
                (try simp only [Act.put, List.setIfInBounds_toArray, List.set_cons_zero, List.set_cons_succ])
                refine wpAnyH_ready (rs := [8]) (by kernel_rfl) (by simp) ?_
                refine AllReadyH.cons rfl (fun K hK => ?_) AllReadyH.nil
                (try dsimp only at hH6)
                go_simp
                refine (HTC.out _).mono ?_
                rintro e w8 ⟨rfl, hb8⟩
                refine hK.out _ _ (HQ4.out _ (HI0.out.below hb8) (carry HG0.out hb8)) (fun hH7 => ?_)
                clear hK K
                have HI1 := hid (HI0.out.below hb8)
                have HG1 := hid (carry HG0.out hb8)
                clear hb8
                (try simp only [Act.put, List.setIfInBounds_toArray, List.set_cons_zero, List.set_cons_succ])
                refine wpAnyH_take (i := 9) (oi := { dst := some 29, op := Go.Op.move (Go.Operand.tmp 28), type := 4, pos := "contact.go:199", after := #[{ on := 8, ground := Go.Ground.data }, { on := 8, ground := Go.Ground.chain }], guard := none }) (v := (.bool true)) rfl (by kernel_rfl) (by kernel_rfl) (by kernel_rfl) (fun _ _ _ h => h) (Or.inl ⟨by rfl, ?_⟩) hH7 ?_
                · intro w hSw
                  (try dsimp only at hSw)
                  go_simp
                (try simp only [Act.put, List.setIfInBounds_toArray, List.set_cons_zero, List.set_cons_succ])
                refine wpAnyH_take (i := 10) (oi := { dst := some 30, op := Go.Op.load 121 (Go.Operand.tmp 0), type := 121, pos := "contact.go:199", after := #[{ on := 9, ground := Go.Ground.guard }], guard := some (9, true) }) (v := (.slice (some ⟨g, off, none⟩) N cap)) rfl (by kernel_rfl) (by kernel_rfl) (by kernel_rfl) (fun _ _ _ h => h) (Or.inl ⟨by rfl, ?_⟩) hH7 ?_
                · intro w hSw
                  (try dsimp only at hSw)
                  go_simp
                (try simp only [Act.put, List.setIfInBounds_toArray, List.set_cons_zero, List.set_cons_succ])
                refine wpAnyH_take (i := 11) (oi := { dst := some 31, op := Go.Op.move (Go.Operand.tmp 5), type := 3, pos := "contact.go:199", after := #[{ on := 9, ground := Go.Ground.guard }], guard := some (9, true) }) (v := (.int .i64 (k : Int))) rfl (by kernel_rfl) (by kernel_rfl) (by kernel_rfl) (fun _ _ _ h => h) (Or.inl ⟨by rfl, ?_⟩) hH7 ?_
                · intro w hSw
                  (try dsimp only at hSw)
                  go_simp
                (try simp only [Act.put, List.setIfInBounds_toArray, List.set_cons_zero, List.set_cons_succ])
                refine wpAnyH_take (i := 12) (oi := { dst := some 32, op := Go.Op.indexAddr 121 (Go.Operand.tmp 30) (Go.Operand.tmp 31), type := 0, pos := "contact.go:199", after := #[{ on := 10, ground := Go.Ground.data }, { on := 11, ground := Go.Ground.data }, { on := 9, ground := Go.Ground.guard }], guard := some (9, true) }) (v := (.pointer (some ⟨g, off + k * 8, none⟩))) rfl (by kernel_rfl) (by kernel_rfl) (by kernel_rfl) (fun _ _ _ h => h) (Or.inl ⟨by rfl, ?_⟩) hH7 ?_
                · intro w hSw
                  (try dsimp only at hSw)
                  go_simp
                (try simp only [Act.put, List.setIfInBounds_toArray, List.set_cons_zero, List.set_cons_succ])
                refine wpAnyH_take (i := 13) (oi := { dst := some 33, op := Go.Op.load 121 (Go.Operand.tmp 0), type := 121, pos := "contact.go:199", after := #[{ on := 9, ground := Go.Ground.guard }], guard := some (9, true) }) (v := (.slice (some ⟨g, off, none⟩) N cap)) rfl (by kernel_rfl) (by kernel_rfl) (by kernel_rfl) (fun _ _ _ h => h) (Or.inl ⟨by rfl, ?_⟩) hH7 ?_
                · intro w hSw
                  (try dsimp only at hSw)
                  go_simp
                (try simp only [Act.put, List.setIfInBounds_toArray, List.set_cons_zero, List.set_cons_succ])
                refine wpAnyH_take (i := 14) (oi := { dst := some 34, op := Go.Op.move (Go.Operand.tmp 6), type := 3, pos := "contact.go:199", after := #[{ on := 9, ground := Go.Ground.guard }], guard := some (9, true) }) (v := (.int .i64 (j : Int))) rfl (by kernel_rfl) (by kernel_rfl) (by kernel_rfl) (fun _ _ _ h => h) (Or.inl ⟨by rfl, ?_⟩) hH7 ?_
                · intro w hSw
                  (try dsimp only at hSw)
                  go_simp
                (try simp only [Act.put, List.setIfInBounds_toArray, List.set_cons_zero, List.set_cons_succ])
                refine wpAnyH_take (i := 15) (oi := { dst := some 35, op := Go.Op.indexAddr 121 (Go.Operand.tmp 33) (Go.Operand.tmp 34), type := 0, pos := "contact.go:199", after := #[{ on := 13, ground := Go.Ground.data }, { on := 14, ground := Go.Ground.data }, { on := 9, ground := Go.Ground.guard }], guard := some (9, true) }) (v := (.pointer (some ⟨g, off + j * 8, none⟩))) rfl (by kernel_rfl) (by kernel_rfl) (by kernel_rfl) (fun _ _ _ h => h) (Or.inl ⟨by rfl, ?_⟩) hH7 ?_
                · intro w hSw
                  (try dsimp only at hSw)
                  go_simp
                (try simp only [Act.put, List.setIfInBounds_toArray, List.set_cons_zero, List.set_cons_succ])
                refine wpAnyH_take (i := 16) (oi := { dst := some 36, op := Go.Op.fieldAddr 118 (Go.Operand.tmp 1) 4, type := 0, pos := "contact.go:199", after := #[{ on := 9, ground := Go.Ground.guard }], guard := some (9, true) }) (v := (.pointer (some ⟨br, 14, none⟩))) rfl (by kernel_rfl) (by kernel_rfl) (by kernel_rfl) (fun _ _ _ h => h) (Or.inl ⟨by rfl, ?_⟩) hH7 ?_
                · intro w hSw
                  (try dsimp only at hSw)
                  go_simp
                (try simp only [Act.put, List.setIfInBounds_toArray, List.set_cons_zero, List.set_cons_succ])
                refine wpAnyH_take (i := 17) (oi := { dst := some 37, op := Go.Op.load 3 (Go.Operand.tmp 36), type := 3, pos := "contact.go:199", after := #[{ on := 16, ground := Go.Ground.data }, { on := 9, ground := Go.Ground.guard }], guard := some (9, true) }) (v := (.int .i64 el)) rfl (by kernel_rfl) (by kernel_rfl) (by kernel_rfl) (fun _ _ _ h => h) (Or.inl ⟨by rfl, ?_⟩) hH7 ?_
                · intro w hSw
                  (try dsimp only at hSw)
                  go_simp
                (try simp only [Act.put, List.setIfInBounds_toArray, List.set_cons_zero, List.set_cons_succ])
                refine wpAnyH_ready (rs := [18]) (by kernel_rfl) (by simp) ?_
                refine AllReadyH.cons rfl (fun K hK => ?_) AllReadyH.nil
                (try dsimp only at hH7)
                go_simp
                refine (HME.out _ HG1.out).mono ?_
                rintro e w9 ⟨rfl, hc9, cur9, hcu9, hs9, ra9, rb9, ho9⟩
                refine hK.out _ _ (HQ5.out _ (HPUT.out _ _ _ _ _ HI1.out HG1.out hc9 hcu9 ra9 rb9 ho9)) (fun hH8 => ?_)
                clear hK K
                have HI2 := hid (HPUT.out _ _ _ _ _ HI1.out HG1.out hc9 hcu9 ra9 rb9 ho9)
                clear hc9 hcu9 hs9 ra9 rb9 ho9
                (try simp only [Act.put, List.setIfInBounds_toArray, List.set_cons_zero, List.set_cons_succ])
                refine wpAnyH_take (i := 19) (oi := { dst := some 39, op := Go.Op.pick (Go.Operand.tmp 29) (Go.Operand.tmp 38) (Go.Operand.const (Go.Value.bool false)), type := 4, pos := "contact.go:199", after := #[{ on := 9, ground := Go.Ground.data }, { on := 18, ground := Go.Ground.data }], guard := none }) (v := (.bool true)) rfl (by kernel_rfl) (by kernel_rfl) (by kernel_rfl) (fun _ _ _ h => h) (Or.inl ⟨by rfl, ?_⟩) hH8 ?_
                · intro w hSw
                  (try dsimp only at hSw)
                  go_simp
                (try simp only [Act.put, List.setIfInBounds_toArray, List.set_cons_zero, List.set_cons_succ])
                refine wpAnyH_done (by kernel_rfl) ?_ _
                go_wp2_with fail
                go_meet
                exact ⟨rfl, HI2.out⟩
            case rest =>
              obtain ⟨rfl, hri⟩ := hcut
              obtain ⟨wx, rfl⟩ := hri.name
              obtain ⟨v, hv, hrow⟩ := hri.h0
              have HI := hid hri
              have HV := hid hv
              have HROW := hid hrow
              have ct := cellN (i := 0) (v := .int .i64 t) hri.t0 rfl
              have c0 := cellN (i := 0) (v := v) hv rfl
              clear hri hv
              dsimp only at hrow
              obtain ⟨i0, hinf, hz0, hz1, hz2⟩ := info_parts info86
              have hmade := made_hit wx wB.heap.size t k j HI.out.ch.1.size
              have hsz := HI.out.ch.1.size
              have hhb := HHB.out
              go_wp2_with (at_builtin; refine wpList_append_lies _ rfl _ _ 75 rfl wB.heap.size 86 i0 (.agg #[.int .i64 0, .int .i64 0, .int .i64 0]) 3 24 Tryz.underlying75 hinf hz0 hz1 hz2 rfl (by decide) v q2.hits.length (q2.hits.flatMap HitD.cells) rfl (hrow.alloc _) ⟨wx.heap.size, 0, none⟩ 1 1 [.int .i64 t, .int .i64 k, .int .i64 j] rfl rfl (hmade.cells rfl) (by intro u hu; simp at hu; rcases hu with rfl | rfl | rfl <;> rfl) (by omega) (by unfold maxLen; omega) (by omega) (by simp; omega) (wx.heap.size + 1) (by simp) ?_; intro g5 cap5 w5 hown5 hgrow5 hat5 hlt5; have hv5 := grown_keep HROW.out hgrow5 HV.out (by decide); have c5 := cellN (i := 0) (v := v) hv5 rfl; have f5 := frozN (i := 0) hv5)
              have hfin := HI.out.hit HBH.out HV.out HROW.out hgrow5 (x := ⟨t, k, j⟩) hown5 (by obtain ⟨c, h1, _⟩ := HI.out.sc.2 (by omega); exact ⟨c, h1⟩)
              exact ⟨⟨j + 1, _, by omega, by omega, by go_num, HNX.out, rfl, hfin⟩, by simp only [intOf]; omega⟩
        · obtain rfl : j = N := by omega
          have HNX := hid (HFI.out k q q2 HQF.out HIN.out)
          obtain ⟨hbx, -⟩ := HRI.out.sees el HEL.out
          go_wp2_with fail
          exact ⟨⟨k + 1, q2, hlt, by go_num, HNX.out, rfl, HRI.out⟩, by simp only [intOf]; omega⟩
    · obtain rfl : k = N := by omega
      have HLA := hid (HFN.out q HQF.out)
      go_wp2_with fail
      go_ret
      exact RoundE.fine HLA.out rfl HRO.out
end Go.Proofs.YtolnhicngepnnaaGreat
