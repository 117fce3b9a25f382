/- How a law's walk becomes its row: what the arguments read as, and that they read so again. No statement of the seat is proved in this text. -/
import Derived.Test.YtofoamkiidkbkaaMap
import Derived.Test.YtofoamkiidkbkaaProg
import Derived.WalkKit
import Derived.ProofKit
import Derived.OpenShut
import Derived.JoinedCond
import Derived.JoinedOf
import Derived.JoinedAt
import Derived.ReadAgain
import Derived.ChangeStays
set_option linter.unusedSimpArgs false
set_option linter.unusedVariables false
set_option linter.unusedSectionVars false
set_option linter.unnecessarySimpa false
namespace Go.Lk
open Go.ChangeShapes Go.WideShapes Go.ChangeAt Go.RowKit

theorem ex_kept {W W' : World} (hx : Ex W W') (may : MemPlace → Prop) : W.keptBut W' may := by
  refine ⟨hx.os, hx.output, fun i hi => ?_⟩
  rw [hx.block i hi (fun h => h)]
  cases W.heap[i]? with
  | none => rfl
  | some o => cases o <;> first | rfl | exact ⟨rfl, rfl, rfl, fun _ _ => rfl⟩ | exact .inr ⟨rfl, rfl⟩

section
variable {H : Type} {enc : TypeId × Value → H} {P : Program} {T : TypeId → Prop}

/-- what is read again behind a call that only laid new blocks -/
theorem args_stay {W W' : World} (K : Kids P T) (hz : ∀ t e, T t → P.underlying t = some (.slice e) → 0 < P.cellsOf e) (hx : Ex W W') {sp : Nat → Bool} :
    ∀ {ts : List TypeId} {vs : List Value} {ds : List (DataW H)} {ps : List MemPlace}, (∀ t ∈ ts, T t) → (∀ p ∈ ps, p.block < W.heap.size) → (∀ p ∈ ps, sp p.block = true) →
      DataW.TrodAll enc P W 0 (fun _ => true) true ts vs ds ps → DataW.TrodAll enc P W' 0 sp true ts vs ds ps
  | [], [], [], _, _, _, _, h => h
  | t :: ts, v :: vs, d :: ds, _, hT, hlt, hsp, ⟨p, q, ⟨n, h1⟩, h2, e⟩ => by
    subst e
    refine ⟨p, q, ⟨n, DataW.trod_stays K (fun ht he => hz _ _ ht he) (fun h => by cases h) (hT t (by simp)) h1 (fun x hx' => ?_) (fun x hx' => hsp x (by simp [hx']))⟩,
      args_stay K hz hx (fun t ht => hT t (by simp [ht])) (fun x hx' => hlt x (by simp [hx'])) (fun x hx' => hsp x (by simp [hx'])) h2, rfl⟩
    have hb := hlt x (by simp [hx'])
    cases x with
    | cell b off =>
      show W'.cell? ⟨b, off, none⟩ = W.cell? ⟨b, off, none⟩
      unfold World.cell?
      rw [hx.block b hb (fun h => h)]
    | map b => exact hx.block b hb (fun h => h)

/-- the row's post-condition, of a law that returned true and only laid new blocks -/
theorem law_post {f : Func} {s : ChangeSpec} {W W' : World} {args : Array Value} {ds gs : List (DataW H)} {before : List MemPlace} {t : TypeId} (K : Kids P T) (hz : ∀ t e, T t → P.underlying t = some (.slice e) → 0 < P.cellsOf e) (hT : ∀ t ∈ f.params.toList, T t)
    (hW : DataW.Whole enc P f.params.toList s.vars false W args.toList ds gs before) (hx : Ex W W') (hs : s.vars = []) (hres : f.resultTypes = #[t]) (ht : P.underlying t = some .bool)
    (hfn : s.fn H (ds ++ gs) = { results := [.lit (.bool true)], args := ds }) : s.post enc P f false true false false W args (.bool true) W' := by
  have hW' := hW
  obtain ⟨p, q, hA, hV, rfl, _, _⟩ := hW
  rw [hs] at hV
  obtain ⟨rfl, rfl⟩ := trodVars_none hV
  have hlt := hW'.lt
  simp only [List.append_nil] at hW' hlt hfn
  refine ⟨ds, [], p, [], p, [], by rw [hs] at hW' ⊢; exact hW', ?_, ?_, ?_, ?_, fun h => by cases h⟩
  · rw [List.append_nil, hfn, hres]
    exact trodAll_mk1 (shut_bool ht true)
  · rw [List.append_nil, hfn]
    exact args_stay K hz hx hT hlt (fun x hx' => by simpa using hlt x hx') hA
  · rw [List.append_nil, hfn, hs]
    rfl
  · exact ex_kept hx _

/-! ### what arguments read as -/
theorem cells_one {W : World} {x : Addr} {cs : List Value} (h : W.cells? 0 x 1 = some cs) : ∃ c, cs = [c] ∧ W.cell? x = some c := by
  have e0 : x.add 0 = x := by simp [Addr.add]
  simp [World.cells?, List.range_succ, e0] at h
  cases hc : W.cell? x with
  | none => simp [hc] at h
  | some c =>
    simp [hc] at h
    exact ⟨c, h.symm, rfl⟩

theorem trod_u8 {t : TypeId} {w : World} {sp : Nat → Bool} {n : Nat} {c : Value} {x : DataW H × List MemPlace} (ht : P.underlying t = some (.int .u8)) (h : DataW.trod enc P w 0 sp true n t [c] = some x) : ∃ b : UInt8, c = w8 b := by
  cases n with
  | zero => simp [DataW.trod] at h
  | succ n =>
    unfold DataW.trod at h
    rw [ht] at h
    cases c <;> simp at h
    rename_i k z
    obtain ⟨⟨rfl, hw⟩, _⟩ := h
    have : 0 ≤ z ∧ z ≤ 255 := by simpa [Lit.wf, IntKind.min, IntKind.max, IntKind.signed, IntKind.bits] using hw
    refine ⟨UInt8.ofNat z.toNat, ?_⟩
    simp only [w8]
    congr 1
    rw [UInt8.toNat_ofNat']
    omega

theorem list_of {α : Type} {p : Nat → α → Prop} : ∀ n : Nat, (∀ i, i < n → ∃ a, p i a) → ∃ l : List α, l.length = n ∧ ∀ i (h : i < l.length), p i l[i]
  | 0, _ => ⟨[], rfl, fun i h => by simp at h⟩
  | n + 1, h => by
    obtain ⟨l, hl, hp⟩ := list_of n (fun i hi => h i (by omega))
    obtain ⟨a, ha⟩ := h n (by omega)
    refine ⟨l ++ [a], by simp [hl], fun i hi => ?_⟩
    by_cases hin : i < l.length
    · rw [List.getElem_append_left hin]; exact hp i hin
    · have : i = n := by simp [hl] at hi; omega
      subst this
      rw [List.getElem_append_right (by omega)]
      simpa [hl] using ha

/-- a slice whose cells are known reads so -/
theorem Rd.of_cells {w : World} {a : Option Addr} {n c sz : Nat} {xs : List Value} (hc : n ≤ c) (hl : xs.length = n * sz) (ha : 0 < n * sz → ∃ ad, a = some ad ∧ ∀ i (h : i < xs.length), w.cell? (ad.add i) = some xs[i]) (hsz : 0 < sz) : Rd w.heap sz (.slice a n c) n xs := by
  refine ⟨a, c, rfl, hc, hl, fun hn => ?_⟩
  obtain ⟨⟨b, o, spot⟩, rfl, hcell⟩ := ha (Nat.mul_pos hn hsz)
  have h0 := hcell 0 (by rw [hl]; exact Nat.mul_pos hn hsz)
  have hsp : spot = none := by simpa [Addr.add] using World.cell?_spot h0
  subst hsp
  have hblk : ∃ cs E fr, w.heap[b]? = some (.cells cs E fr) := by
    rw [add_addr] at h0
    unfold World.cell? at h0
    cases hb : w.heap[b]? with
    | none => simp [hb] at h0
    | some ob => cases ob <;> simp [hb] at h0; exact ⟨_, _, _, rfl⟩
  obtain ⟨cs, E, fr, hb⟩ := hblk
  refine ⟨b, o, rfl, cs, E, fr, hb, fun i hi => ?_⟩
  have h1 := hcell i (by rw [hl]; exact hi)
  rw [add_addr] at h1
  unfold World.cell? at h1
  rw [hb] at h1
  simp at h1
  rw [h1, List.getElem?_eq_getElem]

theorem trod_bytes {t et : TypeId} {w : World} {v : Value} {d : DataW H} {ps : List MemPlace} {sp : Nat → Bool} (ht : P.underlying t = some (.slice et)) (he : P.underlying et = some (.int .u8)) (hc : P.cellsOf et = 1) (hv : ∃ a n c, v = .slice a n c)
    (h : DataW.Trod enc P w 0 sp true t v d ps) : ∃ l : List UInt8, Bs w.heap v l := by
  obtain ⟨a0, n0, c0, rfl⟩ := hv
  obtain ⟨fuel, hf⟩ := h
  rcases DataW.trod_slice ht hf with ⟨hcs, _⟩ | ⟨a, len, cap, elems, rest, n, rfl, hcs, hx, _, hl, hm, hlen, hel, _, _⟩
  · simp [Value.cells] at hcs
    obtain ⟨rfl, rfl, rfl⟩ := hcs
    exact ⟨[], Bs.nil _⟩
  · simp [Value.cells] at hcs
    obtain ⟨rfl, rfl, rfl⟩ := hcs
    obtain ⟨l, hll, hp⟩ := list_of (p := fun i (b : UInt8) => w.cell? (a.add i) = some (w8 b)) n0 (fun i hi => by
      have h := hel i hi
      rw [hc, Nat.mul_one, List.getElem?_eq_getElem (by omega)] at h
      obtain ⟨cs, h1, h2⟩ := Option.bind_eq_some_iff.1 h
      obtain ⟨c, rfl, h3⟩ := cells_one h1
      obtain ⟨b, rfl⟩ := trod_u8 he h2
      exact ⟨b, h3⟩)
    refine ⟨l, ?_⟩
    unfold Bs
    rw [hll]
    refine Rd.of_cells hl (by simp [hll]) (fun _ => ⟨a, rfl, fun i hi => ?_⟩) (by omega)
    simp only [List.getElem_map]
    exact hp i (by simpa using hi)

theorem okWide_array {w : World} {r : Reach} {b0 : Nat} {t e : TypeId} {n : Nat} {v : Value} (ht : P.underlying t = some (.array n e)) (h : Value.okWide P w r b0 t v) : ∃ cs, v = .agg cs ∧ cs.size = P.cellsOf t := by
  simp only [Value.okWide, ht] at h
  obtain ⟨cs, h1, h2, _⟩ := h
  exact ⟨cs, h1, h2⟩

/-- an array of bytes -/
theorem trod_key {t et : TypeId} {w : World} {cs : Array Value} {N : Nat} {d : DataW H} {ps : List MemPlace} {sp : Nat → Bool} (ht : P.underlying t = some (.array N et)) (he : P.underlying et = some (.int .u8)) (hc : P.cellsOf et = 1) (hN : P.cellsOf t = N) (hv : cs.size = P.cellsOf t)
    (h : DataW.Trod enc P w 0 sp true t (.agg cs) d ps) : ∃ l : List UInt8, l.length = N ∧ cs = (l.map w8).toArray := by
  obtain ⟨fuel, hf⟩ := h
  obtain ⟨xs, m, rfl, _, _, hxs, hel⟩ := DataW.trod_array ht hf
  have hcs : cs.size = N := by omega
  obtain ⟨l, hl, hp⟩ := list_of (p := fun i (b : UInt8) => cs[i]? = some (w8 b)) N (fun i hi => by
    have h := hel i hi
    rw [hc, Nat.mul_one] at h
    have e : (List.drop i (Value.cells (.agg cs)).toList).take 1 = [cs[i]] := by
      rw [List.drop_eq_getElem_cons (by simp [Value.cells]; omega)]
      simp [Value.cells]
    first | rw [e] at h | (simp only [Value.cells] at h e; rw [e] at h)
    rw [List.getElem?_eq_getElem (by omega)] at h
    obtain ⟨b, hb⟩ := trod_u8 he h
    exact ⟨b, by rw [Array.getElem?_eq_getElem (by omega), hb]⟩)
  refine ⟨l, hl, ?_⟩
  apply Array.ext
  · simp; omega
  · intro i h1 h2
    have := hp i (by omega)
    rw [Array.getElem?_eq_getElem h1] at this
    simpa using this
end
end Go.Lk
