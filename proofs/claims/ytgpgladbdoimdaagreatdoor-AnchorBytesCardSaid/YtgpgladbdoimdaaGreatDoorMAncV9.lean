/- Texts that belong together. -/
import Derived.Test.YtgpgladbdoimdaaGreatDoorMAncV8
import Derived.Shelf.Unicode.ValidAny
import Derived.Shelf.Utf8.RuneCount
import Derived.Lib.RuneCountTail
import Derived.Laws.Cover4
import Derived.Test.YtgpgladbdoimdaaGreatDoorRows
import Derived.Carry
section
namespace Go.Proofs.YtgpgladbdoimdaaGreatDoor
open Go.RowKit Go.Ev
def Tabs (m : World) (M : List Nat) : Prop := Lib.Utf8Tabs (Tryz.valid_ren.g 3) (Tryz.valid_ren.g 4) m ∧ Tryz.valid_ren.g 3 ∉ M ∧ Tryz.valid_ren.g 4 ∉ M ∧ m.drawn = 0
theorem Tabs.keep {m m' : World} {M M' N : List Nat} (h : Tabs m M) (hE : Ext m N m') (hN : ∀ k ∈ N, k < m.heap.size → k ∈ M) (hM : ∀ k ∈ M', k ∈ M ∨ m.heap.size ≤ k) : Tabs m' M' := by
  obtain ⟨⟨h1, h2⟩, h3, h4, h5⟩ := h
  have l3 : Tryz.valid_ren.g 3 < m.heap.size := World.block_lt_of_cell? m _ (h1 0 (by omega))
  have l4 : Tryz.valid_ren.g 4 < m.heap.size := World.block_lt_of_cell? m _ (h2 0 (by omega)).1
  have n3 : Tryz.valid_ren.g 3 ∉ N := fun hh => h3 (hN _ hh l3)
  have n4 : Tryz.valid_ren.g 4 ∉ N := fun hh => h4 (hN _ hh l4)
  refine ⟨⟨fun c hc => hE.cell n3 (h1 c hc), fun i hi => ⟨hE.cell n4 (h2 i hi).1, hE.cell n4 (h2 i hi).2⟩⟩, fun hh => ?_, fun hh => ?_, hE.drawn.2 h5⟩
  · rcases hM _ hh with g | g
    · exact h3 g
    · omega
  · rcases hM _ hh with g | g
    · exact h4 g
    · omega
def tabA : Asn where
  own := []
  P := Tabs
  lt := fun _ k hk => by cases hk
  keep := fun h hE _ hN hM => h.keep hE hN hM
theorem tabs_sim {m w : World} {M : List Nat} (h : Tabs m M) (hs : Sim m w) : Lib.Utf8Tabs (Tryz.valid_ren.g 3) (Tryz.valid_ren.g 4) w :=
  ⟨fun c hc => (hs.cell _).trans (h.1.1 c hc), fun i hi => ⟨(hs.cell _).trans (h.1.2 i hi).1, (hs.cell _).trans (h.1.2 i hi).2⟩⟩
theorem valid_s (l : List UInt8) (hl : l.length ≤ 9223372036854775807) : DoS Tryz.prog 221 [.string (str l)] [tabA] (fun r H => r = .bool (runesL l).isSome ∧ H = []) := by
  intro m X hS
  refine ⟨⟨_, Tryz.func221, by kernel_rfl, by kernel_rfl⟩, fun w hs => ?_⟩
  refine (Any.utf8_ValidString Tryz.valid (str l) w (by rw [str_sz]; exact hl) (tabs_sim hS.head hs)).mono fun e w' ⟨he, hb⟩ => ⟨low m w', Sim.low _ _, _, he, [], ⟨?_, rfl⟩, ?_⟩
  · rw [str_data, valid_eq]
  · have h0 : m.drawn = 0 := hS.head.2.2.2
    refine Tr.drop (H := []) (F := [tabA]) (hS.calm ⟨hb.os.trans hs.os, hb.tape.trans hs.tape, hb.output.trans hs.output, by rw [low_heap, ← hs.size]; exact hb.size, fun k hk _ => ?_, dle.low (by rw [h0]; exact Nat.zero_le _)⟩)
    rw [low_heap, hb.block k (by rw [hs.size]; exact hk), hs.heap]
theorem ucheck_s (l : List UInt8) (hl : l.length ≤ 9223372036854775807) : DoS Tryz.prog 191 [.string (str l)] [tabA] (fun r H => r = .bool (runesL l).isSome ∧ H = []) := by
  intro m0 X hS
  refine FnE.enter ⟨_, Tryz.func191, by kernel_rfl, by kernel_rfl⟩ Tryz.func191 rfl rfl ?_
  (with_reducible repeat (first | refine WP.S1 ?_ | refine WP.B1 ?_ | refine WP.R1 ?_))
  refine RL.A1 T_ok rfl ?_
  refine RL.N1 ?_; (with_reducible repeat (first | refine QN.B1 ?_ | refine QN.N1 ?_ | refine WP.S1 ?_ | refine WP.B1 ?_ | refine WP.R1 ?_))
  refine RL.A1 T_ok rfl ?_
  refine RL.callM (fi := []) (ca := []) hS (valid_s l hl) rfl rfl rfl rfl (by repeat (first | with_reducible exact Sels.nil | apply Sels.ro (by with_reducible repeat (first | exact zS .. | apply zO)) (by rfl) | apply Sels.own (by with_reducible repeat (first | exact Sel.head | apply Sel.tail)))) ?_
  (try clear hS); rintro _ m _ ⟨rfl, rfl⟩ hS; (try simp only [zN] at hS); refine ⟨_, rfl, ?_⟩
  refine RL.A1 T_ok rfl ?_
  refine RL.N1 ?_; (with_reducible repeat (first | refine QN.B1 ?_ | refine QN.N1 ?_ | refine WP.S1 ?_ | refine WP.B1 ?_ | refine WP.R1 ?_))
  refine WP.ret ?_; (with_reducible repeat (first | refine QN.tr ?_ | refine QN.br ?_))
  exact QN.ret1 rfl rfl ⟨_, rfl, _, ⟨rfl, rfl⟩, Tr.drop (H := []) (F := [tabA]) hS⟩
def i32s (l : List Nat) : List Value := l.map fun r : Nat => .int .i32 r
theorem i32s_one (l : List Nat) : ∀ u ∈ i32s l, u.oneCell' = true := by intro u hu; obtain ⟨b, _, rfl⟩ := List.mem_map.1 hu; rfl
theorem i32s_length (l : List Nat) : (i32s l).length = l.length := by simp [i32s]
end Go.Proofs.YtgpgladbdoimdaaGreatDoor
end
section
namespace Go.Proofs.YtgpgladbdoimdaaGreatDoor
open Go.RowKit Go.Ev Go.Ids
set_option maxRecDepth 20000
set_option maxHeartbeats 1000000
theorem str_nil (a : List UInt8) : ((str a).toList == (ByteArray.mk #[]).toList) = a.isEmpty := by
  have := str_eq a []
  show ((str a).toList == (str []).toList) = _
  rw [this]
  cases a <;> simp
theorem nan_p (f : Nat) : Pur Tryz.prog 198 [.float .f64 f] [] (.bool (nanB f)) := by
  intro m0 X hS
  refine FnE.enter ⟨_, Tryz.func198, by kernel_rfl, by kernel_rfl⟩ Tryz.func198 rfl rfl ?_
  refine go ?_
  exact QN.ret1 rfl rfl ⟨_, rfl, [], ⟨rfl, rfl⟩, hS⟩
theorem bits_p (f : Nat) : Pur Tryz.prog 253 [.float .f64 f] [] (.int .u64 (bitsB f)) := by
  intro m0 X hS
  refine FnE.enter ⟨_, Tryz.func253, by kernel_rfl, by kernel_rfl⟩ Tryz.func253 rfl rfl ?_
  refine go ?_
  refine RL.callU (fi := []) (ca := []) hS (nan_p f) rfl rfl rfl rfl (by repeat (first | with_reducible exact Sels.nil | apply Sels.ro (by with_reducible repeat (first | exact zS .. | apply zO)) (by rfl) | apply Sels.own (by with_reducible repeat (first | exact Sel.head | apply Sel.tail)))) rfl (fun m hS => ?_)
  cases h : nanB f with
  | true =>
    refine go ?_
    exact QN.ret1 rfl rfl ⟨_, rfl, [], ⟨by rw [bitsB, if_pos h]; rfl, rfl⟩, hS⟩
  | false =>
    refine go ?_
    refine RL.ext (v := .int .u64 f) (ex := Extern.MathFloatBits.float64bits) Tryz.func96 rfl rfl rfl rfl rfl rfl rfl (fun w => rfl) rfl ?_
    refine go ?_
    exact QN.ret1 rfl rfl ⟨_, rfl, [], ⟨by rw [bitsB, if_neg (by rw [h]; simp)], rfl⟩, hS⟩
theorem vclean_p (v : Vl) : Pur Tryz.prog 159 [vV v] [] (vV v.clean) := by
  intro m0 X hS
  refine FnE.enter ⟨_, Tryz.func159, by kernel_rfl, by kernel_rfl⟩ Tryz.func159 rfl rfl ?_
  refine go ?_
  refine RL.boxS hS rfl rfl rfl ?_; (try clear hS); intro b1 m hS; refine ⟨_, rfl, ?_⟩
  refine go ?_
  refine RL.allocS T_ok rfl hS rfl rfl ?_; (try clear hS); intro b2 m hS; refine ⟨_, rfl, ?_⟩
  refine go ?_
  refine RL.callU (fi := []) (ca := []) hS (nan_p v.f) rfl rfl rfl rfl (by repeat (first | with_reducible exact Sels.nil | apply Sels.ro (by with_reducible repeat (first | exact zS .. | apply zO)) (by rfl) | apply Sels.own (by with_reducible repeat (first | exact Sel.head | apply Sel.tail)))) rfl (fun m hS => ?_)
  cases h : nanB v.f with
  | true =>
    refine go ?_
    refine RL.ext (v := .float .f64 9221120237041090560) (ex := Extern.MathFloatBits.float64frombits) Tryz.func98 rfl rfl rfl rfl rfl rfl rfl (fun w => rfl) rfl ?_
    refine go ?_
    refine RL.storeM T_ok hS rfl rfl rfl rfl (by rfl) (by rfl) (by with_reducible repeat (first | exact Rep.head | apply Rep.tail)) (by rfl) ?_; (try clear hS); intro m hS
    refine go ?_
    refine RL.ssM T_ok hS rfl rfl rfl rfl rfl (by rfl) (by rfl) (by with_reducible repeat (first | exact Rep.head | apply Rep.tail)) (by rfl) ?_; (try clear hS); intro m hS
    refine go ?_
    exact QN.retV (Res.cel T_ok hS rfl rfl rfl (by with_reducible repeat (first | exact zS .. | apply zO))) ⟨_, rfl, [], ⟨by simp [vV, vC, Vl.clean, bitsB, h], rfl⟩, hS.tail.tail⟩
  | false =>
    refine go ?_
    refine RL.ssM T_ok hS rfl rfl rfl rfl rfl (by rfl) (by rfl) (by with_reducible repeat (first | exact Rep.head | apply Rep.tail)) (by rfl) ?_; (try clear hS); intro m hS
    refine go ?_
    exact QN.retV (Res.cel T_ok hS rfl rfl rfl (by with_reducible repeat (first | exact zS .. | apply zO))) ⟨_, rfl, [], ⟨by simp [vV, vC, Vl.clean, bitsB, h], rfl⟩, hS.tail.tail⟩
theorem vcheck_s (v : Vl) (h : v.Ok) : DoS Tryz.prog 223 [vV v] [tabA] (fun r H => r = .int .i64 0 ∧ H = []) := by
  intro m0 X hS
  obtain ⟨k, n, f, s⟩ := v
  have fin : ∀ {m : World} {b1 b2 : Nat} {c1 c2 : List Value}, Tr m0 (ofps [tabA]) X m [blkA b2 53 c2, blkA b1 53 c1, tabA] → Tr m0 (ofps [tabA]) X m [] := fun h => h.tail.tail.tail
  refine FnE.enter ⟨_, Tryz.func223, by kernel_rfl, by kernel_rfl⟩ Tryz.func223 rfl rfl ?_
  refine go ?_
  refine RL.boxS hS rfl rfl rfl ?_; (try clear hS); intro b1 m hS; refine ⟨_, rfl, ?_⟩
  refine go ?_
  refine RL.allocS T_ok rfl hS rfl rfl ?_; (try clear hS); intro b2 m hS; refine ⟨_, rfl, ?_⟩
  have bz := bits_p 0
  have b0 : bitsB 0 = 0 := by simp [bitsB, nanB_0]
  rw [b0] at bz
  rcases h with ⟨h1, h2, h3, h4⟩ | ⟨h1, h2, h3, h4⟩ | ⟨h1, h2, h3, h4⟩ | ⟨h1, h3, h4⟩ | ⟨h1, h2, h4⟩ | ⟨h1, h2, h3, h4, h5⟩
  · obtain rfl : k = 0 := h1
    obtain rfl : n = 0 := h2
    obtain rfl : f = 0 := h3
    obtain rfl : s = [] := h4
    refine go ?_
    rw [str_nil]
    refine go ?_
    refine RH.callU (fi := []) (ca := []) hS bz rfl (by kernel_rfl) rfl rfl rfl rfl rfl (by repeat (first | with_reducible exact Sels.nil | apply Sels.ro (by with_reducible repeat (first | exact zS .. | apply zO)) (by rfl) | apply Sels.own (by with_reducible repeat (first | exact Sel.head | apply Sel.tail)))) (AllIn.self _) rfl (fun m hS => ?_)
    refine go ?_
    refine RH.callU (fi := []) (ca := []) hS bz rfl (by kernel_rfl) rfl rfl rfl rfl rfl (by repeat (first | with_reducible exact Sels.nil | apply Sels.ro (by with_reducible repeat (first | exact zS .. | apply zO)) (by rfl) | apply Sels.own (by with_reducible repeat (first | exact Sel.head | apply Sel.tail)))) (AllIn.self _) rfl (fun m hS => ?_)
    refine go ?_
    exact QN.ret1 rfl rfl ⟨_, rfl, [], ⟨rfl, rfl⟩, fin hS⟩
  · obtain rfl : k = 5 := h1
    obtain rfl : n = 0 := h2
    obtain rfl : f = 0 := h3
    obtain rfl : s = [] := h4
    refine go ?_
    rw [str_nil]
    refine go ?_
    refine RH.callU (fi := []) (ca := []) hS bz rfl (by kernel_rfl) rfl rfl rfl rfl rfl (by repeat (first | with_reducible exact Sels.nil | apply Sels.ro (by with_reducible repeat (first | exact zS .. | apply zO)) (by rfl) | apply Sels.own (by with_reducible repeat (first | exact Sel.head | apply Sel.tail)))) (AllIn.self _) rfl (fun m hS => ?_)
    refine go ?_
    refine RH.callU (fi := []) (ca := []) hS bz rfl (by kernel_rfl) rfl rfl rfl rfl rfl (by repeat (first | with_reducible exact Sels.nil | apply Sels.ro (by with_reducible repeat (first | exact zS .. | apply zO)) (by rfl) | apply Sels.own (by with_reducible repeat (first | exact Sel.head | apply Sel.tail)))) (AllIn.self _) rfl (fun m hS => ?_)
    refine go ?_
    exact QN.ret1 rfl rfl ⟨_, rfl, [], ⟨rfl, rfl⟩, fin hS⟩
  · obtain rfl : k = 1 := h1
    obtain rfl : f = 0 := h3
    obtain rfl : s = [] := h4
    refine go ?_
    rcases h2 with h2 | h2
    · obtain rfl : n = 0 := h2
      refine go ?_
      refine RL.storeM T_ok hS rfl rfl rfl rfl (by rfl) (by rfl) (by with_reducible repeat (first | exact Rep.head | apply Rep.tail)) (by rfl) ?_; (try clear hS); intro m hS
      refine go ?_
      rw [str_nil]
      refine go ?_
      refine RH.callU (fi := []) (ca := []) hS bz rfl (by kernel_rfl) rfl rfl rfl rfl rfl (by repeat (first | with_reducible exact Sels.nil | apply Sels.ro (by with_reducible repeat (first | exact zS .. | apply zO)) (by rfl) | apply Sels.own (by with_reducible repeat (first | exact Sel.head | apply Sel.tail)))) (AllIn.self _) rfl (fun m hS => ?_)
      refine go ?_
      refine RH.callU (fi := []) (ca := []) hS bz rfl (by kernel_rfl) rfl rfl rfl rfl rfl (by repeat (first | with_reducible exact Sels.nil | apply Sels.ro (by with_reducible repeat (first | exact zS .. | apply zO)) (by rfl) | apply Sels.own (by with_reducible repeat (first | exact Sel.head | apply Sel.tail)))) (AllIn.self _) rfl (fun m hS => ?_)
      refine go ?_
      exact QN.ret1 rfl rfl ⟨_, rfl, [], ⟨rfl, rfl⟩, fin hS⟩
    · obtain rfl : n = 1 := h2
      refine go ?_
      refine RL.storeM T_ok hS rfl rfl rfl rfl (by rfl) (by rfl) (by with_reducible repeat (first | exact Rep.head | apply Rep.tail)) (by rfl) ?_; (try clear hS); intro m hS
      refine go ?_
      rw [str_nil]
      refine go ?_
      refine RH.callU (fi := []) (ca := []) hS bz rfl (by kernel_rfl) rfl rfl rfl rfl rfl (by repeat (first | with_reducible exact Sels.nil | apply Sels.ro (by with_reducible repeat (first | exact zS .. | apply zO)) (by rfl) | apply Sels.own (by with_reducible repeat (first | exact Sel.head | apply Sel.tail)))) (AllIn.self _) rfl (fun m hS => ?_)
      refine go ?_
      refine RH.callU (fi := []) (ca := []) hS bz rfl (by kernel_rfl) rfl rfl rfl rfl rfl (by repeat (first | with_reducible exact Sels.nil | apply Sels.ro (by with_reducible repeat (first | exact zS .. | apply zO)) (by rfl) | apply Sels.own (by with_reducible repeat (first | exact Sel.head | apply Sel.tail)))) (AllIn.self _) rfl (fun m hS => ?_)
      refine go ?_
      exact QN.ret1 rfl rfl ⟨_, rfl, [], ⟨rfl, rfl⟩, fin hS⟩
  · obtain rfl : k = 2 := h1
    obtain rfl : f = 0 := h3
    obtain rfl : s = [] := h4
    refine go ?_
    refine RL.storeM T_ok hS rfl rfl rfl rfl (by rfl) (by rfl) (by with_reducible repeat (first | exact Rep.head | apply Rep.tail)) (by rfl) ?_; (try clear hS); intro m hS
    refine go ?_
    rw [bne_self_eq_false]
    refine go ?_
    rw [str_nil]
    refine go ?_
    refine RH.callU (fi := []) (ca := []) hS bz rfl (by kernel_rfl) rfl rfl rfl rfl rfl (by repeat (first | with_reducible exact Sels.nil | apply Sels.ro (by with_reducible repeat (first | exact zS .. | apply zO)) (by rfl) | apply Sels.own (by with_reducible repeat (first | exact Sel.head | apply Sel.tail)))) (AllIn.self _) rfl (fun m hS => ?_)
    refine go ?_
    refine RH.callU (fi := []) (ca := []) hS bz rfl (by kernel_rfl) rfl rfl rfl rfl rfl (by repeat (first | with_reducible exact Sels.nil | apply Sels.ro (by with_reducible repeat (first | exact zS .. | apply zO)) (by rfl) | apply Sels.own (by with_reducible repeat (first | exact Sel.head | apply Sel.tail)))) (AllIn.self _) rfl (fun m hS => ?_)
    refine go ?_
    exact QN.ret1 rfl rfl ⟨_, rfl, [], ⟨rfl, rfl⟩, fin hS⟩
  · obtain rfl : k = 3 := h1
    obtain rfl : n = 0 := h2
    obtain rfl : s = [] := h4
    refine go ?_
    refine RL.storeM T_ok hS rfl rfl rfl rfl (by rfl) (by rfl) (by with_reducible repeat (first | exact Rep.head | apply Rep.tail)) (by rfl) ?_; (try clear hS); intro m hS
    refine go ?_
    rw [str_nil]
    refine go ?_
    refine RH.callU (fi := []) (ca := []) hS (bits_p f) rfl (by kernel_rfl) rfl rfl rfl rfl rfl (by repeat (first | with_reducible exact Sels.nil | apply Sels.ro (by with_reducible repeat (first | exact zS .. | apply zO)) (by rfl) | apply Sels.own (by with_reducible repeat (first | exact Sel.head | apply Sel.tail)))) (AllIn.self _) rfl (fun m hS => ?_)
    refine go ?_
    refine RH.callU (fi := []) (ca := []) hS (bits_p f) rfl (by kernel_rfl) rfl rfl rfl rfl rfl (by repeat (first | with_reducible exact Sels.nil | apply Sels.ro (by with_reducible repeat (first | exact zS .. | apply zO)) (by rfl) | apply Sels.own (by with_reducible repeat (first | exact Sel.head | apply Sel.tail)))) (AllIn.self _) rfl (fun m hS => ?_)
    refine go ?_
    rw [bne_self_eq_false]
    refine go ?_
    exact QN.ret1 rfl rfl ⟨_, rfl, [], ⟨rfl, rfl⟩, fin hS⟩
  · obtain rfl : k = 4 := h1
    obtain rfl : n = 0 := h2
    obtain rfl : f = 0 := h3
    refine go ?_
    have hd : decide (((str s).size : Int) > 4096) = false := decide_eq_false (by rw [str_sz]; have : s.length ≤ 4096 := h4; omega)
    rw [hd]
    refine go ?_
    have hv := valid_s s (by have : s.length ≤ 4096 := h4; omega)
    rw [show (runesL s).isSome = true from h5] at hv
    refine RL.callU (fi := []) (ca := []) hS hv rfl rfl rfl rfl (by repeat (first | with_reducible exact Sels.nil | apply Sels.ro (by with_reducible repeat (first | exact zS .. | apply zO)) (by rfl) | apply Sels.own (by with_reducible repeat (first | exact Sel.head | apply Sel.tail)))) rfl (fun m hS => ?_)
    refine go ?_
    refine RL.storeM T_ok hS rfl rfl rfl rfl (by rfl) (by rfl) (by with_reducible repeat (first | exact Rep.head | apply Rep.tail)) (by rfl) ?_; (try clear hS); intro m hS
    refine go ?_
    rw [beq_self_eq_true]
    refine go ?_
    refine RH.callU (fi := []) (ca := []) hS bz rfl (by kernel_rfl) rfl rfl rfl rfl rfl (by repeat (first | with_reducible exact Sels.nil | apply Sels.ro (by with_reducible repeat (first | exact zS .. | apply zO)) (by rfl) | apply Sels.own (by with_reducible repeat (first | exact Sel.head | apply Sel.tail)))) (AllIn.self _) rfl (fun m hS => ?_)
    refine go ?_
    refine RH.callU (fi := []) (ca := []) hS bz rfl (by kernel_rfl) rfl rfl rfl rfl rfl (by repeat (first | with_reducible exact Sels.nil | apply Sels.ro (by with_reducible repeat (first | exact zS .. | apply zO)) (by rfl) | apply Sels.own (by with_reducible repeat (first | exact Sel.head | apply Sel.tail)))) (AllIn.self _) rfl (fun m hS => ?_)
    refine go ?_
    exact QN.ret1 rfl rfl ⟨_, rfl, [], ⟨rfl, rfl⟩, fin hS⟩
theorem nInt_p (a : Int) : Pur Tryz.prog 273 [.int .i64 a] [] (.bool false) := by
  intro m0 X hS
  refine FnE.enter ⟨_, Tryz.func273, by kernel_rfl, by kernel_rfl⟩ Tryz.func273 rfl rfl ?_
  refine go ?_
  rw [bne_self_eq_false]
  exact QN.ret1 rfl rfl ⟨_, rfl, [], ⟨rfl, rfl⟩, hS⟩
theorem nI64_p (a : Int) : Pur Tryz.prog 274 [.int .i64 a] [] (.bool false) := by
  intro m0 X hS
  refine FnE.enter ⟨_, Tryz.func274, by kernel_rfl, by kernel_rfl⟩ Tryz.func274 rfl rfl ?_
  refine go ?_
  rw [bne_self_eq_false]
  exact QN.ret1 rfl rfl ⟨_, rfl, [], ⟨rfl, rfl⟩, hS⟩
theorem nFl_p (f : Nat) : Pur Tryz.prog 285 [.float .f64 f] [] (.bool (nanB f)) := by
  intro m0 X hS
  refine FnE.enter ⟨_, Tryz.func285, by kernel_rfl, by kernel_rfl⟩ Tryz.func285 rfl rfl ?_
  refine go ?_
  exact QN.ret1 rfl rfl ⟨_, rfl, [], ⟨rfl, rfl⟩, hS⟩
theorem cInt_p (a : Int) : Pur Tryz.prog 254 [.int .i64 a, .int .i64 a] [] (.int .i64 0) := by
  intro m0 X hS
  have hd : decide (a < a) = false := decide_eq_false (by omega)
  have hd' : decide (a > a) = false := decide_eq_false (by omega)
  refine FnE.enter ⟨_, Tryz.func254, by kernel_rfl, by kernel_rfl⟩ Tryz.func254 rfl rfl ?_
  refine go ?_
  refine RL.callU (fi := []) (ca := []) hS (nInt_p a) rfl rfl rfl rfl (by repeat (first | with_reducible exact Sels.nil | apply Sels.ro (by with_reducible repeat (first | exact zS .. | apply zO)) (by rfl) | apply Sels.own (by with_reducible repeat (first | exact Sel.head | apply Sel.tail)))) rfl (fun m hS => ?_)
  refine go ?_
  refine RL.callU (fi := []) (ca := []) hS (nInt_p a) rfl rfl rfl rfl (by repeat (first | with_reducible exact Sels.nil | apply Sels.ro (by with_reducible repeat (first | exact zS .. | apply zO)) (by rfl) | apply Sels.own (by with_reducible repeat (first | exact Sel.head | apply Sel.tail)))) rfl (fun m hS => ?_)
  refine go ?_
  rw [hd]
  refine go ?_
  rw [hd']
  refine go ?_
  exact QN.ret1 rfl rfl ⟨_, rfl, [], ⟨rfl, rfl⟩, hS⟩
theorem cI64_p (a : Int) : Pur Tryz.prog 255 [.int .i64 a, .int .i64 a] [] (.int .i64 0) := by
  intro m0 X hS
  have hd : decide (a < a) = false := decide_eq_false (by omega)
  have hd' : decide (a > a) = false := decide_eq_false (by omega)
  refine FnE.enter ⟨_, Tryz.func255, by kernel_rfl, by kernel_rfl⟩ Tryz.func255 rfl rfl ?_
  refine go ?_
  refine RL.callU (fi := []) (ca := []) hS (nI64_p a) rfl rfl rfl rfl (by repeat (first | with_reducible exact Sels.nil | apply Sels.ro (by with_reducible repeat (first | exact zS .. | apply zO)) (by rfl) | apply Sels.own (by with_reducible repeat (first | exact Sel.head | apply Sel.tail)))) rfl (fun m hS => ?_)
  refine go ?_
  refine RL.callU (fi := []) (ca := []) hS (nI64_p a) rfl rfl rfl rfl (by repeat (first | with_reducible exact Sels.nil | apply Sels.ro (by with_reducible repeat (first | exact zS .. | apply zO)) (by rfl) | apply Sels.own (by with_reducible repeat (first | exact Sel.head | apply Sel.tail)))) rfl (fun m hS => ?_)
  refine go ?_
  rw [hd]
  refine go ?_
  rw [hd']
  refine go ?_
  exact QN.ret1 rfl rfl ⟨_, rfl, [], ⟨rfl, rfl⟩, hS⟩
def sgnB (f : Nat) : Bool := decide (IntKind.i64.wrap (f : Int) < 0)
theorem sign_p (f : Nat) : Pur Tryz.prog 277 [.float .f64 f] [] (.bool (sgnB f)) := by
  intro m0 X hS
  refine FnE.enter ⟨_, Tryz.func277, by kernel_rfl, by kernel_rfl⟩ Tryz.func277 rfl rfl ?_
  refine go ?_
  refine RL.ext (v := .int .u64 f) (ex := Extern.MathFloatBits.float64bits) Tryz.func96 rfl rfl rfl rfl rfl rfl rfl (fun w => rfl) rfl ?_
  refine go ?_
  exact QN.ret1 rfl rfl ⟨_, rfl, [], ⟨rfl, rfl⟩, hS⟩
def rankB (f : Nat) : Nat × Nat := if nanB f then (1, 0) else if FloatKind.f64.format.order f 0 == some .eq && sgnB f then (0, 0) else (0, f)
theorem rank_p (f : Nat) : Pur Tryz.prog 275 [.float .f64 f] [] (.tuple #[.int .i64 (rankB f).1, .float .f64 (rankB f).2]) := by
  intro m0 X hS
  refine FnE.enter ⟨_, Tryz.func275, by kernel_rfl, by kernel_rfl⟩ Tryz.func275 rfl rfl ?_
  refine go ?_
  refine RL.callU (fi := []) (ca := []) hS (nan_p f) rfl rfl rfl rfl (by repeat (first | with_reducible exact Sels.nil | apply Sels.ro (by with_reducible repeat (first | exact zS .. | apply zO)) (by rfl) | apply Sels.own (by with_reducible repeat (first | exact Sel.head | apply Sel.tail)))) rfl (fun m hS => ?_)
  cases h : nanB f with
  | true =>
    refine go ?_
    exact QN.ret2 rfl rfl rfl ⟨_, rfl, [], ⟨by simp [rankB, h], rfl⟩, hS⟩
  | false =>
    refine go ?_
    cases h2 : (FloatKind.f64.format.order f 0 == some .eq) with
    | true =>
      refine go ?_
      refine RL.callU (fi := []) (ca := []) hS (sign_p f) rfl rfl rfl rfl (by repeat (first | with_reducible exact Sels.nil | apply Sels.ro (by with_reducible repeat (first | exact zS .. | apply zO)) (by rfl) | apply Sels.own (by with_reducible repeat (first | exact Sel.head | apply Sel.tail)))) rfl (fun m hS => ?_)
      cases h3 : sgnB f with
      | true =>
        refine go ?_
        exact QN.ret2 rfl rfl rfl ⟨_, rfl, [], ⟨by simp [rankB, h, h2, h3], rfl⟩, hS⟩
      | false =>
        refine go ?_
        exact QN.ret2 rfl rfl rfl ⟨_, rfl, [], ⟨by simp [rankB, h, h2, h3], rfl⟩, hS⟩
    | false =>
      refine go ?_
      exact QN.ret2 rfl rfl rfl ⟨_, rfl, [], ⟨by simp [rankB, h, h2], rfl⟩, hS⟩
theorem rank_self (f : Nat) : (rankB f).1 ≠ 1 → FloatKind.f64.format.order (rankB f).2 (rankB f).2 = some .eq := by
  unfold rankB
  split
  · simp
  · rename_i hn
    intro _
    have h0 : FloatKind.f64.format.order 0 0 = some .eq := by decide +kernel
    split
    · exact h0
    · rcases order_self f with h | h
      · exact absurd (by simp [nanB, h]) hn
      · exact h
end Go.Proofs.YtgpgladbdoimdaaGreatDoor
end
section
namespace Go.Proofs.YtgpgladbdoimdaaGreatDoor
open Go.RowKit Go.Ev Go.Ids
set_option maxRecDepth 20000
set_option maxHeartbeats 1000000
theorem scmp_p (l : List UInt8) : Pur Tryz.prog 257 [.string (str l), .string (str l)] [] (.int .i64 0) := by
  have hb : Pur Tryz.prog 278 [.string (str l), .string (str l)] [] (.int .i64 0) := by
    intro m0 X hS
    refine FnE.enter ⟨_, Tryz.func278, by kernel_rfl, by kernel_rfl⟩ Tryz.func278 rfl rfl ?_
    refine go ?_
    refine RL.ext (v := .int .i64 0) (ex := Extern.BytealgCompare.compare) Tryz.func286 rfl rfl rfl rfl rfl rfl rfl (fun w => ?_) rfl ?_
    · have : Extern.BytealgCompare.cmp (str l) (str l) = 0 := by
        unfold Extern.BytealgCompare.cmp
        have : (List.range (min (str l).size (str l).size)).find? (fun i => (str l)[i]! != (str l)[i]!) = none := by simp
        rw [this]
        simp
      show Sem.run _ (do pure (goInt (Extern.BytealgCompare.cmp (← Extern.Bytes.bytesOf (.string (str l))) (← Extern.Bytes.bytesOf (.string (str l)))))) w = _
      simp [Extern.Bytes.bytesOf, this, goInt]
    refine go ?_
    exact QN.ret1 rfl rfl ⟨_, rfl, [], ⟨rfl, rfl⟩, hS⟩
  intro m0 X hS
  refine FnE.enter ⟨_, Tryz.func257, by kernel_rfl, by kernel_rfl⟩ Tryz.func257 rfl rfl ?_
  refine go ?_
  refine RL.callU (fi := []) (ca := []) hS hb rfl rfl rfl rfl (by repeat (first | with_reducible exact Sels.nil | apply Sels.ro (by with_reducible repeat (first | exact zS .. | apply zO)) (by rfl) | apply Sels.own (by with_reducible repeat (first | exact Sel.head | apply Sel.tail)))) rfl (fun m hS => ?_)
  refine go ?_
  exact QN.ret1 rfl rfl ⟨_, rfl, [], ⟨rfl, rfl⟩, hS⟩
theorem cFl0_p : Pur Tryz.prog 276 [.float .f64 0, .float .f64 0] [] (.int .i64 0) := by
  have hn := nFl_p 0
  rw [nanB_0] at hn
  have h0 : FloatKind.f64.format.order 0 0 = some .eq := by decide +kernel
  intro m0 X hS
  refine FnE.enter ⟨_, Tryz.func276, by kernel_rfl, by kernel_rfl⟩ Tryz.func276 rfl rfl ?_
  refine go ?_
  refine RL.callU (fi := []) (ca := []) hS hn rfl rfl rfl rfl (by repeat (first | with_reducible exact Sels.nil | apply Sels.ro (by with_reducible repeat (first | exact zS .. | apply zO)) (by rfl) | apply Sels.own (by with_reducible repeat (first | exact Sel.head | apply Sel.tail)))) rfl (fun m hS => ?_)
  refine go ?_
  refine RL.callU (fi := []) (ca := []) hS hn rfl rfl rfl rfl (by repeat (first | with_reducible exact Sels.nil | apply Sels.ro (by with_reducible repeat (first | exact zS .. | apply zO)) (by rfl) | apply Sels.own (by with_reducible repeat (first | exact Sel.head | apply Sel.tail)))) rfl (fun m hS => ?_)
  refine go ?_
  rw [h0]
  refine go ?_
  exact QN.ret1 rfl rfl ⟨_, rfl, [], ⟨rfl, rfl⟩, hS⟩
theorem floats_p (f : Nat) : Pur Tryz.prog 256 [.float .f64 f, .float .f64 f] [] (.int .i64 0) := by
  intro m0 X hS
  obtain ⟨r, hr⟩ : ∃ r, rankB f = r := ⟨_, rfl⟩
  have hrk := rank_p f
  have hself := rank_self f
  have h1 : (r.1 = 1 ∧ r.2 = 0) ∨ r.1 = 0 := by rw [← hr]; unfold rankB; split; simp; split <;> simp
  rw [hr] at hrk hself
  obtain ⟨r1, r2⟩ := r
  refine FnE.enter ⟨_, Tryz.func256, by kernel_rfl, by kernel_rfl⟩ Tryz.func256 rfl rfl ?_
  refine go ?_
  refine RL.callU (fi := []) (ca := []) hS hrk rfl rfl rfl rfl (by repeat (first | with_reducible exact Sels.nil | apply Sels.ro (by with_reducible repeat (first | exact zS .. | apply zO)) (by rfl) | apply Sels.own (by with_reducible repeat (first | exact Sel.head | apply Sel.tail)))) rfl (fun m hS => ?_)
  refine go ?_
  refine RL.callU (fi := []) (ca := []) hS hrk rfl rfl rfl rfl (by repeat (first | with_reducible exact Sels.nil | apply Sels.ro (by with_reducible repeat (first | exact zS .. | apply zO)) (by rfl) | apply Sels.own (by with_reducible repeat (first | exact Sel.head | apply Sel.tail)))) rfl (fun m hS => ?_)
  refine go ?_
  rw [bne_self_eq_false]
  refine go ?_
  rcases h1 with ⟨h1, h2⟩ | h1
  · obtain rfl : r1 = 1 := h1
    obtain rfl : r2 = 0 := h2
    refine go ?_
    refine RL.callU (fi := []) (ca := []) hS cFl0_p rfl rfl rfl rfl (by repeat (first | with_reducible exact Sels.nil | apply Sels.ro (by with_reducible repeat (first | exact zS .. | apply zO)) (by rfl) | apply Sels.own (by with_reducible repeat (first | exact Sel.head | apply Sel.tail)))) rfl (fun m hS => ?_)
    refine go ?_
    exact QN.ret1 rfl rfl ⟨_, rfl, [], ⟨rfl, rfl⟩, hS⟩
  · obtain rfl : r1 = 0 := h1
    have ho := hself (by simp)
    refine go ?_
    rw [ho]
    refine go ?_
    rw [show FloatKind.f64.format.order (0, r2).snd (0, r2).snd = some .eq from ho]
    refine go ?_
    cases h3 : (FloatKind.f64.format.order f 0 == some .eq) with
    | false =>
      refine go ?_
      exact QN.ret1 rfl rfl ⟨_, rfl, [], ⟨rfl, rfl⟩, hS⟩
    | true =>
      refine go ?_
      rw [h3]
      refine go ?_
      refine RL.callU (fi := []) (ca := []) hS (sign_p f) rfl rfl rfl rfl (by repeat (first | with_reducible exact Sels.nil | apply Sels.ro (by with_reducible repeat (first | exact zS .. | apply zO)) (by rfl) | apply Sels.own (by with_reducible repeat (first | exact Sel.head | apply Sel.tail)))) rfl (fun m hS => ?_)
      refine go ?_
      refine RL.callU (fi := []) (ca := []) hS (sign_p f) rfl rfl rfl rfl (by repeat (first | with_reducible exact Sels.nil | apply Sels.ro (by with_reducible repeat (first | exact zS .. | apply zO)) (by rfl) | apply Sels.own (by with_reducible repeat (first | exact Sel.head | apply Sel.tail)))) rfl (fun m hS => ?_)
      cases sgnB f <;>
      · refine go ?_
        exact QN.ret1 rfl rfl ⟨_, rfl, [], ⟨rfl, rfl⟩, hS⟩
theorem or0_s (S : List Nat) (v : Value) : DoS Tryz.prog 172 [v] [ownA S 3 1 v 4 [.int .i64 0, .int .i64 0, .int .i64 0, .int .i64 0]] (fun r H => r = .int .i64 0 ∧ H = []) := by
  intro m0 X hS
  obtain ⟨g, c, rfl, hSo, hcc, _⟩ := hS.ownAt (List.mem_singleton.2 rfl) (by decide)
  have hR := hS.ownSl (List.mem_singleton.2 rfl)
  refine FnE.enter ⟨_, Tryz.func172, by kernel_rfl, by kernel_rfl⟩ Tryz.func172 rfl rfl ?_
  refine go ?_
  refine (WP.loopX (X := Nat) (fun i => [(3, .int .i64 0), (6, .slice (some ⟨g, 0, none⟩) 4 c), (7, .int .i64 4), (8, .int .i64 i)]) (fun i m' => i ≤ 4 ∧ Tr m0 (ofps [ownA S 3 1 (.slice (some ⟨g, 0, none⟩) 4 c) 4 [.int .i64 0, .int .i64 0, .int .i64 0, .int .i64 0]]) X m' [ownA S 3 1 (.slice (some ⟨g, 0, none⟩) 4 c) 4 [.int .i64 0, .int .i64 0, .int .i64 0, .int .i64 0]])
    (fun _ m' => Tr m0 (ofps [ownA S 3 1 (.slice (some ⟨g, 0, none⟩) 4 c) 4 [.int .i64 0, .int .i64 0, .int .i64 0, .int .i64 0]]) X m' [ownA S 3 1 (.slice (some ⟨g, 0, none⟩) 4 c) 4 [.int .i64 0, .int .i64 0, .int .i64 0, .int .i64 0]]) (fun i => 4 - i) 0 0 (Sub.C1 rfl (Sub.C1 rfl (Sub.C1 rfl (Sub.C1 rfl Sub.nil)))) ⟨by omega, hS⟩ ?_ ?_)
  · clear hS hR
    rintro i m ⟨hi, hS⟩
    dsimp only at hi hS ⊢
    have hR := hS.ownSl (List.mem_singleton.2 rfl)
    refine go ?_
    rcases Nat.eq_or_lt_of_le hi with rfl | hin
    · refine go ?_
      exact WP.exit (QN.tx (QN.tx (QN.exitJ 4 (Sub.C1 rfl (Sub.C1 rfl (Sub.C1 rfl (Sub.C1 rfl Sub.nil)))) hS)))
    · have hd : decide ((i : Int) < 4) = true := decide_eq_true (by omega)
      have hx : ([.int .i64 0, .int .i64 0, .int .i64 0, .int .i64 0] : List Value)[i * 1]? = some (.int .i64 0) := by
        have : i = 0 ∨ i = 1 ∨ i = 2 ∨ i = 3 := by omega
        rcases this with rfl | rfl | rfl | rfl <;> rfl
      rw [hd]
      refine go ?_
      refine RL.ldE T_ok hR hx rfl rfl rfl rfl rfl rfl ?_
      refine go ?_
      have hw : IntKind.i64.wrap ((i : Int) + 1) = ((i + 1 : Nat) : Int) := by rw [wrap_i64_in _ (by omega) (by omega)]; omega
      rw [hw]
      exact QN.round (i + 1) (Sub.C1 rfl (Sub.C1 rfl (Sub.C1 rfl (Sub.C1 rfl Sub.nil)))) ⟨by omega, hS⟩ (by omega)
  · clear hS hR
    rintro _ m hS
    refine QN.bx ?_
    refine go ?_
    exact QN.ret1 rfl rfl ⟨_, rfl, [], ⟨rfl, rfl⟩, hS.tail⟩
theorem vcmp_p (v : Vl) : Pur Tryz.prog 224 [vV v, vV v] [] (.int .i64 0) := by
  intro m0 X hS
  refine FnE.enter ⟨_, Tryz.func224, by kernel_rfl, by kernel_rfl⟩ Tryz.func224 rfl rfl ?_
  refine go ?_
  refine RL.boxS hS rfl rfl rfl ?_; (try clear hS); intro b1 m hS; refine ⟨_, rfl, ?_⟩
  refine go ?_
  refine RL.boxS hS rfl rfl rfl ?_; (try clear hS); intro b2 m hS; refine ⟨_, rfl, ?_⟩
  refine go ?_
  refine RH.callU (fi := []) (ca := []) hS (cInt_p v.k) rfl (by kernel_rfl) rfl rfl rfl rfl rfl (by repeat (first | with_reducible exact Sels.nil | apply Sels.ro (by with_reducible repeat (first | exact zS .. | apply zO)) (by rfl) | apply Sels.own (by with_reducible repeat (first | exact Sel.head | apply Sel.tail)))) (AllIn.self _) rfl (fun m hS => ?_)
  refine go ?_
  refine RH.callU (fi := []) (ca := []) hS (cI64_p v.n) rfl (by kernel_rfl) rfl rfl rfl rfl rfl (by repeat (first | with_reducible exact Sels.nil | apply Sels.ro (by with_reducible repeat (first | exact zS .. | apply zO)) (by rfl) | apply Sels.own (by with_reducible repeat (first | exact Sel.head | apply Sel.tail)))) (AllIn.self _) rfl (fun m hS => ?_)
  refine go ?_
  refine RH.callU (fi := []) (ca := []) hS (floats_p v.f) rfl (by kernel_rfl) rfl rfl rfl rfl rfl (by repeat (first | with_reducible exact Sels.nil | apply Sels.ro (by with_reducible repeat (first | exact zS .. | apply zO)) (by rfl) | apply Sels.own (by with_reducible repeat (first | exact Sel.head | apply Sel.tail)))) (AllIn.self _) rfl (fun m hS => ?_)
  refine go ?_
  refine RH.callU (fi := []) (ca := []) hS (scmp_p v.s) rfl (by kernel_rfl) rfl rfl rfl rfl rfl (by repeat (first | with_reducible exact Sels.nil | apply Sels.ro (by with_reducible repeat (first | exact zS .. | apply zO)) (by rfl) | apply Sels.own (by with_reducible repeat (first | exact Sel.head | apply Sel.tail)))) (AllIn.self _) rfl (fun m hS => ?_)
  refine go ?_
  refine RH.one rfl (by kernel_rfl) rfl ?_
  refine RL.buildSliceM T_ok hS [.tmp 9, .tmp 14, .tmp 19, .tmp 24] [.int .i64 0, .int .i64 0, .int .i64 0, .int .i64 0] rfl rfl rfl rfl rfl rfl (by intro u hu; simp only [List.mem_cons, List.not_mem_nil, or_false] at hu; rcases hu with rfl | rfl | rfl | rfl <;> rfl) rfl rfl rfl ?_
  clear hS
  intro b' m hS
  refine ⟨_, rfl, ?_⟩
  refine RL.N1 (RH.contM hS (.more _ (AllIn.self _)) ?_)
  refine RH.callS (fi := []) (ca := []) hS (or0_s [b'] (.slice (some ⟨b', 0, none⟩) 4 4)) rfl (by kernel_rfl) rfl rfl rfl rfl rfl (by repeat (first | with_reducible exact Sels.nil | apply Sels.ro (by with_reducible repeat (first | exact zS .. | apply zO)) (by rfl) | apply Sels.own (by with_reducible repeat (first | exact Sel.head | apply Sel.tail)))) ?_
  clear hS
  rintro _ m _ ⟨rfl, rfl⟩ hS
  simp only [List.nil_append] at hS
  refine ⟨AllIn.self _, _, rfl, ?_⟩
  refine go ?_
  exact QN.ret1 rfl rfl ⟨_, rfl, [], ⟨rfl, rfl⟩, hS.tail.tail⟩
theorem vsame_p (v : Vl) : Pur Tryz.prog 196 [vV v, vV v] [] (.bool true) := by
  intro m0 X hS
  refine FnE.enter ⟨_, Tryz.func196, by kernel_rfl, by kernel_rfl⟩ Tryz.func196 rfl rfl ?_
  refine go ?_
  refine RL.boxS hS rfl rfl rfl ?_; (try clear hS); intro b1 m hS; refine ⟨_, rfl, ?_⟩
  refine go ?_
  refine RL.boxS hS rfl rfl rfl ?_; (try clear hS); intro b2 m hS; refine ⟨_, rfl, ?_⟩
  refine go ?_
  refine RL.callU (fi := []) (ca := []) hS (vcmp_p v) rfl rfl rfl rfl (by repeat (first | with_reducible exact Sels.nil | apply Sels.ro (by with_reducible repeat (first | exact zS .. | apply zO)) (by rfl) | apply Sels.own (by with_reducible repeat (first | exact Sel.head | apply Sel.tail)))) rfl (fun m hS => ?_)
  refine go ?_
  exact QN.ret1 rfl rfl ⟨_, rfl, [], ⟨rfl, rfl⟩, hS.tail.tail⟩
end Go.Proofs.YtgpgladbdoimdaaGreatDoor
end
section
namespace Go.Proofs.YtgpgladbdoimdaaGreatDoor
open Go.RowKit Go.Ev Go.Ids
set_option maxRecDepth 20000
set_option maxHeartbeats 1000000
theorem runes_count : ∀ (n : Nat) (l : List UInt8) (r : List Nat), l.length ≤ n → runesL l = some r → Lib.runeCount (str l) = r.length
  | 0, l, r, hl, h => by
    have : l = [] := List.length_eq_zero_iff.1 (by omega)
    subst this
    cases h; rfl
  | n + 1, l, r, hl, h => by
    by_cases h0 : l = []
    · subst h0; cases h; rfl
    · rw [runesL_step l h0] at h
      split at h
      · cases h
      · rename_i hw
        obtain ⟨r', h1, rfl⟩ := Option.map_eq_some_iff.1 h
        have hd := nx_some l hw
        have hlt : 0 < l.length := List.length_pos_iff.2 h0
        have hwd := (nx_width l h0).resolve_left hw
        have ih := runes_count n (l.drop (nx l).2) r' (by rw [List.length_drop]; omega) h1
        rw [List.length_cons, ← ih]
        obtain ⟨k, hk⟩ : ∃ k, l.length = k + 1 := ⟨l.length - 1, by omega⟩
        have e1 : (Utf8.decode (str l) 0).2 = (nx l).2 := by rw [hd]; rfl
        unfold Lib.runeCount
        rw [str_sz, str_sz, hk]
        conv => lhs; unfold Lib.runeCountFrom
        rw [if_pos (by rw [str_sz]; exact hlt), Nat.zero_add, e1, Nat.add_comm 1]
        congr 1
        have e2 : str (l.drop (nx l).2) = (str l).extract (nx l).2 (str l).size := by
          rw [str_extract, str_sz, List.take_of_length_le (Nat.le_refl _)]
        rw [e2, Lib.tail_count, Nat.add_zero]
        refine Lib.fuel_enough _ _ _ _ ?_ ?_
        · rw [str_sz]; omega
        · rw [str_sz, List.length_drop]; omega
theorem count_p (l : List UInt8) (hl : l.length ≤ 1000000) (h : (runesL l).isSome = true) : Pur Tryz.prog 222 [.string (str l)] [tabA] (.int .i64 ((runesL l).getD []).length) := by
  intro m X hS
  obtain ⟨r, hr⟩ := Option.isSome_iff_exists.1 h
  refine ⟨⟨_, Tryz.func222, by kernel_rfl, by kernel_rfl⟩, fun w hs => ?_⟩
  refine (Any.utf8_RuneCountInString Tryz.count (str l) w (by rw [str_sz]; omega)).mono fun e w' ⟨he, pos, hb⟩ => ?_
  subst hb
  refine ⟨m.alloc (.stringIter (str l) pos), hs.alloc _, _, he, [], ⟨by rw [runes_count _ _ _ (Nat.le_refl _) hr, hr]; rfl, rfl⟩, Tr.drop (H := []) (F := [tabA]) (hS.calm ((Chg.alloc m _).new (Nat.le_refl _)))⟩
theorem ulen_p (l : List UInt8) (hl : l.length ≤ 1000000) (h : (runesL l).isSome = true) : Pur Tryz.prog 192 [.string (str l)] [tabA] (.int .i64 ((runesL l).getD []).length) := by
  intro m0 X hS
  have hc := ucheck_s l (by omega)
  rw [h] at hc
  refine FnE.enter ⟨_, Tryz.func192, by kernel_rfl, by kernel_rfl⟩ Tryz.func192 rfl rfl ?_
  refine go ?_
  refine RL.callU (fi := []) (ca := []) hS hc rfl rfl rfl rfl (by repeat (first | with_reducible exact Sels.nil | apply Sels.ro (by with_reducible repeat (first | exact zS .. | apply zO)) (by rfl) | apply Sels.own (by with_reducible repeat (first | exact Sel.head | apply Sel.tail)))) rfl (fun m hS => ?_)
  refine go ?_
  refine RL.callU (fi := []) (ca := []) hS (count_p l hl h) rfl rfl rfl rfl (by repeat (first | with_reducible exact Sels.nil | apply Sels.ro (by with_reducible repeat (first | exact zS .. | apply zO)) (by rfl) | apply Sels.own (by with_reducible repeat (first | exact Sel.head | apply Sel.tail)))) rfl (fun m hS => ?_)
  refine go ?_
  exact QN.ret1 rfl rfl ⟨_, rfl, [], ⟨rfl, rfl⟩, hS.tail⟩
theorem olen_p (o : Opr) (g : Good o) : Pur Tryz.prog 158 [oV o] [tabA] (.int .i64 o.n) := by
  intro m0 X hS
  refine FnE.enter ⟨_, Tryz.func158, by kernel_rfl, by kernel_rfl⟩ Tryz.func158 rfl rfl ?_
  refine go ?_
  refine RL.boxS hS rfl rfl rfl ?_; (try clear hS); intro b1 m hS; refine ⟨_, rfl, ?_⟩
  refine go ?_
  by_cases hk : o.k = 1
  · have hd : ((o.k : Int) == 1) = true := by simp; omega
    have hr : (runesL o.t).isSome = true := by
      rcases g.kind with h | h | h | h
      · exact h.2.1
      all_goals omega
    rw [hd]
    refine go ?_
    refine RL.callU (fi := []) (ca := []) hS (ulen_p o.t g.small hr) rfl rfl rfl rfl (by repeat (first | with_reducible exact Sels.nil | apply Sels.ro (by with_reducible repeat (first | exact zS .. | apply zO)) (by rfl) | apply Sels.own (by with_reducible repeat (first | exact Sel.head | apply Sel.tail)))) rfl (fun m hS => ?_)
    refine go ?_
    exact QN.ret1 rfl rfl ⟨_, rfl, [], ⟨by rw [Opr.n, if_pos hk], rfl⟩, hS.tail.tail⟩
  · have hd : ((o.k : Int) == 1) = false := by simp; omega
    rw [hd]
    refine go ?_
    exact QN.ret1 rfl rfl ⟨_, rfl, [], ⟨by rw [Opr.n, if_neg hk]; rfl, rfl⟩, hS.tail.tail⟩
def oRng (o : Opr) : List Value := [.int .u64 o.id.c, .int .u64 o.id.k, .int .u64 (o.id.k + o.n : Nat)]
theorem orange_p (o : Opr) (g : Good o) : Pur Tryz.prog 122 [oV o] [tabA] (.agg (oRng o).toArray) := by
  intro m0 X hS
  have ht := g.top
  have hn := g.n_le
  have hw : IntKind.u64.wrap ((o.id.k : Int) + IntKind.u64.wrap (o.n : Int)) = ((o.id.k + o.n : Nat) : Int) := by rw [wrap_u64_in (o.n : Int) (by omega) (by omega), wrap_u64_in _ (by omega) (by omega)]; omega
  refine FnE.enter ⟨_, Tryz.func122, by kernel_rfl, by kernel_rfl⟩ Tryz.func122 rfl rfl ?_
  refine go ?_
  refine RL.boxS hS rfl rfl rfl ?_; (try clear hS); intro b1 m hS; refine ⟨_, rfl, ?_⟩
  refine go ?_
  refine RL.allocS T_ok rfl hS rfl rfl ?_
  clear hS
  intro b2 m hS
  refine ⟨_, rfl, ?_⟩
  refine RL.N1 ?_; (with_reducible repeat (first | refine QN.B1 ?_ | refine QN.N1 ?_))
  (with_reducible repeat (first | refine WP.S1 ?_ | refine WP.B1 ?_))
  refine WP.drawL [blkA b1 55 (oC o), tabA] hS (by repeat (first | exact AllIn.nil | refine AllIn.cons (by repeat (first | with_reducible exact zS .. | exact zS .. | with_reducible apply zO)) ?_)) rfl (by kernel_rfl) ?_
  refine go ?_
  refine RH.callU (fi := []) (ca := []) hS (olen_p o g) rfl (by kernel_rfl) rfl rfl rfl rfl rfl (by repeat (first | with_reducible exact Sels.nil | apply Sels.ro (by with_reducible repeat (first | exact zS .. | apply zO)) (by rfl) | apply Sels.own (by with_reducible repeat (first | exact Sel.head | apply Sel.tail)))) (by repeat (first | exact AllIn.nil | refine AllIn.cons (by repeat (first | with_reducible exact zS .. | exact zS .. | with_reducible apply zO)) ?_)) rfl (fun m hS => ?_)
  refine go ?_
  rw [hw]
  refine RH.one rfl (by kernel_rfl) rfl ?_
  refine RL.ssM T_ok hS rfl rfl rfl rfl rfl (by rfl) (by rfl) (by with_reducible repeat (first | exact Rep.head | apply Rep.tail)) (by rfl) ?_; (try clear hS); intro m hS
  refine RL.N1 (RF.last (by kernel_rfl) (QN.calm ?_))
  refine go ?_
  have hS : Tr m0 (ofps [tabA]) X m [blkA b2 167 (oRng o), blkA b1 55 (oC o), tabA] := hS
  exact QN.retV (Res.cel T_ok hS rfl rfl rfl (by with_reducible repeat (first | exact zS .. | apply zO))) ⟨_, rfl, [], ⟨rfl, rfl⟩, hS.tail.tail.tail⟩
theorem stamp_p (n : Nat) (h : stOk n) : Pur Tryz.prog 195 [.int .u64 n] [] (.bool true) := by
  intro m0 X hS
  obtain ⟨h1, h2⟩ := h
  have hd : decide ((n : Int) ≥ 1) = true := decide_eq_true (by omega)
  have hd' : decide ((n : Int) ≤ 9007199254740991) = true := decide_eq_true (by omega)
  refine FnE.enter ⟨_, Tryz.func195, by kernel_rfl, by kernel_rfl⟩ Tryz.func195 rfl rfl ?_
  refine go ?_
  rw [hd]
  refine go ?_
  rw [hd']
  exact QN.ret1 rfl rfl ⟨_, rfl, [], ⟨rfl, rfl⟩, hS⟩
theorem key_p (k : List UInt8) (h : keyOk k) : Pur Tryz.prog 194 [.string (str k)] [tabA] (.bool true) := by
  intro m0 X hS
  obtain ⟨h1, h2, h3⟩ := h
  have hv := valid_s k (by omega)
  rw [h3] at hv
  have hd : decide (((str k).size : Int) ≤ 64) = true := decide_eq_true (by rw [str_sz]; omega)
  have he : k.isEmpty = false := by cases k; simp at h1; rfl
  refine FnE.enter ⟨_, Tryz.func194, by kernel_rfl, by kernel_rfl⟩ Tryz.func194 rfl rfl ?_
  refine go ?_
  rw [str_nil, he]
  refine go ?_
  rw [hd]
  refine go ?_
  refine RL.callU (fi := []) (ca := []) hS hv rfl rfl rfl rfl (by repeat (first | with_reducible exact Sels.nil | apply Sels.ro (by with_reducible repeat (first | exact zS .. | apply zO)) (by rfl) | apply Sels.own (by with_reducible repeat (first | exact Sel.head | apply Sel.tail)))) rfl (fun m hS => ?_)
  refine go ?_
  exact QN.ret1 rfl rfl ⟨_, rfl, [], ⟨rfl, rfl⟩, hS.tail⟩
theorem val_p (v : Vl) (b : Bool) (h : v.Ok) (hb : b = true ∨ v.k ≠ 5) : Pur Tryz.prog 193 [vV v, .bool b] [tabA] (.bool true) := by
  intro m0 X hS
  refine FnE.enter ⟨_, Tryz.func193, by kernel_rfl, by kernel_rfl⟩ Tryz.func193 rfl rfl ?_
  refine go ?_
  refine RL.boxS hS rfl rfl rfl ?_; (try clear hS); intro b1 m hS; refine ⟨_, rfl, ?_⟩
  refine go ?_
  refine RL.callU (fi := []) (ca := []) hS (vcheck_s v h) rfl rfl rfl rfl (by repeat (first | with_reducible exact Sels.nil | apply Sels.ro (by with_reducible repeat (first | exact zS .. | apply zO)) (by rfl) | apply Sels.own (by with_reducible repeat (first | exact Sel.head | apply Sel.tail)))) rfl (fun m hS => ?_)
  refine go ?_
  cases b with
  | true =>
    refine go ?_
    exact QN.ret1 rfl rfl ⟨_, rfl, [], ⟨rfl, rfl⟩, hS.tail.tail⟩
  | false =>
    have h5 := hb.resolve_left (by simp)
    refine go ?_
    have hd : ((v.k : Int) != 5) = true := by simp; omega
    rw [hd]
    refine go ?_
    exact QN.ret1 rfl rfl ⟨_, rfl, [], ⟨rfl, rfl⟩, hS.tail.tail⟩
theorem oid_p (i : Idn) (h : named i = true) : Pur Tryz.prog 155 [iV i] [] (.bool true) := by
  intro m0 X hS
  refine FnE.enter ⟨_, Tryz.func155, by kernel_rfl, by kernel_rfl⟩ Tryz.func155 rfl rfl ?_
  refine go ?_
  refine RL.boxS hS rfl rfl rfl ?_; (try clear hS); intro b1 m hS; refine ⟨_, rfl, ?_⟩
  refine go ?_
  refine RL.binOp (eqI_eql i ⟨0, 0⟩) (eqI_guard _ _ _ _ _) rfl rfl rfl rfl ?_
  by_cases h0 : i = ⟨0, 0⟩
  · rw [decide_eq_true h0]
    refine go ?_
    exact QN.ret1 rfl rfl ⟨_, rfl, [], ⟨rfl, rfl⟩, hS.tail⟩
  · rw [decide_eq_false h0]
    have hr : i.right = true := by
      unfold named at h
      rw [Bool.or_eq_true] at h
      exact h.resolve_left (by rw [decide_eq_true_eq]; exact h0)
    have hp := rightI_p i
    rw [hr] at hp
    refine go ?_
    refine RL.callU (fi := []) (ca := []) hS hp rfl rfl rfl rfl (by repeat (first | with_reducible exact Sels.nil | apply Sels.ro (by with_reducible repeat (first | exact zS .. | apply zO)) (by rfl) | apply Sels.own (by with_reducible repeat (first | exact Sel.head | apply Sel.tail)))) rfl (fun m hS => ?_)
    refine go ?_
    exact QN.ret1 rfl rfl ⟨_, rfl, [], ⟨rfl, rfl⟩, hS.tail⟩
theorem bare_p (o : Opr) (g : Good o) : Pur Tryz.prog 152 [oV o] [tabA] (.tuple #[oV o, .bool true]) := by
  intro m0 X hS
  have gk := g.kind
  refine FnE.enter ⟨_, Tryz.func152, by kernel_rfl, by kernel_rfl⟩ Tryz.func152 rfl rfl ?_
  refine go ?_
  refine RL.boxS hS rfl rfl rfl ?_; (try clear hS); intro b1 m hS; refine ⟨_, rfl, ?_⟩
  refine go ?_
  refine RL.allocS T_ok rfl hS rfl rfl ?_; (try clear hS); intro b2 m hS; refine ⟨_, rfl, ?_⟩
  refine go ?_
  refine RL.allocS T_ok rfl hS rfl rfl ?_; (try clear hS); intro b3 m hS; refine ⟨_, rfl, ?_⟩
  refine go ?_
  refine RL.ssM T_ok hS rfl rfl rfl rfl rfl (by rfl) (by rfl) (by with_reducible repeat (first | exact Rep.head | apply Rep.tail)) (by rfl) ?_; (try clear hS); intro m hS
  refine go ?_
  rcases gk with ⟨h1, h2, h3, h4, h5, h6, h7, h8, h9, h10⟩ | ⟨h1, h2, h3, h4, h5, h6, h7, h8, h9⟩ | ⟨h1, h2, h3, h4, h5, h6, h7, h8, h9⟩ | ⟨h1, h2, h3, h4, h5, h6, h7, h8, h9⟩
  · have he : o.t.isEmpty = false := by
      cases ht : o.t with
      | nil => rw [Opr.n, if_pos h1, ht] at h3; simp [runesL_nil] at h3
      | cons a l => rfl
    have hlen := ulen_p o.t g.small h2
    have hn4 : decide ((((runesL o.t).getD []).length : Int) ≤ 4096) = true := decide_eq_true (by rw [Opr.n, if_pos h1] at h4; omega)
    have huc := ucheck_s o.t (by have := g.small; omega)
    rw [h2] at huc
    rw [h1]
    refine go ?_
    refine WP.exit ?_; (with_reducible repeat (first | refine QN.tx ?_ | refine QN.bx ?_ | refine QN.block_far rfl ?_ | refine QN.B1 ?_ | refine QN.N1 ?_)); (with_reducible repeat (first | refine WP.S1 ?_ | refine WP.B1 ?_ | refine WP.R1 ?_))
    refine go ?_
    refine RL.storeM T_ok hS rfl rfl rfl rfl (by rfl) (by rfl) (by with_reducible repeat (first | exact Rep.head | apply Rep.tail)) (by rfl) ?_; (try clear hS); intro m hS
    refine go ?_
    refine RL.callU (fi := []) (ca := []) hS huc rfl rfl rfl rfl (by repeat (first | with_reducible exact Sels.nil | apply Sels.ro (by with_reducible repeat (first | exact zS .. | apply zO)) (by rfl) | apply Sels.own (by with_reducible repeat (first | exact Sel.head | apply Sel.tail)))) rfl (fun m hS => ?_)
    refine go ?_
    rw [str_nil, he]
    refine go ?_
    refine RL.callU (fi := []) (ca := []) hS hlen rfl rfl rfl rfl (by repeat (first | with_reducible exact Sels.nil | apply Sels.ro (by with_reducible repeat (first | exact zS .. | apply zO)) (by rfl) | apply Sels.own (by with_reducible repeat (first | exact Sel.head | apply Sel.tail)))) rfl (fun m hS => ?_)
    refine RL.A1 T_ok rfl ?_
    rw [hn4]
    refine RL.A1 T_ok rfl ?_
    refine RL.N1 ?_; (with_reducible repeat (first | refine QN.B1 ?_ | refine QN.N1 ?_))
    (with_reducible repeat (first | refine WP.S1 ?_ | refine WP.B1 ?_))
    refine WP.drawJ [blkA b1 55 (oC o), tabA] hS (by repeat (first | exact AllIn.nil | refine AllIn.cons (by repeat (first | with_reducible exact zS .. | exact zS .. | with_reducible apply zO)) ?_)) (by kernel_rfl) ?_
    refine go ?_
    refine RH.one rfl (by kernel_rfl) rfl ?_
    refine RL.ssM T_ok hS rfl rfl rfl rfl rfl (by rfl) (by rfl) (by with_reducible repeat (first | exact Rep.head | apply Rep.tail)) (by rfl) ?_; (try clear hS); intro m hS
    refine RL.N1 (RH.contM hS (by repeat (first | exact AllIn.nil | refine AllIn.cons (by repeat (first | with_reducible exact zS .. | exact zS .. | with_reducible apply zO)) ?_)) ?_)
    refine go ?_
    refine RH.one rfl (by kernel_rfl) rfl ?_
    refine RL.ssM T_ok hS rfl rfl rfl rfl rfl (by rfl) (by rfl) (by with_reducible repeat (first | exact Rep.head | apply Rep.tail)) (by rfl) ?_; (try clear hS); intro m hS
    refine RL.N1 (RH.contM hS (by repeat (first | exact AllIn.nil | refine AllIn.cons (by repeat (first | with_reducible exact zS .. | exact zS .. | with_reducible apply zO)) ?_)) ?_)
    refine go ?_
    refine WP.exit ?_; (with_reducible repeat (first | refine QN.tx ?_ | refine QN.bx ?_ | refine QN.block_far rfl ?_ | refine QN.B1 ?_ | refine QN.N1 ?_)); (with_reducible repeat (first | refine WP.S1 ?_ | refine WP.B1 ?_ | refine WP.R1 ?_))
    refine go ?_
    refine RL.ssM T_ok hS rfl rfl rfl rfl rfl (by rfl) (by rfl) (by with_reducible repeat (first | exact Rep.head | apply Rep.tail)) (by rfl) ?_; (try clear hS); intro m hS
    refine go ?_
    have hS : Tr m0 (ofps [tabA]) X m [blkA b3 55 (oC o), blkA b2 55 (oC o), blkA b1 55 (oC o), tabA] := by
      refine Eq.mp ?_ hS
      simp [oC, h1, h5, h6, h7, h8, h9, h10, Vl.zero, O0, str]
    exact QN.retV (Res.celT T_ok hS rfl rfl rfl rfl (by with_reducible repeat (first | exact zS .. | apply zO))) ⟨_, rfl, [], ⟨rfl, rfl⟩, hS.tail.tail.tail.tail⟩
  · rw [h1]
    refine go ?_
    refine WP.exit ?_; (with_reducible repeat (first | refine QN.tx ?_ | refine QN.bx ?_ | refine QN.block_far rfl ?_ | refine QN.B1 ?_ | refine QN.N1 ?_)); (with_reducible repeat (first | refine WP.S1 ?_ | refine WP.B1 ?_ | refine WP.R1 ?_))
    refine go ?_
    refine RL.ssM T_ok hS rfl rfl rfl rfl rfl (by rfl) (by rfl) (by with_reducible repeat (first | exact Rep.head | apply Rep.tail)) (by rfl) ?_; (try clear hS); intro m hS
    refine go ?_
    refine RL.callU (fi := []) (ca := []) hS (val_p o.v false h2 (.inr h3)) rfl rfl rfl rfl (by repeat (first | with_reducible exact Sels.nil | apply Sels.ro (by with_reducible repeat (first | exact zS .. | apply zO)) (by rfl) | apply Sels.own (by with_reducible repeat (first | exact Sel.head | apply Sel.tail)))) rfl (fun m hS => ?_)
    refine RL.A1 T_ok rfl ?_
    refine RL.N1 ?_; (with_reducible repeat (first | refine QN.B1 ?_ | refine QN.N1 ?_))
    (with_reducible repeat (first | refine WP.S1 ?_ | refine WP.B1 ?_))
    refine WP.drawJ [blkA b1 55 (oC o), tabA] hS (by repeat (first | exact AllIn.nil | refine AllIn.cons (by repeat (first | with_reducible exact zS .. | exact zS .. | with_reducible apply zO)) ?_)) (by kernel_rfl) ?_
    refine go ?_
    refine RH.one rfl (by kernel_rfl) rfl ?_
    refine RL.ssM T_ok hS rfl rfl rfl rfl rfl (by rfl) (by rfl) (by with_reducible repeat (first | exact Rep.head | apply Rep.tail)) (by rfl) ?_; (try clear hS); intro m hS
    refine RL.N1 (RH.contM hS (by repeat (first | exact AllIn.nil | refine AllIn.cons (by repeat (first | with_reducible exact zS .. | exact zS .. | with_reducible apply zO)) ?_)) ?_)
    refine go ?_
    refine RH.one rfl (by kernel_rfl) rfl ?_
    refine RL.ssM T_ok hS rfl rfl rfl rfl rfl (by rfl) (by rfl) (by with_reducible repeat (first | exact Rep.head | apply Rep.tail)) (by rfl) ?_; (try clear hS); intro m hS
    refine RL.N1 (RH.contM hS (by repeat (first | exact AllIn.nil | refine AllIn.cons (by repeat (first | with_reducible exact zS .. | exact zS .. | with_reducible apply zO)) ?_)) ?_)
    refine go ?_
    refine WP.exit ?_; (with_reducible repeat (first | refine QN.tx ?_ | refine QN.bx ?_ | refine QN.block_far rfl ?_ | refine QN.B1 ?_ | refine QN.N1 ?_)); (with_reducible repeat (first | refine WP.S1 ?_ | refine WP.B1 ?_ | refine WP.R1 ?_))
    refine go ?_
    refine RL.ssM T_ok hS rfl rfl rfl rfl rfl (by rfl) (by rfl) (by with_reducible repeat (first | exact Rep.head | apply Rep.tail)) (by rfl) ?_; (try clear hS); intro m hS
    refine go ?_
    have hS : Tr m0 (ofps [tabA]) X m [blkA b3 55 (oC o), blkA b2 55 (oC o), blkA b1 55 (oC o), tabA] := by
      refine Eq.mp ?_ hS
      simp [oC, h1, h4, h5, h6, h7, h8, h9, O0, str]
    exact QN.retV (Res.celT T_ok hS rfl rfl rfl rfl (by with_reducible repeat (first | exact zS .. | apply zO))) ⟨_, rfl, [], ⟨rfl, rfl⟩, hS.tail.tail.tail.tail⟩
  · rw [h1]
    refine go ?_
    refine WP.exit ?_; (with_reducible repeat (first | refine QN.tx ?_ | refine QN.bx ?_ | refine QN.block_far rfl ?_ | refine QN.B1 ?_ | refine QN.N1 ?_)); (with_reducible repeat (first | refine WP.S1 ?_ | refine WP.B1 ?_ | refine WP.R1 ?_))
    (with_reducible repeat (first | refine WP.S1 ?_ | refine WP.B1 ?_))
    refine WP.drawJ [blkA b1 55 (oC o), tabA] hS (by repeat (first | exact AllIn.nil | refine AllIn.cons (by repeat (first | with_reducible exact zS .. | exact zS .. | with_reducible apply zO)) ?_)) (by kernel_rfl) ?_
    refine go ?_
    refine RH.one rfl (by kernel_rfl) rfl ?_
    refine RL.ssM T_ok hS rfl rfl rfl rfl rfl (by rfl) (by rfl) (by with_reducible repeat (first | exact Rep.head | apply Rep.tail)) (by rfl) ?_; (try clear hS); intro m hS
    refine RL.N1 (RH.contM hS (by repeat (first | exact AllIn.nil | refine AllIn.cons (by repeat (first | with_reducible exact zS .. | exact zS .. | with_reducible apply zO)) ?_)) ?_)
    refine go ?_
    refine RH.one rfl (by kernel_rfl) rfl ?_
    refine RL.ssM T_ok hS rfl rfl rfl rfl rfl (by rfl) (by rfl) (by with_reducible repeat (first | exact Rep.head | apply Rep.tail)) (by rfl) ?_; (try clear hS); intro m hS
    refine RL.N1 (RH.contM hS (by repeat (first | exact AllIn.nil | refine AllIn.cons (by repeat (first | with_reducible exact zS .. | exact zS .. | with_reducible apply zO)) ?_)) ?_)
    refine go ?_
    refine RL.callU (fi := []) (ca := []) hS (val_p o.v false h2 (.inr h3)) rfl rfl rfl rfl (by repeat (first | with_reducible exact Sels.nil | apply Sels.ro (by with_reducible repeat (first | exact zS .. | apply zO)) (by rfl) | apply Sels.own (by with_reducible repeat (first | exact Sel.head | apply Sel.tail)))) rfl (fun m hS => ?_)
    refine go ?_
    rw [h1]
    refine WP.condF rfl ?_
    refine WP.skip ?_; (with_reducible repeat (first | refine QN.B1 ?_ | refine QN.N1 ?_ | refine WP.S1 ?_ | refine WP.B1 ?_ | refine WP.R1 ?_))
    refine WP.drawJ [blkA b1 55 (oC o), tabA] hS (by repeat (first | exact AllIn.nil | refine AllIn.cons (by repeat (first | with_reducible exact zS .. | exact zS .. | with_reducible apply zO)) ?_)) (by kernel_rfl) ?_
    refine go ?_
    refine RH.one rfl (by kernel_rfl) rfl ?_
    refine RL.storeM T_ok hS rfl rfl rfl rfl (by rfl) (by rfl) (by with_reducible repeat (first | exact Rep.head | apply Rep.tail)) (by rfl) ?_; (try clear hS); intro m hS
    refine RL.N1 (RH.contM hS (by repeat (first | exact AllIn.nil | refine AllIn.cons (by repeat (first | with_reducible exact zS .. | exact zS .. | with_reducible apply zO)) ?_)) ?_)
    refine go ?_
    refine RH.one rfl (by kernel_rfl) rfl ?_
    refine RL.ssM T_ok hS rfl rfl rfl rfl rfl (by rfl) (by rfl) (by with_reducible repeat (first | exact Rep.head | apply Rep.tail)) (by rfl) ?_; (try clear hS); intro m hS
    refine RL.N1 (RH.contM hS (by repeat (first | exact AllIn.nil | refine AllIn.cons (by repeat (first | with_reducible exact zS .. | exact zS .. | with_reducible apply zO)) ?_)) ?_)
    refine go ?_
    refine RH.one rfl (by kernel_rfl) rfl ?_
    refine RL.storeM T_ok hS rfl rfl rfl rfl (by rfl) (by rfl) (by with_reducible repeat (first | exact Rep.head | apply Rep.tail)) (by rfl) ?_; (try clear hS); intro m hS
    refine RL.N1 (RH.contM hS (by repeat (first | exact AllIn.nil | refine AllIn.cons (by repeat (first | with_reducible exact zS .. | exact zS .. | with_reducible apply zO)) ?_)) ?_)
    refine go ?_
    refine RL.callU (fi := []) (ca := []) hS (key_p o.key h5) rfl rfl rfl rfl (by repeat (first | with_reducible exact Sels.nil | apply Sels.ro (by with_reducible repeat (first | exact zS .. | apply zO)) (by rfl) | apply Sels.own (by with_reducible repeat (first | exact Sel.head | apply Sel.tail)))) rfl (fun m hS => ?_)
    refine go ?_
    refine RL.callU (fi := []) (ca := []) hS (stamp_p o.st h4) rfl rfl rfl rfl (by repeat (first | with_reducible exact Sels.nil | apply Sels.ro (by with_reducible repeat (first | exact zS .. | apply zO)) (by rfl) | apply Sels.own (by with_reducible repeat (first | exact Sel.head | apply Sel.tail)))) rfl (fun m hS => ?_)
    refine go ?_
    refine WP.exit ?_; (with_reducible repeat (first | refine QN.tx ?_ | refine QN.bx ?_ | refine QN.block_far rfl ?_ | refine QN.B1 ?_ | refine QN.N1 ?_)); (with_reducible repeat (first | refine WP.S1 ?_ | refine WP.B1 ?_ | refine WP.R1 ?_))
    refine go ?_
    refine RL.ssM T_ok hS rfl rfl rfl rfl rfl (by rfl) (by rfl) (by with_reducible repeat (first | exact Rep.head | apply Rep.tail)) (by rfl) ?_; (try clear hS); intro m hS
    refine go ?_
    have hS : Tr m0 (ofps [tabA]) X m [blkA b3 55 (oC o), blkA b2 55 (oC o), blkA b1 55 (oC o), tabA] := by
      refine Eq.mp ?_ hS
      simp [oC, h1, h6, h7, h8, h9, O0, str]
    exact QN.retV (Res.celT T_ok hS rfl rfl rfl rfl (by with_reducible repeat (first | exact zS .. | apply zO))) ⟨_, rfl, [], ⟨rfl, rfl⟩, hS.tail.tail.tail.tail⟩
  · rw [h1]
    refine go ?_
    refine WP.exit ?_; (with_reducible repeat (first | refine QN.tx ?_ | refine QN.bx ?_ | refine QN.block_far rfl ?_ | refine QN.B1 ?_ | refine QN.N1 ?_)); (with_reducible repeat (first | refine WP.S1 ?_ | refine WP.B1 ?_ | refine WP.R1 ?_))
    refine go ?_
    rw [h1]
    refine go ?_
    refine RL.ssM T_ok hS rfl rfl rfl rfl rfl (by rfl) (by rfl) (by with_reducible repeat (first | exact Rep.head | apply Rep.tail)) (by rfl) ?_; (try clear hS); intro m hS
    refine go ?_
    refine RL.callU (fi := []) (ca := []) hS (val_p o.v true h2 (.inl rfl)) rfl rfl rfl rfl (by repeat (first | with_reducible exact Sels.nil | apply Sels.ro (by with_reducible repeat (first | exact zS .. | apply zO)) (by rfl) | apply Sels.own (by with_reducible repeat (first | exact Sel.head | apply Sel.tail)))) rfl (fun m hS => ?_)
    refine RL.A1 T_ok rfl ?_
    refine RL.N1 ?_; (with_reducible repeat (first | refine QN.B1 ?_ | refine QN.N1 ?_))
    (with_reducible repeat (first | refine WP.S1 ?_ | refine WP.B1 ?_))
    refine WP.drawJ [blkA b1 55 (oC o), tabA] hS (by repeat (first | exact AllIn.nil | refine AllIn.cons (by repeat (first | with_reducible exact zS .. | exact zS .. | with_reducible apply zO)) ?_)) (by kernel_rfl) ?_
    refine go ?_
    refine RH.one rfl (by kernel_rfl) rfl ?_
    refine RL.storeM T_ok hS rfl rfl rfl rfl (by rfl) (by rfl) (by with_reducible repeat (first | exact Rep.head | apply Rep.tail)) (by rfl) ?_; (try clear hS); intro m hS
    refine RL.N1 (RH.contM hS (by repeat (first | exact AllIn.nil | refine AllIn.cons (by repeat (first | with_reducible exact zS .. | exact zS .. | with_reducible apply zO)) ?_)) ?_)
    refine go ?_
    refine RH.one rfl (by kernel_rfl) rfl ?_
    refine RL.ssM T_ok hS rfl rfl rfl rfl rfl (by rfl) (by rfl) (by with_reducible repeat (first | exact Rep.head | apply Rep.tail)) (by rfl) ?_; (try clear hS); intro m hS
    refine RL.N1 (RH.contM hS (by repeat (first | exact AllIn.nil | refine AllIn.cons (by repeat (first | with_reducible exact zS .. | exact zS .. | with_reducible apply zO)) ?_)) ?_)
    refine go ?_
    refine RH.one rfl (by kernel_rfl) rfl ?_
    refine RL.storeM T_ok hS rfl rfl rfl rfl (by rfl) (by rfl) (by with_reducible repeat (first | exact Rep.head | apply Rep.tail)) (by rfl) ?_; (try clear hS); intro m hS
    refine RL.N1 (RH.contM hS (by repeat (first | exact AllIn.nil | refine AllIn.cons (by repeat (first | with_reducible exact zS .. | exact zS .. | with_reducible apply zO)) ?_)) ?_)
    refine go ?_
    refine RL.callU (fi := []) (ca := []) hS (key_p o.key h4) rfl rfl rfl rfl (by repeat (first | with_reducible exact Sels.nil | apply Sels.ro (by with_reducible repeat (first | exact zS .. | apply zO)) (by rfl) | apply Sels.own (by with_reducible repeat (first | exact Sel.head | apply Sel.tail)))) rfl (fun m hS => ?_)
    refine go ?_
    refine RL.callU (fi := []) (ca := []) hS (stamp_p o.st h3) rfl rfl rfl rfl (by repeat (first | with_reducible exact Sels.nil | apply Sels.ro (by with_reducible repeat (first | exact zS .. | apply zO)) (by rfl) | apply Sels.own (by with_reducible repeat (first | exact Sel.head | apply Sel.tail)))) rfl (fun m hS => ?_)
    refine go ?_
    refine WP.exit ?_; (with_reducible repeat (first | refine QN.tx ?_ | refine QN.bx ?_ | refine QN.block_far rfl ?_ | refine QN.B1 ?_ | refine QN.N1 ?_)); (with_reducible repeat (first | refine WP.S1 ?_ | refine WP.B1 ?_ | refine WP.R1 ?_))
    refine go ?_
    refine RL.ssM T_ok hS rfl rfl rfl rfl rfl (by rfl) (by rfl) (by with_reducible repeat (first | exact Rep.head | apply Rep.tail)) (by rfl) ?_; (try clear hS); intro m hS
    refine go ?_
    have hS : Tr m0 (ofps [tabA]) X m [blkA b3 55 (oC o), blkA b2 55 (oC o), blkA b1 55 (oC o), tabA] := by
      refine Eq.mp ?_ hS
      simp [oC, h1, h5, h6, h7, h8, h9, O0, str]
    exact QN.retV (Res.celT T_ok hS rfl rfl rfl rfl (by with_reducible repeat (first | exact zS .. | apply zO))) ⟨_, rfl, [], ⟨rfl, rfl⟩, hS.tail.tail.tail.tail⟩
end Go.Proofs.YtgpgladbdoimdaaGreatDoor
end
section
namespace Go.Proofs.YtgpgladbdoimdaaGreatDoor
open Go.ChangeShapes Go.WideShapes Go.ChangeAt Go.RowKit Go.Ev Go.Ids
set_option maxRecDepth 20000
set_option maxHeartbeats 1000000
def aC (a : Anc) : List Value := [.int .u64 a.id.c, .int .u64 a.id.k, .bool a.b]
def aV (a : Anc) : Value := .agg (aC a).toArray
theorem eqA (x y : Anc) (w : World) : (Op.equal 32 (aV x) (aV y)).run Tryz.prog w = .ok (decide (x = y)) w := by
  have hS : Tryz.prog.underlying 32 = some (.struct (Tryz.prog.fieldsOf 32)) := by kernel_rfl
  have hp : Tryz.prog.stoodInHeld 32 = false := by kernel_rfl
  have u4 := Tryz.underlying4
  have a4 := Tryz.isAgg4
  have z4 := Tryz.sizeOf4
  have aI := Tryz.isAgg30
  have zI := Tryz.sizeOf30
  simp only [aV, aC, Op.equal, Op.maxDepth]
  rw [show (10000 : Nat) = 9997 + 2 + 1 from rfl, run_equalIn_agg w (9997 + 2) 32 _ _ hS hp]
  simp only [Program.fieldsOf, Tryz.underlying32]
  go_simp
  obtain ⟨⟨a, b⟩, c⟩ := x
  obtain ⟨⟨a', b'⟩, c'⟩ := y
  by_cases h1 : a = a' <;> by_cases h2 : b = b' <;> by_cases h3 : c = c' <;> simp [h1, h2, h3, Int.natCast_inj]
theorem eqA_eql (x y : Anc) (w : World) : (binOp .eql 32 (aV x) (aV y)).run Tryz.prog w = .ok (.bool (decide (x = y))) w := by
  have h := eqA x y w
  simp only [aV] at h ⊢
  rw [run_eql_struct]
  simp only [Op.equal, Op.maxDepth] at h
  rw [h]; rfl
theorem eqA_guard (op : BinOp) (x y : Anc) (ox oy : Operand) (w : World) : (eqGuard op 32 ox oy (aV x) (aV y)).run Tryz.prog w = .ok () w := run_eqGuard_agg w op 32 ox oy _ _ (by kernel_rfl)
theorem osame_p (o : Opr) : Pur Tryz.prog 153 [oV o, oV o] [] (.bool true) := by
  have I : ∀ (i : Idn) (w : World), (binOp .eql 30 (iV i) (iV i)).run Tryz.prog w = .ok (.bool true) w := fun i w => by rw [eqI_eql, decide_eq_true rfl]
  have A : ∀ (i : Anc) (w : World), (binOp .eql 32 (aV i) (aV i)).run Tryz.prog w = .ok (.bool true) w := fun i w => by rw [eqA_eql, decide_eq_true rfl]
  intro m0 X hS
  refine FnE.enter ⟨_, Tryz.func153, by kernel_rfl, by kernel_rfl⟩ Tryz.func153 rfl rfl ?_
  refine go ?_
  refine RL.boxS hS rfl rfl rfl ?_; (try clear hS); intro b1 m hS; refine ⟨_, rfl, ?_⟩
  refine go ?_
  refine RL.boxS hS rfl rfl rfl ?_; (try clear hS); intro b2 m hS; refine ⟨_, rfl, ?_⟩
  refine go ?_
  refine RL.binOp (I o.id) (eqI_guard _ _ _ _ _) rfl rfl rfl rfl ?_
  refine go ?_
  rw [beq_self_eq_true]
  refine go ?_
  rw [beq_self_eq_true]
  refine go ?_
  refine RL.binOp (I o.l) (eqI_guard _ _ _ _ _) rfl rfl rfl rfl ?_
  refine go ?_
  refine RL.binOp (I o.r) (eqI_guard _ _ _ _ _) rfl rfl rfl rfl ?_
  refine go ?_
  rw [beq_self_eq_true]
  refine go ?_
  refine RL.callU (fi := []) (ca := []) hS (vsame_p o.v) rfl rfl rfl rfl (by repeat (first | with_reducible exact Sels.nil | apply Sels.ro (by with_reducible repeat (first | exact zS .. | apply zO)) (by rfl) | apply Sels.own (by with_reducible repeat (first | exact Sel.head | apply Sel.tail)))) rfl (fun m hS => ?_)
  refine go ?_
  rw [beq_self_eq_true]
  refine go ?_
  refine RL.binOp (I o.p) (eqI_guard _ _ _ _ _) rfl rfl rfl rfl ?_
  refine go ?_
  refine RL.binOp (A o.fr) (eqA_guard _ _ _ _ _) rfl rfl rfl rfl ?_
  refine go ?_
  refine RL.binOp (A o.to) (eqA_guard _ _ _ _ _) rfl rfl rfl rfl ?_
  refine go ?_
  exact QN.ret1 rfl rfl ⟨_, rfl, [], ⟨rfl, rfl⟩, hS.tail.tail⟩
abbrev idsA (S : List Nat) (v : Value) (L : List Idn) : Asn := ownA S 30 2 v L.length (L.flatMap iC)
theorem names_s (o : Opr) : DoS Tryz.prog 157 [oV o] [] (fun r H => ∃ S, H = [idsA S r o.names]) := by
  intro m0 X hS
  refine FnE.enter ⟨_, Tryz.func157, by kernel_rfl, by kernel_rfl⟩ Tryz.func157 rfl rfl ?_
  refine go ?_
  refine RL.boxS hS rfl rfl rfl ?_; (try clear hS); intro b1 m hS; refine ⟨_, rfl, ?_⟩
  refine go ?_
  refine RL.buildSliceM T_ok hS [.tmp 4, .tmp 6, .tmp 9, .tmp 12, .tmp 14] (us := o.names.map iV) (o.names.flatMap iC) rfl rfl rfl rfl rfl rfl (by intro u hu; obtain ⟨_, _, rfl⟩ := List.mem_map.1 hu; rfl) rfl rfl rfl ?_
  clear hS
  intro b' m hS
  refine ⟨_, rfl, ?_⟩
  refine go ?_
  exact QN.ret1 rfl rfl ⟨_, rfl, _, ⟨_, rfl⟩, (hS.perm (.swap ..)).tail⟩
theorem Sels.front : ∀ (O F : List Asn), Sels O (O ++ F) F
  | [], _ => .nil
  | _ :: O, F => .own .head (Sels.front O F)
theorem indexI_s (S : List Nat) (v : Value) (L : List Idn) (O : List Asn) (k : FuncId) (ca : List Value) (p : Idn → Bool) (hb : L.length ≤ 1000000) (hf : ∀ i ∈ L, DoS Tryz.prog k (iV i :: ca) (tabA :: O) (fun r H => r = .bool (p i) ∧ H = O)) :
    DoS Tryz.prog 197 [v, .func (.func k) #[] ca.toArray] (tabA :: (O ++ [idsA S v L])) (fun r H => (∃ z : Int, r = .int .i64 z ∧ ((0 ≤ z ∧ L.any p = true) ∨ (z = -1 ∧ L.any p = false))) ∧ H = O ++ [idsA S v L]) := by
  intro m0 X hS
  have fin : ∀ {m : World}, Tr m0 (ofps (tabA :: (O ++ [idsA S v L]))) X m (O ++ [idsA S v L, tabA]) → Tr m0 (ofps (tabA :: (O ++ [idsA S v L]))) X m (O ++ [idsA S v L]) := fun h => Tr.drop (F := [tabA]) (by simpa using h)
  have hS := hS.perm (List.perm_append_comm (l₁ := [tabA]) (l₂ := O ++ [idsA S v L]))
  have hS : Tr m0 (ofps (tabA :: (O ++ [idsA S v L]))) X m0 (O ++ [idsA S v L, tabA]) := by simpa using hS
  obtain ⟨A, c, hv, hc⟩ := Ev.Own.shape (show Ev.Own m0 S 30 2 v L.length (L.flatMap iC) from hS.mem (A := idsA S v L) (by simp))
  obtain ⟨M0, hM0⟩ : ∃ M0, M0 = ofps (tabA :: (O ++ [idsA S v L])) := ⟨_, rfl⟩
  rw [← hM0] at hS fin ⊢
  refine FnE.enter ⟨_, Tryz.func197, by kernel_rfl, by kernel_rfl⟩ Tryz.func197 rfl rfl ?_
  refine go ?_
  subst hv
  refine go ?_
  refine (WP.loopX (X := Nat) (fun i => [(0, .slice A L.length c), (1, .func (.func k) #[] ca.toArray), (7, .int .i64 L.length), (8, .int .i64 i)])
    (fun i m' => i ≤ L.length ∧ (∀ j x, j < i → L[j]? = some x → p x = false) ∧ Tr m0 M0 X m' (O ++ [idsA S (.slice A L.length c) L, tabA]))
    (fun i m' => (∀ x ∈ L, p x = false) ∧ Tr m0 M0 X m' (O ++ [idsA S (.slice A L.length c) L, tabA]))
    (fun i => L.length - i) 0 0 (Sub.C1 rfl (Sub.C1 rfl (Sub.C1 rfl (Sub.C1 rfl Sub.nil)))) ⟨Nat.zero_le _, fun j x hj => absurd hj (by omega), hS⟩ ?_ ?_)
  · clear hS
    rintro i m ⟨hi, hall, hS⟩
    dsimp only at hi hall hS ⊢
    refine go ?_
    rcases Nat.eq_or_lt_of_le hi with hin | hin
    · have hd : decide ((i : Int) < (L.length : Int)) = false := decide_eq_false (by omega)
      rw [hd]
      refine go ?_
      refine WP.exit (QN.tx (QN.tx (QN.exitJ i (Sub.C1 rfl (Sub.C1 rfl (Sub.C1 rfl (Sub.C1 rfl Sub.nil)))) ⟨fun x hx => ?_, hS⟩)))
      obtain ⟨j, hj, e⟩ := List.getElem_of_mem hx
      exact hall j x (by omega) (by rw [List.getElem?_eq_getElem hj, e])
    · have hd : decide ((i : Int) < (L.length : Int)) = true := decide_eq_true (by omega)
      obtain ⟨x, hx⟩ : ∃ x, L[i]? = some x := ⟨_, List.getElem?_eq_getElem hin⟩
      obtain ⟨g, c', hv', _, _, _⟩ := hS.ownAt (show ownA S 30 2 (.slice A L.length c) L.length (L.flatMap iC) ∈ O ++ [idsA S (.slice A L.length c) L, tabA] by simp) (by omega)
      have hsl := hS.ownSl (show ownA S 30 2 (.slice A L.length c) L.length (L.flatMap iC) ∈ O ++ [idsA S (.slice A L.length c) L, tabA] by simp)
      cases hv'
      rw [hd]
      refine go ?_
      refine RL.ldEA T_ok iC (fun _ => rfl) hsl hx rfl rfl rfl rfl rfl ?_
      refine go ?_
      refine RL.callM (fi := []) (ca := ca) hS (hf x (List.mem_of_getElem? hx)) rfl rfl rfl rfl (.ro (by simp) rfl (Sels.front O _)) ?_
      clear hS hsl
      rintro _ m _ ⟨rfl, rfl⟩ hS
      refine ⟨_, rfl, ?_⟩
      cases hp : p x with
      | true =>
        refine go ?_
        refine QN.exitRet ?_
        (with_reducible repeat (first | refine QN.tr ?_ | refine QN.br ?_))
        exact QN.ret1 rfl rfl ⟨_, rfl, _, ⟨⟨i, rfl, .inl ⟨by omega, List.any_eq_true.2 ⟨x, List.mem_of_getElem? hx, hp⟩⟩⟩, rfl⟩, fin hS⟩
      | false =>
        refine go ?_
        have hw : IntKind.i64.wrap ((i : Int) + 1) = ((i + 1 : Nat) : Int) := by rw [wrap_i64_in _ (by omega) (by omega)]; omega
        rw [hw]
        refine QN.round (i + 1) (Sub.C1 rfl (Sub.C1 rfl (Sub.C1 rfl (Sub.C1 rfl Sub.nil)))) ⟨hin, fun j y hj hy => ?_, hS⟩ (by omega)
        rcases Nat.eq_or_lt_of_le (Nat.le_of_lt_succ hj) with rfl | hj
        · rw [hx] at hy; cases hy; exact hp
        · exact hall j y hj hy
  · clear hS
    rintro _ m ⟨hall, hS⟩
    refine QN.bx ?_
    refine go ?_
    refine QN.ret1 rfl rfl ⟨_, rfl, _, ⟨⟨-1, rfl, .inr ⟨rfl, ?_⟩⟩, rfl⟩, fin hS⟩
    rw [Bool.eq_false_iff]
    intro hh
    obtain ⟨x, hx, h⟩ := List.any_eq_true.1 hh
    rw [hall x hx] at h; cases h
theorem containsI_s (S : List Nat) (v : Value) (L : List Idn) (O : List Asn) (k : FuncId) (ca : List Value) (p : Idn → Bool) (hb : L.length ≤ 1000000) (hf : ∀ i ∈ L, DoS Tryz.prog k (iV i :: ca) (tabA :: O) (fun r H => r = .bool (p i) ∧ H = O)) :
    DoS Tryz.prog 156 [v, .func (.func k) #[] ca.toArray] (tabA :: (O ++ [idsA S v L])) (fun r H => r = .bool (L.any p) ∧ H = O ++ [idsA S v L]) := by
  intro m0 X hS
  refine FnE.enter ⟨_, Tryz.func156, by kernel_rfl, by kernel_rfl⟩ Tryz.func156 rfl rfl ?_
  refine go ?_
  refine RL.callM (F := []) (fi := []) (ca := []) (by simpa using hS) (indexI_s S v L O k ca p hb hf) rfl rfl rfl rfl (Sels.self _) ?_
  rintro _ m _ ⟨⟨z, rfl, hz⟩, rfl⟩ hS
  simp only [List.append_nil] at hS
  have hd : decide (z ≥ 0) = L.any p := by
    rcases hz with ⟨h1, h2⟩ | ⟨h1, h2⟩
    · rw [h2]; exact decide_eq_true h1
    · rw [h2]; exact decide_eq_false (by omega)
  refine ⟨_, rfl, ?_⟩
  refine go ?_
  rw [hd]
  exact QN.ret1 rfl rfl ⟨_, rfl, _, ⟨rfl, rfl⟩, hS⟩
theorem check1_s (b : Nat) (o : Opr) (g : Good o) : ∀ i ∈ o.names, DoS Tryz.prog 154 [iV i, pA b] [tabA, blkA b 167 (oRng o)] (fun r H => r = .bool false ∧ H = [blkA b 167 (oRng o)]) := by
  intro i hi m0 X hS
  have h1 := g.names i hi
  have h2 := g.own i hi
  refine FnE.enter ⟨_, Tryz.func154, by kernel_rfl, by kernel_rfl⟩ Tryz.func154 rfl rfl ?_
  refine go ?_
  refine RL.boxS hS rfl rfl rfl ?_; (try clear hS); intro b2 m hS; refine ⟨_, rfl, ?_⟩
  refine go ?_
  refine RL.callU (fi := []) (ca := []) hS (oid_p i h1) rfl rfl rfl rfl (by repeat (first | with_reducible exact Sels.nil | apply Sels.ro (by with_reducible repeat (first | exact zS .. | apply zO)) (by rfl) | apply Sels.own (by with_reducible repeat (first | exact Sel.head | apply Sel.tail)))) rfl (fun m hS => ?_)
  refine go ?_
  refine RL.buildSliceM T_ok hS [.tmp 8] (us := [.agg (oRng o).toArray]) (oRng o) rfl rfl rfl rfl rfl rfl (by intro u hu; simp only [List.mem_singleton] at hu; subst hu; rfl) rfl rfl rfl ?_
  clear hS
  intro b' m hS
  refine ⟨_, rfl, ?_⟩
  refine go ?_
  have hR : Rs m [] (.slice (some ⟨b', 0, none⟩) 1 1) [⟨o.id.c, o.id.k, o.id.k + o.n⟩] := hS.ownSl (t := 167) (nn := 1) (S := [b']) (xs := oRng o) (by with_reducible repeat (first | exact zS .. | apply zO))
  have hh : hasB [⟨o.id.c, o.id.k, o.id.k + o.n⟩] i = false := by
    rw [Bool.eq_false_iff]
    intro hh
    simp only [hasB, List.any_cons, List.any_nil, Bool.or_false, inR, Bool.and_eq_true, decide_eq_true_eq] at hh
    exact h2 ⟨by omega, by omega, by omega⟩
  refine RL.call (fi := []) (ca := []) rfl rfl rfl rfl (has_c m _ _ hR (by simp) i) ?_
  rintro _ m' ⟨rfl, hE⟩
  have hS := hS.calm hE
  rw [hh]
  refine ⟨_, rfl, ?_⟩
  refine go ?_
  exact QN.ret1 rfl rfl ⟨_, rfl, _, ⟨rfl, rfl⟩, hS.sels (Pre := [blkA b 167 (oRng o)]) (F := _) (by repeat (first | with_reducible exact Sels.nil | apply Sels.ro (by repeat (first | exact zS .. | with_reducible apply zO)) (by rfl) | apply Sels.own (by repeat (first | exact Sel.head | with_reducible apply Sel.tail)))) |>.drop (H := [_])⟩
theorem check_p (o : Opr) (g : Good o) : Pur Tryz.prog 121 [oV o] [tabA] (.int .i64 0) := by
  intro m0 X hS
  have ht := g.top
  have hn := g.n_pos
  refine FnE.enter ⟨_, Tryz.func121, by kernel_rfl, by kernel_rfl⟩ Tryz.func121 rfl rfl ?_
  refine go ?_
  refine RL.boxS hS rfl rfl rfl ?_; (try clear hS); intro b1 m hS; refine ⟨_, rfl, ?_⟩
  refine go ?_
  refine RL.callU (fi := []) (ca := []) hS (bare_p o g) rfl rfl rfl rfl (by repeat (first | with_reducible exact Sels.nil | apply Sels.ro (by with_reducible repeat (first | exact zS .. | apply zO)) (by rfl) | apply Sels.own (by with_reducible repeat (first | exact Sel.head | apply Sel.tail)))) rfl (fun m hS => ?_)
  refine go ?_
  refine RL.allocS T_ok rfl hS rfl rfl ?_; (try clear hS); intro b3 m hS; refine ⟨_, rfl, ?_⟩
  refine go ?_
  refine RL.ssM T_ok hS rfl rfl rfl rfl rfl (by rfl) (by rfl) (by with_reducible repeat (first | exact Rep.head | apply Rep.tail)) (by rfl) ?_; (try clear hS); intro m hS
  refine go ?_
  have hS : Tr m0 (ofps [tabA]) X m [blkA b3 55 (oC o), blkA b1 55 (oC o), tabA] := hS
  refine RL.callU (fi := []) (ca := []) hS (osame_p o) rfl rfl rfl rfl (by repeat (first | with_reducible exact Sels.nil | apply Sels.ro (by with_reducible repeat (first | exact zS .. | apply zO)) (by rfl) | apply Sels.own (by with_reducible repeat (first | exact Sel.head | apply Sel.tail)))) rfl (fun m hS => ?_)
  refine go ?_
  have hp := rightI_p o.id
  rw [g.id] at hp
  refine RL.callU (fi := []) (ca := []) hS hp rfl rfl rfl rfl (by repeat (first | with_reducible exact Sels.nil | apply Sels.ro (by with_reducible repeat (first | exact zS .. | apply zO)) (by rfl) | apply Sels.own (by with_reducible repeat (first | exact Sel.head | apply Sel.tail)))) rfl (fun m hS => ?_)
  refine go ?_
  refine RL.callU (fi := []) (ca := []) hS (orange_p o g) rfl rfl rfl rfl (by repeat (first | with_reducible exact Sels.nil | apply Sels.ro (by with_reducible repeat (first | exact zS .. | apply zO)) (by rfl) | apply Sels.own (by with_reducible repeat (first | exact Sel.head | apply Sel.tail)))) rfl (fun m hS => ?_)
  refine go ?_
  refine RL.allocS T_ok rfl hS rfl rfl ?_; (try clear hS); intro b5 m hS; refine ⟨_, rfl, ?_⟩
  refine go ?_
  refine RL.ssM T_ok hS rfl rfl rfl rfl rfl (by rfl) (by rfl) (by with_reducible repeat (first | exact Rep.head | apply Rep.tail)) (by rfl) ?_; (try clear hS); intro m hS
  refine go ?_
  have hw : IntKind.u64.wrap (((o.id.k + o.n : Nat) : Int) - 1) = ((o.id.k + o.n - 1 : Nat) : Int) := by rw [wrap_u64_in _ (by omega) (by omega)]; omega
  have hd : decide (((o.id.k + o.n - 1 : Nat) : Int) > 9007199254740991) = false := decide_eq_false (by omega)
  rw [hw, hd]
  refine go ?_
  have hS : Tr m0 (ofps [tabA]) X m [blkA b5 167 (oRng o), blkA b3 55 (oC o), blkA b1 55 (oC o), tabA] := hS
  refine RL.callM (fi := []) (ca := []) hS (names_s o) rfl rfl rfl rfl .nil ?_
  clear hS
  rintro v m _ ⟨S, rfl⟩ hS
  simp only [zC, zN] at hS
  refine ⟨_, rfl, ?_⟩
  refine go ?_
  refine RL.callM (fi := []) (ca := []) hS (containsI_s S v o.names [blkA b5 167 (oRng o)] 154 [pA b5] (fun _ => false) (by simp [Opr.names]) (check1_s b5 o g)) rfl rfl rfl rfl (by repeat (first | with_reducible exact Sels.nil | apply Sels.ro (by with_reducible repeat (first | exact zS .. | apply zO)) (by rfl) | apply Sels.own (by with_reducible repeat (first | exact Sel.head | apply Sel.tail)))) ?_
  clear hS
  rintro _ m _ ⟨rfl, rfl⟩ hS
  simp only [zC, zN] at hS
  refine ⟨_, rfl, ?_⟩
  rw [show o.names.any (fun _ => false) = false by simp]
  refine go ?_
  exact QN.ret1 rfl rfl ⟨_, rfl, [], ⟨rfl, rfl⟩, hS.tail.tail.tail.tail.tail⟩
end Go.Proofs.YtgpgladbdoimdaaGreatDoor
end
section
namespace Go.Proofs.YtgpgladbdoimdaaGreatDoor
open Go.ChangeShapes Go.WideShapes Go.ChangeAt Go.RowKit Go.Ev Go.Ids
set_option maxRecDepth 20000
set_option maxHeartbeats 1000000
def encAn (a : Anc) : List UInt8 := encU a.id.c ++ encU a.id.k ++ [if a.b then 1 else 0]
theorem awrite_s (a : Anc) (hc : a.id.c < 18446744073709551616) (hk : a.id.k < 18446744073709551616) (b : Nat) (S : List Nat) (l : List UInt8) (hl : l.length < 100000000) : DoS Tryz.prog 23 [pA b, aV a] [wA b S l] (fun _ H => ∃ S', H = [wA b S' (l ++ encAn a)]) := by
  intro m0 X hS
  have h1 := encU_len10 hc
  have h2 := encU_len10 hk
  refine FnE.enter ⟨_, Tryz.func23, by kernel_rfl, by kernel_rfl⟩ Tryz.func23 rfl rfl ?_
  refine goS ?_
  refine RL.boxS hS rfl rfl rfl ?_; (try clear hS); intro b3 m hS; refine ⟨_, rfl, ?_⟩
  refine goS ?_
  refine RL.callM (fi := []) (ca := []) hS (wuint_s a.id.c hc b S l (by omega)) rfl rfl rfl rfl (by repeat (first | with_reducible exact Sels.nil | apply Sels.ro (by with_reducible repeat (first | exact zS .. | apply zO)) (by rfl) | apply Sels.own (by with_reducible repeat (first | exact Sel.head | apply Sel.tail)))) ?_
  clear hS
  rintro _ m _ ⟨rfl, S1, rfl⟩ hS
  simp only [zC, zN] at hS
  refine ⟨_, rfl, ?_⟩
  refine goS ?_
  refine RL.callM (fi := []) (ca := []) hS (wuint_s a.id.k hk b S1 (l ++ encU a.id.c) (by rw [List.length_append]; omega)) rfl rfl rfl rfl (by repeat (first | with_reducible exact Sels.nil | apply Sels.ro (by with_reducible repeat (first | exact zS .. | apply zO)) (by rfl) | apply Sels.own (by with_reducible repeat (first | exact Sel.head | apply Sel.tail)))) ?_
  clear hS
  rintro _ m _ ⟨rfl, S2, rfl⟩ hS
  simp only [zC, zN] at hS
  refine ⟨_, rfl, ?_⟩
  refine goS ?_
  cases hb : a.b with
  | true =>
    refine goS ?_
    refine RL.callM (fi := []) (ca := []) hS (wbyte_s 1 b S2 (l ++ encU a.id.c ++ encU a.id.k) (by simp only [List.length_append]; omega)) rfl rfl rfl rfl (by repeat (first | with_reducible exact Sels.nil | apply Sels.ro (by with_reducible repeat (first | exact zS .. | apply zO)) (by rfl) | apply Sels.own (by with_reducible repeat (first | exact Sel.head | apply Sel.tail)))) ?_
    clear hS
    rintro _ m _ ⟨rfl, S3, rfl⟩ hS
    refine ⟨_, rfl, ?_⟩
    refine goS ?_
    exact QN.end0 rfl ⟨_, rfl, _, ⟨S3, by simp [encAn, hb]⟩, Tr.drop (H := [_]) hS⟩
  | false =>
    refine goS ?_
    refine RL.callM (fi := []) (ca := []) hS (wbyte_s 0 b S2 (l ++ encU a.id.c ++ encU a.id.k) (by simp only [List.length_append]; omega)) rfl rfl rfl rfl (by repeat (first | with_reducible exact Sels.nil | apply Sels.ro (by with_reducible repeat (first | exact zS .. | apply zO)) (by rfl) | apply Sels.own (by with_reducible repeat (first | exact Sel.head | apply Sel.tail)))) ?_
    clear hS
    rintro _ m _ ⟨rfl, S3, rfl⟩ hS
    refine ⟨_, rfl, ?_⟩
    refine goS ?_
    exact QN.end0 rfl ⟨_, rfl, _, ⟨S3, by simp [encAn, hb]⟩, Tr.drop (H := [_]) hS⟩
theorem rbad_s (b : Nat) (l : List UInt8) (k : Int) : DoS Tryz.prog 79 [pA b, .int .i64 k] [rdA b l 0] (fun _ H => H = [rdA b l k]) := by
  intro m X hT
  exact (bad_c m _ b l 0 k hT.head (by simp [ofps_cons, rdA])).mono fun v m' ⟨_, h2, h3⟩ => ⟨_, rfl, hT.step_same (B := rdA b l k) h3 rfl h2⟩
theorem eqA_neq (x y : Anc) (w : World) : (binOp .neq 32 (aV x) (aV y)).run Tryz.prog w = .ok (.bool !(decide (x = y))) w := by
  have h := eqA x y w
  simp only [aV] at h ⊢
  rw [run_neq_struct]
  simp only [Op.equal, Op.maxDepth] at h
  rw [h]; rfl
def rdAid (s : St) : Idn × UInt8 × St :=
  let c := rdN 9007199254740991 s
  let k := rdN 9007199254740991 c.2
  let n := rdB k.2
  (⟨c.1, k.1⟩, n.1, n.2)
def wrongA (i : Idn) (n : UInt8) : Bool := decide (1 < n.toNat) || (!decide (i = ⟨0, 0⟩) && !i.right)
def rdAnc (s : St) : Anc × St :=
  let r := rdAid s
  if r.2.2.2 = 0 then (if wrongA r.1 r.2.1 then (⟨⟨0, 0⟩, false⟩, r.2.2.1, 11) else (⟨r.1, decide (r.2.1.toNat = 1)⟩, r.2.2)) else (⟨⟨0, 0⟩, false⟩, r.2.2)
theorem aread_s (b : Nat) (l : List UInt8) (e : Int) : DoS Tryz.prog 29 [pA b] [rdA b l e] (fun r H => r = aV (rdAnc (l, e)).1 ∧ H = [rdA b (rdAnc (l, e)).2.1 (rdAnc (l, e)).2.2]) := by
  intro m0 X hS
  obtain ⟨M0, hM0⟩ : ∃ M0, M0 = ofps [rdA b l e] := ⟨_, rfl⟩
  rw [← hM0] at hS ⊢
  refine FnE.enter ⟨_, Tryz.func29, by kernel_rfl, by kernel_rfl⟩ Tryz.func29 rfl rfl ?_
  refine goS ?_
  refine RL.allocS T_ok rfl hS rfl rfl ?_; (try clear hS); intro b2 m hS; refine ⟨_, rfl, ?_⟩
  refine goS ?_
  refine RL.callM (fi := []) (ca := []) hS (ruint_s b l e 9007199254740991) rfl rfl rfl rfl (by repeat (first | with_reducible exact Sels.nil | apply Sels.ro (by with_reducible repeat (first | exact zS .. | apply zO)) (by rfl) | apply Sels.own (by with_reducible repeat (first | exact Sel.head | apply Sel.tail)))) ?_
  clear hS
  obtain ⟨r1, hr1⟩ : ∃ r1, r1 = rdN 9007199254740991 (l, e) := ⟨_, rfl⟩
  rw [← hr1]
  obtain ⟨c, l1, e1⟩ := r1
  rintro _ m _ ⟨rfl, rfl⟩ hS
  simp only [zC, zN] at hS
  refine ⟨_, rfl, ?_⟩
  refine goS ?_
  refine RL.allocS T_ok rfl hS rfl rfl ?_; (try clear hS); intro b3 m hS; refine ⟨_, rfl, ?_⟩
  refine goS ?_
  refine RL.ssM T_ok hS rfl rfl rfl rfl rfl (by rfl) (by rfl) (by with_reducible repeat (first | exact Rep.head | apply Rep.tail)) (by rfl) ?_; (try clear hS); intro m hS
  have hS : Tr m0 M0 X _ (blkA b3 32 (aC ⟨⟨c, 0⟩, false⟩) :: rdA b l1 e1 :: [blkA b2 32 (aC ⟨⟨0, 0⟩, false⟩)]) := hS
  refine goS ?_
  refine RL.callM (fi := []) (ca := []) hS (ruint_s b l1 e1 9007199254740991) rfl rfl rfl rfl (by repeat (first | with_reducible exact Sels.nil | apply Sels.ro (by with_reducible repeat (first | exact zS .. | apply zO)) (by rfl) | apply Sels.own (by with_reducible repeat (first | exact Sel.head | apply Sel.tail)))) ?_
  clear hS
  obtain ⟨r2, hr2⟩ : ∃ r2, r2 = rdN 9007199254740991 (l1, e1) := ⟨_, rfl⟩
  rw [← hr2]
  obtain ⟨k, l2, e2⟩ := r2
  rintro _ m _ ⟨rfl, rfl⟩ hS
  simp only [zC, zN] at hS
  refine ⟨_, rfl, ?_⟩
  refine goS ?_
  refine RL.storeM T_ok hS rfl rfl rfl rfl (by rfl) (by rfl) (by with_reducible repeat (first | exact Rep.head | apply Rep.tail)) (by rfl) ?_; (try clear hS); intro m hS
  have hS : Tr m0 M0 X _ (rdA b l2 e2 :: blkA b3 32 (aC ⟨⟨c, k⟩, false⟩) :: [blkA b2 32 (aC ⟨⟨0, 0⟩, false⟩)]) := hS
  refine goS ?_
  refine RL.callM (fi := []) (ca := []) hS (rbyte_s b l2 e2) rfl rfl rfl rfl (by repeat (first | with_reducible exact Sels.nil | apply Sels.ro (by with_reducible repeat (first | exact zS .. | apply zO)) (by rfl) | apply Sels.own (by with_reducible repeat (first | exact Sel.head | apply Sel.tail)))) ?_
  clear hS
  obtain ⟨r3, hr3⟩ : ∃ r3, r3 = rdB (l2, e2) := ⟨_, rfl⟩
  rw [← hr3]
  obtain ⟨n, l3, e3⟩ := r3
  have hrd : rdAid (l, e) = (⟨c, k⟩, n, l3, e3) := by
    unfold rdAid
    simp only [← hr1, ← hr2, ← hr3]
  rintro _ m _ ⟨rfl, rfl⟩ hS
  simp only [zC, zN] at hS
  refine ⟨_, rfl, ?_⟩
  refine goS ?_
  refine RL.callM (fi := []) (ca := []) hS (rerr_s b l3 e3) rfl rfl rfl rfl (by repeat (first | with_reducible exact Sels.nil | apply Sels.ro (by with_reducible repeat (first | exact zS .. | apply zO)) (by rfl) | apply Sels.own (by with_reducible repeat (first | exact Sel.head | apply Sel.tail)))) ?_
  clear hS
  rintro _ m _ ⟨rfl, rfl⟩ hS
  simp only [zC, zN] at hS
  refine ⟨_, rfl, ?_⟩
  refine goS ?_
  by_cases he : e3 = 0
  · subst he
    have hd : ((0 : Int) == 0) = true := rfl
    rw [hd]
    refine goS ?_
    by_cases hn : 1 < n.toNat
    · have hA : rdAnc (l, e) = (⟨⟨0, 0⟩, false⟩, l3, 11) := by simp [rdAnc, hrd, wrongA, hn]
      have hd : decide (((n.toNat : Nat) : Int) > 1) = true := decide_eq_true (by omega)
      rw [hd]
      refine goS ?_
      refine RL.callM (fi := []) (ca := []) hS (rbad_s b l3 11) rfl rfl rfl rfl (by repeat (first | with_reducible exact Sels.nil | apply Sels.ro (by with_reducible repeat (first | exact zS .. | apply zO)) (by rfl) | apply Sels.own (by with_reducible repeat (first | exact Sel.head | apply Sel.tail)))) ?_
      clear hS
      rintro _ m _ rfl hS
      simp only [zC, zN] at hS
      refine ⟨_, rfl, ?_⟩
      refine goS ?_
      refine RL.callM (fi := []) (ca := []) hS (rerr_s b l3 11) rfl rfl rfl rfl (by repeat (first | with_reducible exact Sels.nil | apply Sels.ro (by with_reducible repeat (first | exact zS .. | apply zO)) (by rfl) | apply Sels.own (by with_reducible repeat (first | exact Sel.head | apply Sel.tail)))) ?_
      clear hS
      rintro _ m _ ⟨rfl, rfl⟩ hS
      simp only [zC, zN] at hS
      refine ⟨_, rfl, ?_⟩
      refine goS ?_
      refine RL.ssM T_ok hS rfl rfl rfl rfl rfl (by rfl) (by rfl) (by with_reducible repeat (first | exact Rep.head | apply Rep.tail)) (by rfl) ?_; (try clear hS); intro m hS
      have hS : Tr m0 M0 X _ (rdA b l3 11 :: blkA b3 32 (aC ⟨⟨c, k⟩, false⟩) :: [blkA b2 32 (aC ⟨⟨0, 0⟩, false⟩)]) := hS
      refine goS ?_
      exact QN.retV (Res.cel T_ok hS rfl rfl rfl (by with_reducible repeat (first | exact zS .. | apply zO))) ⟨_, rfl, [rdA b l3 11], ⟨by rw [hA]; rfl, by rw [hA]⟩, Tr.drop (H := [_]) hS⟩
    · have hd : decide (((n.toNat : Nat) : Int) > 1) = false := decide_eq_false (by omega)
      rw [hd]
      refine goS ?_
      refine RL.binOp (eqI_neq ⟨c, k⟩ ⟨0, 0⟩) (eqI_guard _ _ _ _ _) rfl rfl rfl rfl ?_
      by_cases hz : (⟨c, k⟩ : Idn) = ⟨0, 0⟩
      · have hA : rdAnc (l, e) = (⟨⟨c, k⟩, decide (n.toNat = 1)⟩, l3, 0) := by simp [rdAnc, hrd, wrongA, hn, hz]
        rw [decide_eq_true hz]
        refine goS ?_
        refine RL.callM (fi := []) (ca := []) hS (rerr_s b l3 0) rfl rfl rfl rfl (by repeat (first | with_reducible exact Sels.nil | apply Sels.ro (by with_reducible repeat (first | exact zS .. | apply zO)) (by rfl) | apply Sels.own (by with_reducible repeat (first | exact Sel.head | apply Sel.tail)))) ?_
        clear hS
        rintro _ m _ ⟨rfl, rfl⟩ hS
        simp only [zC, zN] at hS
        refine ⟨_, rfl, ?_⟩
        refine goS ?_
        have hq : (((n.toNat : Nat) : Int) == 1) = decide (n.toNat = 1) := by rw [Bool.eq_iff_iff]; simp; omega
        rw [hq]
        refine RL.storeM T_ok hS rfl rfl rfl rfl (by rfl) (by rfl) (by with_reducible repeat (first | exact Rep.head | apply Rep.tail)) (by rfl) ?_; (try clear hS); intro m hS
        have hS : Tr m0 M0 X _ (rdA b l3 0 :: blkA b3 32 (aC ⟨⟨c, k⟩, decide (n.toNat = 1)⟩) :: [blkA b2 32 (aC ⟨⟨0, 0⟩, false⟩)]) := hS
        refine goS ?_
        refine RL.ssM T_ok hS rfl rfl rfl rfl rfl (by rfl) (by rfl) (by with_reducible repeat (first | exact Rep.head | apply Rep.tail)) (by rfl) ?_; (try clear hS); intro m hS
        have hS : Tr m0 M0 X _ (rdA b l3 0 :: blkA b3 32 (aC ⟨⟨c, k⟩, decide (n.toNat = 1)⟩) :: [blkA b2 32 (aC ⟨⟨c, k⟩, decide (n.toNat = 1)⟩)]) := hS
        refine goS ?_
        exact QN.retV (Res.cel T_ok hS rfl rfl rfl (by with_reducible repeat (first | exact zS .. | apply zO))) ⟨_, rfl, [rdA b l3 0], ⟨by rw [hA]; rfl, by rw [hA]⟩, Tr.drop (H := [_]) hS⟩
      · rw [decide_eq_false hz]
        refine goS ?_
        refine RL.call (fi := []) (ca := []) rfl rfl rfl rfl (rightI_c _ ⟨c, k⟩) ?_
        rintro _ m' ⟨rfl, hE⟩
        have hS := hS.calm hE
        refine ⟨_, rfl, ?_⟩
        cases hr : (⟨c, k⟩ : Idn).right with
        | true =>
          have hA : rdAnc (l, e) = (⟨⟨c, k⟩, decide (n.toNat = 1)⟩, l3, 0) := by simp [rdAnc, hrd, wrongA, hn, hr]
          refine goS ?_
          refine RL.callM (fi := []) (ca := []) hS (rerr_s b l3 0) rfl rfl rfl rfl (by repeat (first | with_reducible exact Sels.nil | apply Sels.ro (by with_reducible repeat (first | exact zS .. | apply zO)) (by rfl) | apply Sels.own (by with_reducible repeat (first | exact Sel.head | apply Sel.tail)))) ?_
          clear hS
          rintro _ m _ ⟨rfl, rfl⟩ hS
          simp only [zC, zN] at hS
          refine ⟨_, rfl, ?_⟩
          refine goS ?_
          have hq : (((n.toNat : Nat) : Int) == 1) = decide (n.toNat = 1) := by rw [Bool.eq_iff_iff]; simp; omega
          rw [hq]
          refine RL.storeM T_ok hS rfl rfl rfl rfl (by rfl) (by rfl) (by with_reducible repeat (first | exact Rep.head | apply Rep.tail)) (by rfl) ?_; (try clear hS); intro m hS
          have hS : Tr m0 M0 X _ (rdA b l3 0 :: blkA b3 32 (aC ⟨⟨c, k⟩, decide (n.toNat = 1)⟩) :: [blkA b2 32 (aC ⟨⟨0, 0⟩, false⟩)]) := hS
          refine goS ?_
          refine RL.ssM T_ok hS rfl rfl rfl rfl rfl (by rfl) (by rfl) (by with_reducible repeat (first | exact Rep.head | apply Rep.tail)) (by rfl) ?_; (try clear hS); intro m hS
          have hS : Tr m0 M0 X _ (rdA b l3 0 :: blkA b3 32 (aC ⟨⟨c, k⟩, decide (n.toNat = 1)⟩) :: [blkA b2 32 (aC ⟨⟨c, k⟩, decide (n.toNat = 1)⟩)]) := hS
          refine goS ?_
          exact QN.retV (Res.cel T_ok hS rfl rfl rfl (by with_reducible repeat (first | exact zS .. | apply zO))) ⟨_, rfl, [rdA b l3 0], ⟨by rw [hA]; rfl, by rw [hA]⟩, Tr.drop (H := [_]) hS⟩
        | false =>
          have hA : rdAnc (l, e) = (⟨⟨0, 0⟩, false⟩, l3, 11) := by simp [rdAnc, hrd, wrongA, hn, hr, hz]
          refine goS ?_
          refine RL.callM (fi := []) (ca := []) hS (rbad_s b l3 11) rfl rfl rfl rfl (by repeat (first | with_reducible exact Sels.nil | apply Sels.ro (by with_reducible repeat (first | exact zS .. | apply zO)) (by rfl) | apply Sels.own (by with_reducible repeat (first | exact Sel.head | apply Sel.tail)))) ?_
          clear hS
          rintro _ m _ rfl hS
          simp only [zC, zN] at hS
          refine ⟨_, rfl, ?_⟩
          refine goS ?_
          refine RL.callM (fi := []) (ca := []) hS (rerr_s b l3 11) rfl rfl rfl rfl (by repeat (first | with_reducible exact Sels.nil | apply Sels.ro (by with_reducible repeat (first | exact zS .. | apply zO)) (by rfl) | apply Sels.own (by with_reducible repeat (first | exact Sel.head | apply Sel.tail)))) ?_
          clear hS
          rintro _ m _ ⟨rfl, rfl⟩ hS
          simp only [zC, zN] at hS
          refine ⟨_, rfl, ?_⟩
          refine goS ?_
          refine RL.ssM T_ok hS rfl rfl rfl rfl rfl (by rfl) (by rfl) (by with_reducible repeat (first | exact Rep.head | apply Rep.tail)) (by rfl) ?_; (try clear hS); intro m hS
          have hS : Tr m0 M0 X _ (rdA b l3 11 :: blkA b3 32 (aC ⟨⟨c, k⟩, false⟩) :: [blkA b2 32 (aC ⟨⟨0, 0⟩, false⟩)]) := hS
          refine goS ?_
          exact QN.retV (Res.cel T_ok hS rfl rfl rfl (by with_reducible repeat (first | exact zS .. | apply zO))) ⟨_, rfl, [rdA b l3 11], ⟨by rw [hA]; rfl, by rw [hA]⟩, Tr.drop (H := [_]) hS⟩
  · have hA : rdAnc (l, e) = (⟨⟨0, 0⟩, false⟩, l3, e3) := by simp [rdAnc, hrd, he]
    have hd : (e3 == 0) = false := beq_eq_false_iff_ne.2 he
    have hd2 : (e3 != 0) = true := by simp [he]
    rw [hd]
    refine goS ?_
    refine RL.callM (fi := []) (ca := []) hS (rerr_s b l3 e3) rfl rfl rfl rfl (by repeat (first | with_reducible exact Sels.nil | apply Sels.ro (by with_reducible repeat (first | exact zS .. | apply zO)) (by rfl) | apply Sels.own (by with_reducible repeat (first | exact Sel.head | apply Sel.tail)))) ?_
    clear hS
    rintro _ m _ ⟨rfl, rfl⟩ hS
    simp only [zC, zN] at hS
    refine ⟨_, rfl, ?_⟩
    refine goS ?_
    rw [hd2]
    refine goS ?_
    refine RL.ssM T_ok hS rfl rfl rfl rfl rfl (by rfl) (by rfl) (by with_reducible repeat (first | exact Rep.head | apply Rep.tail)) (by rfl) ?_; (try clear hS); intro m hS
    have hS : Tr m0 M0 X _ (rdA b l3 e3 :: blkA b3 32 (aC ⟨⟨c, k⟩, false⟩) :: [blkA b2 32 (aC ⟨⟨0, 0⟩, false⟩)]) := hS
    refine goS ?_
    exact QN.retV (Res.cel T_ok hS rfl rfl rfl (by with_reducible repeat (first | exact zS .. | apply zO))) ⟨_, rfl, [rdA b l3 e3], ⟨by rw [hA]; rfl, by rw [hA]⟩, Tr.drop (H := [_]) hS⟩
end Go.Proofs.YtgpgladbdoimdaaGreatDoor
end
section
namespace Go.Proofs.YtgpgladbdoimdaaGreatDoor
open Go.RowKit Go.Ev Go.Ids
set_option maxRecDepth 20000
set_option maxHeartbeats 1000000
theorem enc_nat (z : Nat) (h : Utf8.valid (z : Int) = true) : Utf8.encode (z : Int) = str (Lib.encodeRune (z : Int)) := by
  have hv : z < 55296 ∨ (57344 ≤ z ∧ z ≤ 1114111) := by simp only [Utf8.valid, Bool.or_eq_true, Bool.and_eq_true, decide_eq_true_eq] at h; omega
  have u : ∀ (i : Int) (n : Nat), i = n → i.toNat.toUInt8 = UInt8.ofNat n := fun i n e => by subst e; rfl
  unfold Utf8.encode Lib.encodeRune Lib.encodeRuneZ str
  simp only [h, if_true, Int.toNat_natCast]
  by_cases h1 : z < 128
  · rw [if_pos h1, if_pos (show 0 ≤ (z : Int) ∧ (z : Int) ≤ 127 by omega)]
    simp
  rw [if_neg h1, if_neg (show ¬ (0 ≤ (z : Int) ∧ (z : Int) ≤ 127) by omega)]
  by_cases h2 : z < 2048
  · rw [if_pos h2, if_pos (show 128 ≤ (z : Int) ∧ (z : Int) ≤ 2047 by omega)]
    simp [u (192 + (z : Int) / 64) (192 + z / 64) (by omega), u (128 + (z : Int) % 64) (128 + z % 64) (by omega)]
  rw [if_neg h2, if_neg (show ¬ (128 ≤ (z : Int) ∧ (z : Int) ≤ 2047) by omega)]
  by_cases h3 : z < 65536
  · rw [if_pos h3, if_pos (show (2048 ≤ (z : Int) ∧ (z : Int) < 55296) ∨ (57343 < (z : Int) ∧ (z : Int) ≤ 65535) by omega)]
    simp [u (224 + (z : Int) / 4096) (224 + z / 4096) (by omega), u (128 + (z : Int) / 64 % 64) (128 + z / 64 % 64) (by omega), u (128 + (z : Int) % 64) (128 + z % 64) (by omega)]
  · rw [if_neg h3, if_neg (show ¬ ((2048 ≤ (z : Int) ∧ (z : Int) < 55296) ∨ (57343 < (z : Int) ∧ (z : Int) ≤ 65535)) by omega), if_pos (show 65536 ≤ (z : Int) ∧ (z : Int) ≤ 1114111 by omega)]
    simp [u (240 + (z : Int) / 262144) (240 + z / 262144) (by omega), u (128 + (z : Int) / 4096 % 64) (128 + z / 4096 % 64) (by omega), u (128 + (z : Int) / 64 % 64) (128 + z / 64 % 64) (by omega), u (128 + (z : Int) % 64) (128 + z % 64) (by omega)]
theorem nx_enc (l : List UInt8) (h0 : l ≠ []) (h : (nx l).2 ≠ 0) : Utf8.encode ((nx l).1 : Int) = str (l.take (nx l).2) := by
  have hd := nx_some l h
  have hb : ¬ ((Lib.decodeL l).1 = 65533 ∧ (Lib.decodeL l).2 = 1) := fun hh => by
    have : Lib.decodeL l = (65533, 1) := Prod.ext hh.1 hh.2
    exact h ((nx_zero l h0).2 this)
  have he := Lib.encode_decode l h0 hb
  rw [hd, ← he]
  refine enc_nat _ ?_
  rw [Lib.decodeL_N]
  have key : ∀ z : Nat, (z < 55296 ∨ (57344 ≤ z ∧ z ≤ 1114111)) → Utf8.valid (z : Int) = true := fun z hz => by
    simp only [Utf8.valid, Bool.or_eq_true, Bool.and_eq_true, decide_eq_true_eq]; omega
  refine key _ ?_
  rcases Lib.decodeN_shape l.length (l.getD 0 0).toNat (l.getD 1 0).toNat (l.getD 2 0).toNat (l.getD 3 0).toNat with ⟨c, e⟩ | ⟨c1, c2, c3, cv, e⟩ | ⟨c1, c2, c3, c4, cv, cs, e⟩ | ⟨c1, c2, c3, c4, c5, cv, cw, e⟩ | e <;> rw [e] <;> simp only <;> omega
theorem runes_enc : ∀ (n : Nat) (l : List UInt8) (r : List Nat), l.length ≤ n → runesL l = some r → ∀ s : List UInt8, (r.map (fun z : Nat => (z : Int))).foldl (fun a n => a ++ Utf8.encode n) (str s) = str (s ++ l)
  | 0, l, r, hl, h, s => by
    have : l = [] := List.length_eq_zero_iff.1 (by omega)
    subst this
    cases h; simp
  | n + 1, l, r, hl, h, s => by
    by_cases h0 : l = []
    · subst h0; cases h; simp
    · rw [runesL_step l h0] at h
      split at h
      · cases h
      · rename_i hw
        obtain ⟨r', h1, rfl⟩ := Option.map_eq_some_iff.1 h
        have hwd := (nx_width l h0).resolve_left hw
        have ih := runes_enc n (l.drop (nx l).2) r' (by rw [List.length_drop]; omega) h1 (s ++ l.take (nx l).2)
        rw [List.map_cons, List.foldl_cons, nx_enc l h0 hw]
        have e : str s ++ str (l.take (nx l).2) = str (s ++ l.take (nx l).2) := by
          apply ByteArray.ext; simp [str]
        rw [e, ih, List.append_assoc, List.take_append_drop]
theorem runes1_t (b : Nat) (l : List UInt8) (r : List Nat) (hr : runesL l = some r) (hl : l.length ≤ 1000000) :
    ItT Tryz.prog 225 [pA b] (fun x : Nat × Nat => [.int .i64 x.1, .int .i32 x.2]) (fun pre x => x.1 = pre.length ∧ r[pre.length]? = some x.2) (fun xs => xs.length = r.length) (fun _ H => blkA b 9 [.string (str l)] ∈ H ∧ tabA ∈ H) := by
  intro y I Ix m0 m M0 X H h0 hS hneed hy
  obtain ⟨hV, hV2⟩ := hneed [] H h0
  have hrl := runesL_len _ l r (Nat.le_refl _) hr
  have huc := ucheck_s l (by omega)
  rw [hr] at huc
  refine FnE.enter ⟨_, Tryz.func225, by kernel_rfl, by kernel_rfl⟩ Tryz.func225 rfl rfl ?_
  refine go ?_
  refine RL.loadM T_ok hS rfl rfl rfl hV rfl rfl ?_
  refine go ?_
  refine RL.callU (fi := []) (ca := []) hS huc rfl rfl rfl rfl (.ro hV2 rfl .nil) rfl (fun m hS => ?_)
  refine go ?_
  refine RL.loadM T_ok hS rfl rfl rfl hV rfl rfl ?_
  refine go ?_
  refine RL.rangeStr T_ok hS rfl rfl rfl ?_
  clear hS
  intro bi m hS
  refine ⟨_, rfl, ?_⟩
  refine go ?_
  refine (WP.loop (X := List (Nat × Nat) × Nat × List Asn) (fun x => [(0, .func (.yield y) #[] #[]), (1, pA b), (3, .int .i64 x.1.length), (10, .pointer (some ⟨bi, 0, none⟩))])
    (fun x m' => I x.1 x.2.2 ∧ Tr m0 M0 X m' (itA bi l x.2.1 :: x.2.2) ∧ x.2.1 ≤ l.length ∧ runesL (l.drop x.2.1) = some (r.drop x.1.length) ∧ x.1.length ≤ r.length) (fun x => r.length - x.1.length) ([], 0, H)
    (Sub.C1 rfl (Sub.C1 rfl (Sub.C1 rfl (Sub.C1 rfl Sub.nil)))) ⟨h0, hS, Nat.zero_le _, hr, Nat.zero_le _⟩ ?_)
  clear hS h0 hV hV2
  rintro ⟨pre, pos, H1⟩ m1 ⟨hI, hS, hle, hrr, hpr⟩
  dsimp only at hI hS hle hrr hpr ⊢
  refine go ?_
  rcases Nat.eq_or_lt_of_le hle with hp | hp
  · have he : r.length = pre.length := by
      rw [hp, List.drop_length, runesL_nil] at hrr
      have := congrArg (fun o => (o.getD []).length) hrr
      simp at this; omega
    refine RL.nextEnd hS rfl rfl (by omega) (zS ..) rfl ?_
    refine go ?_
    refine WP.exit ?_
    (with_reducible repeat (first | refine QN.tx ?_ | refine QN.bx ?_ | refine QN.B1 ?_))
    exact QN.end0 rfl ⟨_, rfl, .inl ⟨pre, H1, he.symm, hI, hS.tail⟩⟩
  · have hne : l.drop pos ≠ [] := fun hh => by have := congrArg List.length hh; rw [List.length_drop, List.length_nil] at this; omega
    rw [runesL_step _ hne] at hrr
    split at hrr
    · cases hrr
    rename_i hw
    obtain ⟨r', h1, h2⟩ := Option.map_eq_some_iff.1 hrr
    have hd : Utf8.decode (str l) pos = nx (l.drop pos) := by
      rw [nx_some _ hw]
      show _ = Utf8.decode (str (l.drop pos)) 0
      have e2 : str (l.drop pos) = (str l).extract pos (str l).size := by
        rw [str_extract, str_sz, List.take_of_length_le (Nat.le_refl _)]
      rw [e2, Lib.tail_decode, Nat.add_zero]
    have hwd := (nx_width (l.drop pos) hne).resolve_left hw
    rw [List.length_drop] at hwd
    have hg : r[pre.length]? = some (nx (l.drop pos)).1 := by
      have := congrArg (fun z => z[0]?) h2
      simp only [List.getElem?_cons_zero, List.getElem?_drop, Nat.add_zero] at this
      exact this.symm
    have hlt := (List.getElem?_eq_some_iff.1 hg).1
    have hr' : r.drop (pre.length + 1) = r' := by
      have := congrArg (fun z => z.drop 1) h2
      simp only [List.drop_succ_cons, List.drop_zero, List.drop_drop] at this
      exact this.symm
    refine RL.nextStr hS rfl rfl hp Rep.head rfl ?_
    clear hS
    intro m hS
    rw [hd] at hS ⊢
    refine go ?_
    refine RL.yield rfl rfl rfl (hy pre (pre.length, (nx (l.drop pos)).1) [itA bi l (pos + (nx (l.drop pos)).2)] m H1 hI ⟨rfl, hg⟩ hS) ?_ ?_ ?_
    · rintro v m2 ⟨H2, hS2, hr⟩
      clear hS
      rcases hr with ⟨he, hI2⟩ | ⟨he, hI2⟩ <;> cases he
      · refine ⟨_, rfl, ?_⟩
        have hS := hS2
        refine go ?_
        refine QN.round (pre ++ [(pre.length, (nx (l.drop pos)).1)], pos + (nx (l.drop pos)).2, H2) ?_ ⟨hI2, hS, by show pos + (nx (l.drop pos)).2 ≤ l.length; omega, by rw [← List.drop_drop, h1, List.length_append, List.length_singleton, hr'], by simp; omega⟩ (by simp; omega)
        refine Sub.C1 rfl (Sub.C1 rfl (Sub.C1 ?_ (Sub.C1 rfl Sub.nil)))
        show some (Value.int .i64 (IntKind.i64.wrap ((pre.length : Int) + 1))) = some (.int .i64 ((pre ++ [(pre.length, (nx (l.drop pos)).1)]).length : Nat))
        rw [wrap_i64_in _ (by omega) (by omega)]; simp
      · refine ⟨_, rfl, ?_⟩
        have hS := hS2
        refine go ?_
        exact QN.ret0 rfl ⟨_, rfl, .inr ⟨_, H2, hI2, hS2.tail⟩⟩
    · rintro ch m2 ⟨H2, _, ⟨he, _⟩ | ⟨he, _⟩⟩ <;> cases he
    · rintro m2 ⟨H2, _, ⟨he, _⟩ | ⟨he, _⟩⟩ <;> cases he
theorem runes_s (l : List UInt8) : DoS Tryz.prog 199 [.string (str l)] [] (fun v H => ∃ b, v = .func (.func 225) #[] #[pA b] ∧ H = [blkA b 9 [.string (str l)]]) := by
  intro m0 X hS
  refine FnE.enter ⟨_, Tryz.func199, by kernel_rfl, by kernel_rfl⟩ Tryz.func199 rfl rfl ?_
  refine go ?_
  refine RL.boxS hS rfl rfl rfl ?_; (try clear hS); intro b1 m hS; refine ⟨_, rfl, ?_⟩
  refine go ?_
  exact QN.ret1 rfl rfl ⟨_, rfl, _, ⟨b1, rfl, rfl⟩, hS⟩
theorem _root_.Go.Ev.RL.runesStr {P : Program} {T : Ty} {ops : Array Oper} {Q : Exit → Act → World → Prop} {rest : List Oper} {n : Nat} {e e' : Env} {D : Fr} {m0 m : World} {M0 X : List Nat} {H : List Asn} {d : Option Tmp} {x : Operand} {t t2 te ty : TypeId} {pos : String} {aft : Array Edge} {g : Option (Nat × Bool)} {rt r2 re : Row}
    {S : List Nat} {v : Value} {r : List Nat} {l : List UInt8} (hT : T.Ok P) (hS : Tr m0 M0 X m H) (hrt : T.row t = some rt) (hk : rt.k = .sli te) (hre : T.row te = some re) (hke : re.k = .int .i32) (hr2 : T.row t2 = some r2) (hk2 : r2.k = .str) (hg : gd ops e ⟨d, .convert t t2 x, ty, pos, aft, g⟩ = some true)
    (hx : e.ev x = some v) (hm : ownA S te 1 v r.length (i32s r) ∈ H) (hl : runesL l = some r) (hp : putE n d (.string (str l)) e = some e') (h : RL P ops Q rest n e' D m) : RL P ops Q (⟨d, .convert t t2 x, ty, pos, aft, g⟩ :: rest) n e D m := by
  refine RL.value _ hg (fun a w hf hs => ?_) hp h
  have u1 := (hT.row hrt).k
  rw [hk] at u1
  have u2 := (hT.row hre).k
  rw [hke] at u2
  have u3 := (hT.row hr2).k
  rw [hk2] at u3
  have hb : runesBytes (r.map fun z : Nat => (z : Int)) = str l := runes_enc _ l r (Nat.le_refl _) hl []
  obtain ⟨A, c, rfl, _⟩ := Ev.Own.shape (show Ev.Own m S te 1 v r.length (i32s r) from hS.mem hm)
  have hc := run_convert_runes_string (P := P) w t t2 te A r.length c u1 u2 u3
  have key : (Conv.runesToString (.slice A r.length c)).run P w = .ok (.string (str l)) w := by
    cases A with
    | none =>
      rcases Nat.eq_zero_or_pos r.length with h0 | h0
      · have : r = [] := List.length_eq_zero_iff.1 h0
        subst this
        rw [← hb]
        simp [Conv.runesToString, runesBytes]
      · obtain ⟨g, c', hv, _⟩ := hS.ownAt hm h0
        cases hv
    | some ad =>
      have h1 : (loadCells ad (i32s r).length).run P w = .ok (i32s r).toArray w := by
        refine run_loadCells_list w ad (i32s r) fun j u hu => ?_
        have hlt := (List.getElem?_eq_some_iff.1 hu).1
        rw [i32s_length] at hlt
        have hR := hS.ownSl hm
        rw [hs.cell]
        exact hR.cellE hu (by decide)
      rw [i32s_length] at h1
      have := run_runesToString (P := P) w ad r.length c (r.map fun z : Nat => (z : Int)) (by rw [h1, i32s, List.map_map]; rfl)
      rw [this, hb]
  simp [execOp, hf.ev hx, hc, key]
theorem cut_s (l : List UInt8) (r : List Nat) (hr : runesL l = some r) (hl : l.length ≤ 1000000) : DoS Tryz.prog 160 [.string (str l), .int .i64 0, .int .i64 r.length] [tabA] (fun v H => v = .string (str l) ∧ H = []) := by
  intro m0 X hS
  have hrl := runesL_len _ l r (Nat.le_refl _) hr
  refine FnE.enterM ⟨_, Tryz.func160, by kernel_rfl, by kernel_rfl⟩ Tryz.func160 rfl rfl ?_
  refine go ?_
  refine RL.boxS hS rfl rfl rfl ?_; (try clear hS); intro b4 m hS; refine ⟨_, rfl, ?_⟩
  refine go ?_
  refine RL.boxS hS rfl rfl rfl ?_; (try clear hS); intro b5 m hS; refine ⟨_, rfl, ?_⟩
  refine go ?_
  refine RL.allocS T_ok rfl hS rfl rfl ?_; (try clear hS); intro b7 m hS; refine ⟨_, rfl, ?_⟩
  refine go ?_
  refine RL.callM (fi := []) (ca := []) hS (runes_s l) rfl rfl rfl rfl Sels.nil ?_
  clear hS
  rintro _ m _ ⟨bx, rfl, rfl⟩ hS
  simp only [zC, zN] at hS
  refine ⟨_, rfl, ?_⟩
  refine go ?_
  have hS := hS.empty 21 1 none
  refine WP.rangeT (β := Unit) (fun x : Nat × Nat => [.int .i64 x.1, .int .i32 x.2]) rfl (runes1_t bx l r hr hl) ⟨_, Tryz.func225, by kernel_rfl, by kernel_rfl⟩ hS
    (fun pre H => pre.length ≤ r.length ∧ ∃ S v, H = [ownA S 21 1 v pre.length (i32s (r.take pre.length)), blkA bx 9 [.string (str l)], blkA b7 182 [v], blkA b5 3 [.int .i64 r.length], blkA b4 3 [.int .i64 0], tabA]) (fun _ _ _ => False) ⟨Nat.zero_le _, [], _, rfl⟩ ?_ _ (fun _ => rfl) (fun _ => rfl)
    (fun x _ => [(4, pA b4), (5, pA b5), (7, pA b7), (8, .int .i64 x.1), (9, .int .i32 x.2)]) (fun x _ G => G = []) ?_ ?_ ?_ ?_
  · rintro pre H C ⟨_, S, v, rfl⟩
    simp
  · intro y C pre x G m1 H1 _ _ hS
    refine go ?_
    exact QN.asgT () [] (Sub.C1 rfl (Sub.C1 rfl (Sub.C1 rfl (Sub.C1 rfl (Sub.C1 rfl Sub.nil))))) hS rfl
  · rintro y C pre x _ _ G m2 _ ⟨hple, S, v, rfl⟩ ⟨hx1, hx2⟩ rfl hS
    have hS := hS.mid
    simp only [zC, zN] at hS
    obtain ⟨x1, x2⟩ := x
    obtain rfl : x1 = pre.length := hx1
    have hlt := (List.getElem?_eq_some_iff.1 hx2).1
    have hlt' : pre.length < r.length := hlt
    have hd : decide ((pre.length : Int) ≥ 0) = true := decide_eq_true (by omega)
    have hd' : decide ((pre.length : Int) < (r.length : Int)) = true := decide_eq_true (by omega)
    refine go ?_
    rw [hd]
    refine go ?_
    rw [hd']
    refine go ?_
    refine RL.append1M T_ok hS [.tmp 23] (i32s [x2]) rfl rfl rfl rfl rfl rfl rfl rfl rfl (by simp [Value.cells, i32s]) (by repeat (first | exact Sel.head | apply Sel.tail)) (by simp [Value.cells]) (i32s_one _) (by unfold maxLen; omega) (by show (_ + _) * 4 ≤ _; omega) ?_
    clear hS
    intro b v' m S' hS
    obtain ⟨A', c', rfl, _⟩ := hS.shape
    refine ⟨_, rfl, ?_⟩
    refine go ?_
    refine RL.storeM T_ok hS rfl rfl rfl rfl (by rfl) (by rfl) (by with_reducible repeat (first | exact Rep.head | apply Rep.tail)) (by rfl) ?_; (try clear hS); intro m hS
    refine go ?_
    have e : r.take (pre.length + 1) = r.take pre.length ++ [x2] := by
      rw [List.take_add_one, hx2]; rfl
    refine QN.roundT ((hS.perm (.swap ..)).perm (List.perm_append_comm (l₁ := C :: ownA S' 21 1 (.slice A' (pre.length + 1) c') (pre.length + 1) (i32s (r.take pre.length) ++ i32s [x2]) :: blkA bx 9 [.string (str l)] :: blkA b7 182 [.slice A' (pre.length + 1) c'] :: blkA b5 3 [.int .i64 r.length] :: blkA b4 3 [.int .i64 0] :: [tabA]))) ⟨by simp; omega, S', .slice A' (pre.length + 1) c', ?_⟩
    simp [e, i32s]
  · rintro B rr xs m' _ hxl ⟨_, S, v, rfl⟩ hS
    rw [hxl, List.take_length] at hS
    refine go ?_
    refine RL.runesStr T_ok hS rfl rfl rfl rfl rfl rfl rfl rfl (show ownA S 21 1 v r.length (i32s r) ∈ _ from (by with_reducible repeat (first | exact zS .. | apply zO))) hr rfl ?_
    refine go ?_
    refine QN.leaveT (r := .string (str l)) (.inl rfl) hS (fun m' hS => ?_)
    exact ⟨Res.tmp rfl rfl, ⟨_, rfl, [], ⟨rfl, rfl⟩, hS.tail.tail.tail.tail.tail.tail⟩⟩
  · exact fun _ _ _ _ _ _ h _ => h.elim
end Go.Proofs.YtgpgladbdoimdaaGreatDoor
end
section
namespace Go.Proofs.YtgpgladbdoimdaaGreatDoor
open Go.RowKit Go.Ev Go.Ids
set_option maxRecDepth 20000
set_option maxHeartbeats 1000000
def Opr.clean (o : Opr) : Opr := { o with v := o.v.clean }
theorem Good.clean {o : Opr} (g : Good o) : Good o.clean where
  id := g.id
  top := g.top
  names := g.names
  own := g.own
  small := g.small
  kind := by
    have hz : Vl.zero.clean = Vl.zero := by simp [Vl.clean, Vl.zero, bitsB, nanB_0]
    rcases g.kind with ⟨h1, h2, h3, h4, h5, h6, h7⟩ | ⟨h1, h2, h3⟩ | ⟨h1, h2, h3⟩ | ⟨h1, h2, h3⟩
    · exact .inl ⟨h1, h2, h3, h4, h5, by show o.v.clean = _; rw [h6, hz], h7⟩
    · exact .inr (.inl ⟨h1, h2.clean, h3⟩)
    · exact .inr (.inr (.inl ⟨h1, h2.clean, h3⟩))
    · exact .inr (.inr (.inr ⟨h1, h2.clean, h3⟩))
theorem ocut_p (o : Opr) (g : Good o) : Pur Tryz.prog 124 [oV o, .int .i64 0, .int .i64 o.n] [tabA] (.tuple #[oV o.clean, .bool true]) := by
  intro m0 X hS
  have hn := g.n_pos
  have hn' := g.n_le
  have ht := g.top
  have hd : decide ((0 : Int) ≥ (o.n : Int)) = false := decide_eq_false (by omega)
  have hd2 : decide ((o.n : Int) > (o.n : Int)) = false := decide_eq_false (by omega)
  refine FnE.enter ⟨_, Tryz.func124, by kernel_rfl, by kernel_rfl⟩ Tryz.func124 rfl rfl ?_
  refine go ?_
  refine RL.boxS hS rfl rfl rfl ?_; (try clear hS); intro b3 m hS; refine ⟨_, rfl, ?_⟩
  refine go ?_
  refine RL.allocS T_ok rfl hS rfl rfl ?_; (try clear hS); intro b6 m hS; refine ⟨_, rfl, ?_⟩
  refine go ?_
  rw [hd]
  refine go ?_
  refine RL.callU (fi := []) (ca := []) hS (olen_p o g) rfl rfl rfl rfl (by repeat (first | with_reducible exact Sels.nil | apply Sels.ro (by with_reducible repeat (first | exact zS .. | apply zO)) (by rfl) | apply Sels.own (by with_reducible repeat (first | exact Sel.head | apply Sel.tail)))) rfl (fun m hS => ?_)
  refine go ?_
  rw [hd2]
  refine go ?_
  refine RL.callU (fi := []) (ca := []) hS (vclean_p o.v) rfl rfl rfl rfl (by repeat (first | with_reducible exact Sels.nil | apply Sels.ro (by with_reducible repeat (first | exact zS .. | apply zO)) (by rfl) | apply Sels.own (by with_reducible repeat (first | exact Sel.head | apply Sel.tail)))) rfl (fun m hS => ?_)
  refine go ?_
  refine RL.ssM T_ok hS rfl rfl rfl rfl rfl (by rfl) (by rfl) (by with_reducible repeat (first | exact Rep.head | apply Rep.tail)) (by rfl) ?_; (try clear hS); intro m hS
  have hS : Tr m0 (ofps [tabA]) X m [blkA b6 55 _, blkA b3 55 (oC o.clean), tabA] := hS
  refine go ?_
  by_cases hk : o.k = 1
  · have hd3 : ((o.k : Int) != 1) = false := by simp; omega
    have hr : (runesL o.t).isSome = true := by
      rcases g.kind with h | h | h | h
      · exact h.2.1
      all_goals omega
    obtain ⟨r, hr⟩ := Option.isSome_iff_exists.1 hr
    have hnr : o.n = r.length := by rw [Opr.n, if_pos hk, hr]; rfl
    rw [show ((o.clean.k : Int) != 1) = false from hd3]
    refine go ?_
    rw [hnr]
    refine RL.callU (fi := []) (ca := []) hS (cut_s o.t r hr g.small) rfl rfl rfl rfl (by repeat (first | with_reducible exact Sels.nil | apply Sels.ro (by with_reducible repeat (first | exact zS .. | apply zO)) (by rfl) | apply Sels.own (by with_reducible repeat (first | exact Sel.head | apply Sel.tail)))) rfl (fun m hS => ?_)
    refine go ?_
    refine RL.storeM T_ok hS rfl rfl rfl rfl (by rfl) (by rfl) (by with_reducible repeat (first | exact Rep.head | apply Rep.tail)) (by rfl) ?_; (try clear hS); intro m hS
    refine go ?_
    have hid := g.id
    simp only [Idn.right, num, Bool.and_eq_true, decide_eq_true_eq] at hid
    have hw : IntKind.u64.wrap ((o.clean.id.k : Int) + IntKind.u64.wrap 0) = (o.clean.id.k : Int) := by
      have e : o.clean.id.k = o.id.k := rfl
      rw [e, wrap_u64_in 0 (by omega) (by omega), wrap_u64_in _ (by omega) (by omega)]; omega
    rw [hw]
    refine RL.storeM T_ok hS rfl rfl rfl rfl (by rfl) (by rfl) (by with_reducible repeat (first | exact Rep.head | apply Rep.tail)) (by rfl) ?_; (try clear hS); intro m hS
    refine go ?_
    refine RL.ssM T_ok hS rfl rfl rfl rfl rfl (by rfl) (by rfl) (by with_reducible repeat (first | exact Rep.head | apply Rep.tail)) (by rfl) ?_; (try clear hS); intro m hS
    refine go ?_
    have hS : Tr m0 (ofps [tabA]) X m [blkA b6 55 (oC o.clean), blkA b3 55 (oC o.clean), tabA] := hS
    exact QN.retV (Res.celT T_ok hS rfl rfl rfl rfl (by with_reducible repeat (first | exact zS .. | apply zO))) ⟨_, rfl, [], ⟨rfl, rfl⟩, hS.tail.tail.tail⟩
  · have hd3 : ((o.k : Int) != 1) = true := by simp; omega
    rw [show ((o.clean.k : Int) != 1) = true from hd3]
    refine go ?_
    refine RL.ssM T_ok hS rfl rfl rfl rfl rfl (by rfl) (by rfl) (by with_reducible repeat (first | exact Rep.head | apply Rep.tail)) (by rfl) ?_; (try clear hS); intro m hS
    refine go ?_
    have hS : Tr m0 (ofps [tabA]) X m [blkA b6 55 (oC o.clean), blkA b3 55 (oC o.clean), tabA] := hS
    exact QN.retV (Res.celT T_ok hS rfl rfl rfl rfl (by with_reducible repeat (first | exact zS .. | apply zO))) ⟨_, rfl, [], ⟨rfl, rfl⟩, hS.tail.tail.tail⟩
end Go.Proofs.YtgpgladbdoimdaaGreatDoor
end
section
namespace Go.Proofs.YtgpgladbdoimdaaGreatDoor
open Go.RowKit Go.Ev Go.Ids
set_option maxRecDepth 20000
set_option maxHeartbeats 1000000
theorem countW_p (l : List UInt8) (hl : l.length ≤ 1000000000000) (h : (runesL l).isSome = true) : Pur Tryz.prog 222 [.string (str l)] [tabA] (.int .i64 ((runesL l).getD []).length) := by
  intro m X hS
  obtain ⟨r, hr⟩ := Option.isSome_iff_exists.1 h
  refine ⟨⟨_, Tryz.func222, by kernel_rfl, by kernel_rfl⟩, fun w hs => ?_⟩
  refine (Any.utf8_RuneCountInString Tryz.count (str l) w (by rw [str_sz]; omega)).mono fun e w' ⟨he, pos, hb⟩ => ?_
  subst hb
  refine ⟨m.alloc (.stringIter (str l) pos), hs.alloc _, _, he, [], ⟨by rw [runes_count _ _ _ (Nat.le_refl _) hr, hr]; rfl, rfl⟩, Tr.drop (H := []) (F := [tabA]) (hS.calm ((Chg.alloc m _).new (Nat.le_refl _)))⟩
theorem ulenW_p (l : List UInt8) (hl : l.length ≤ 1000000000000) : Pur Tryz.prog 192 [.string (str l)] [tabA] (.int .i64 ((runesL l).getD []).length) := by
  intro m0 X hS
  have hc := ucheck_s l (by omega)
  refine FnE.enter ⟨_, Tryz.func192, by kernel_rfl, by kernel_rfl⟩ Tryz.func192 rfl rfl ?_
  refine go ?_
  refine RL.callU (fi := []) (ca := []) hS hc rfl rfl rfl rfl (by repeat (first | with_reducible exact Sels.nil | apply Sels.ro (by with_reducible repeat (first | exact zS .. | apply zO)) (by rfl) | apply Sels.own (by with_reducible repeat (first | exact Sel.head | apply Sel.tail)))) rfl (fun m hS => ?_)
  cases h : (runesL l).isSome with
  | true =>
    refine go ?_
    refine RL.callU (fi := []) (ca := []) hS (countW_p l hl h) rfl rfl rfl rfl (by repeat (first | with_reducible exact Sels.nil | apply Sels.ro (by with_reducible repeat (first | exact zS .. | apply zO)) (by rfl) | apply Sels.own (by with_reducible repeat (first | exact Sel.head | apply Sel.tail)))) rfl (fun m hS => ?_)
    refine go ?_
    exact QN.ret1 rfl rfl ⟨_, rfl, [], ⟨rfl, rfl⟩, hS.tail⟩
  | false =>
    refine go ?_
    have : runesL l = none := by cases hr : runesL l with
      | none => rfl
      | some r => rw [hr] at h; cases h
    exact QN.ret1 rfl rfl ⟨_, rfl, [], ⟨by rw [this]; rfl, rfl⟩, hS.tail⟩
theorem olenW_p (o : Opr) (hl : o.t.length ≤ 1000000000000) : Pur Tryz.prog 158 [oV o] [tabA] (.int .i64 o.n) := by
  intro m0 X hS
  refine FnE.enter ⟨_, Tryz.func158, by kernel_rfl, by kernel_rfl⟩ Tryz.func158 rfl rfl ?_
  refine go ?_
  refine RL.boxS hS rfl rfl rfl ?_; (try clear hS); intro b1 m hS; refine ⟨_, rfl, ?_⟩
  refine go ?_
  by_cases hk : o.k = 1
  · have hd : ((o.k : Int) == 1) = true := by simp; omega
    rw [hd]
    refine go ?_
    refine RL.callU (fi := []) (ca := []) hS (ulenW_p o.t hl) rfl rfl rfl rfl (by repeat (first | with_reducible exact Sels.nil | apply Sels.ro (by with_reducible repeat (first | exact zS .. | apply zO)) (by rfl) | apply Sels.own (by with_reducible repeat (first | exact Sel.head | apply Sel.tail)))) rfl (fun m hS => ?_)
    refine go ?_
    exact QN.ret1 rfl rfl ⟨_, rfl, [], ⟨by rw [Opr.n, if_pos hk], rfl⟩, hS.tail.tail⟩
  · have hd : ((o.k : Int) == 1) = false := by simp; omega
    rw [hd]
    refine go ?_
    exact QN.ret1 rfl rfl ⟨_, rfl, [], ⟨by rw [Opr.n, if_neg hk]; rfl, rfl⟩, hS.tail.tail⟩
def oEnd (o : Opr) : Int := IntKind.u64.wrap ((o.id.k : Int) + IntKind.u64.wrap (o.n : Int))
def oRngW (o : Opr) : List Value := [.int .u64 o.id.c, .int .u64 o.id.k, .int .u64 (oEnd o)]
theorem orangeW_p (o : Opr) (hl : o.t.length ≤ 1000000000000) : Pur Tryz.prog 122 [oV o] [tabA] (.agg (oRngW o).toArray) := by
  intro m0 X hS
  refine FnE.enter ⟨_, Tryz.func122, by kernel_rfl, by kernel_rfl⟩ Tryz.func122 rfl rfl ?_
  refine go ?_
  refine RL.boxS hS rfl rfl rfl ?_; (try clear hS); intro b1 m hS; refine ⟨_, rfl, ?_⟩
  refine go ?_
  refine RL.allocS T_ok rfl hS rfl rfl ?_
  clear hS
  intro b2 m hS
  refine ⟨_, rfl, ?_⟩
  refine RL.N1 ?_; (with_reducible repeat (first | refine QN.B1 ?_ | refine QN.N1 ?_))
  (with_reducible repeat (first | refine WP.S1 ?_ | refine WP.B1 ?_))
  refine WP.drawL [blkA b1 55 (oC o), tabA] hS (by repeat (first | exact AllIn.nil | refine AllIn.cons (by repeat (first | with_reducible exact zS .. | exact zS .. | with_reducible apply zO)) ?_)) rfl (by kernel_rfl) ?_
  refine go ?_
  refine RH.callU (fi := []) (ca := []) hS (olenW_p o hl) rfl (by kernel_rfl) rfl rfl rfl rfl rfl (by repeat (first | with_reducible exact Sels.nil | apply Sels.ro (by with_reducible repeat (first | exact zS .. | apply zO)) (by rfl) | apply Sels.own (by with_reducible repeat (first | exact Sel.head | apply Sel.tail)))) (by repeat (first | exact AllIn.nil | refine AllIn.cons (by repeat (first | with_reducible exact zS .. | exact zS .. | with_reducible apply zO)) ?_)) rfl (fun m hS => ?_)
  refine go ?_
  refine RH.one rfl (by kernel_rfl) rfl ?_
  refine RL.ssM T_ok hS rfl rfl rfl rfl rfl (by rfl) (by rfl) (by with_reducible repeat (first | exact Rep.head | apply Rep.tail)) (by rfl) ?_; (try clear hS); intro m hS
  refine RL.N1 (RF.last (by kernel_rfl) (QN.calm ?_))
  refine go ?_
  have hS : Tr m0 (ofps [tabA]) X m [blkA b2 167 (oRngW o), blkA b1 55 (oC o), tabA] := hS
  exact QN.retV (Res.cel T_ok hS rfl rfl rfl (by with_reducible repeat (first | exact zS .. | apply zO))) ⟨_, rfl, [], ⟨rfl, rfl⟩, hS.tail.tail.tail⟩
theorem follows_s (a b : Opr) (ha : a.t.length ≤ 1000000000000) : DoS Tryz.prog 226 [oV a, oV b] [tabA] (fun r H => (∃ q : Bool, r = .bool q) ∧ H = []) := by
  intro m0 X hS
  have fin : ∀ {m : World} {b1 b2 b5 : Nat}, Tr m0 (ofps [tabA]) X m [blkA b5 167 (oRngW a), blkA b2 55 (oC b), blkA b1 55 (oC a), tabA] → Tr m0 (ofps [tabA]) X m [] := fun h => h.tail.tail.tail.tail
  refine FnE.enter ⟨_, Tryz.func226, by kernel_rfl, by kernel_rfl⟩ Tryz.func226 rfl rfl ?_
  refine go ?_
  refine RL.boxS hS rfl rfl rfl ?_; (try clear hS); intro b1 m hS; refine ⟨_, rfl, ?_⟩
  refine go ?_
  refine RL.boxS hS rfl rfl rfl ?_; (try clear hS); intro b2 m hS; refine ⟨_, rfl, ?_⟩
  refine go ?_
  refine RL.callU (fi := []) (ca := []) hS (orangeW_p a ha) rfl rfl rfl rfl (by repeat (first | with_reducible exact Sels.nil | apply Sels.ro (by with_reducible repeat (first | exact zS .. | apply zO)) (by rfl) | apply Sels.own (by with_reducible repeat (first | exact Sel.head | apply Sel.tail)))) rfl (fun m hS => ?_)
  refine go ?_
  refine RL.allocS T_ok rfl hS rfl rfl ?_; (try clear hS); intro b5 m hS; refine ⟨_, rfl, ?_⟩
  refine go ?_
  refine RL.ssM T_ok hS rfl rfl rfl rfl rfl (by rfl) (by rfl) (by with_reducible repeat (first | exact Rep.head | apply Rep.tail)) (by rfl) ?_; (try clear hS); intro m hS
  have hS : Tr m0 (ofps [tabA]) X m [blkA b5 167 (oRngW a), blkA b2 55 (oC b), blkA b1 55 (oC a), tabA] := hS
  refine go ?_
  generalize ((a.k : Int) == 1) = q1
  cases q1 with
  | false =>
    refine go ?_
    exact QN.ret1 rfl rfl ⟨_, rfl, [], ⟨⟨_, rfl⟩, rfl⟩, fin hS⟩
  | true =>
  refine go ?_
  generalize ((b.k : Int) == 1) = q2
  cases q2 with
  | false =>
    refine go ?_
    exact QN.ret1 rfl rfl ⟨_, rfl, [], ⟨⟨_, rfl⟩, rfl⟩, fin hS⟩
  | true =>
  refine go ?_
  generalize ((a.id.c : Int) == (b.id.c : Int)) = q3
  cases q3 with
  | false =>
    refine go ?_
    exact QN.ret1 rfl rfl ⟨_, rfl, [], ⟨⟨_, rfl⟩, rfl⟩, fin hS⟩
  | true =>
  refine go ?_
  generalize ((b.id.k : Int) == oEnd a) = q4
  cases q4 with
  | false =>
    refine go ?_
    exact QN.ret1 rfl rfl ⟨_, rfl, [], ⟨⟨_, rfl⟩, rfl⟩, fin hS⟩
  | true =>
  refine go ?_
  obtain ⟨z, hz⟩ : ∃ z : Nat, IntKind.u64.wrap (oEnd a - 1) = (z : Int) := ⟨(IntKind.u64.wrap (oEnd a - 1)).toNat, by rw [wrap_u64]; omega⟩
  rw [hz]
  refine RL.binOp (eqI_eql b.l ⟨a.id.c, z⟩) (eqI_guard _ _ _ _ _) rfl rfl rfl rfl ?_
  generalize decide (b.l = (⟨a.id.c, z⟩ : Idn)) = q5
  cases q5 with
  | false =>
    refine go ?_
    exact QN.ret1 rfl rfl ⟨_, rfl, [], ⟨⟨_, rfl⟩, rfl⟩, fin hS⟩
  | true =>
  refine go ?_
  refine RL.binOp (eqI_eql a.r b.r) (eqI_guard _ _ _ _ _) rfl rfl rfl rfl ?_
  refine go ?_
  exact QN.ret1 rfl rfl ⟨_, rfl, [], ⟨⟨_, rfl⟩, rfl⟩, fin hS⟩
theorem fits_s (a b : Opr) (ha : a.t.length ≤ 1000000000000) (hb : b.t.length ≤ 1000000000000) : DoS Tryz.prog 205 [oV a, oV b] [tabA] (fun r H => (∃ q : Bool, r = .bool q) ∧ H = []) := by
  intro m0 X hS
  refine FnE.enter ⟨_, Tryz.func205, by kernel_rfl, by kernel_rfl⟩ Tryz.func205 rfl rfl ?_
  refine go ?_
  refine RL.boxS hS rfl rfl rfl ?_; (try clear hS); intro b1 m hS; refine ⟨_, rfl, ?_⟩
  refine go ?_
  refine RL.boxS hS rfl rfl rfl ?_; (try clear hS); intro b2 m hS; refine ⟨_, rfl, ?_⟩
  refine go ?_
  refine RH.callS (fi := []) (ca := []) hS (follows_s a b ha) rfl (by kernel_rfl) rfl rfl rfl rfl rfl (by repeat (first | with_reducible exact Sels.nil | apply Sels.ro (by with_reducible repeat (first | exact zS .. | apply zO)) (by rfl) | apply Sels.own (by with_reducible repeat (first | exact Sel.head | apply Sel.tail)))) ?_
  clear hS
  rintro _ m _ ⟨⟨q, rfl⟩, rfl⟩ hS
  simp only [List.nil_append] at hS
  refine ⟨AllIn.self _, _, rfl, ?_⟩
  cases q with
  | false =>
    refine go ?_
    exact QN.ret1 rfl rfl ⟨_, rfl, [], ⟨⟨_, rfl⟩, rfl⟩, hS.tail.tail.tail⟩
  | true =>
  refine go ?_
  refine RH.callU (fi := []) (ca := []) hS (olenW_p a ha) rfl (by kernel_rfl) rfl rfl rfl rfl rfl (by repeat (first | with_reducible exact Sels.nil | apply Sels.ro (by with_reducible repeat (first | exact zS .. | apply zO)) (by rfl) | apply Sels.own (by with_reducible repeat (first | exact Sel.head | apply Sel.tail)))) (AllIn.self _) rfl (fun m hS => ?_)
  refine go ?_
  refine RH.callU (fi := []) (ca := []) hS (olenW_p b hb) rfl (by kernel_rfl) rfl rfl rfl rfl rfl (by repeat (first | with_reducible exact Sels.nil | apply Sels.ro (by with_reducible repeat (first | exact zS .. | apply zO)) (by rfl) | apply Sels.own (by with_reducible repeat (first | exact Sel.head | apply Sel.tail)))) (AllIn.self _) rfl (fun m hS => ?_)
  refine go ?_
  exact QN.ret1 rfl rfl ⟨_, rfl, [], ⟨⟨_, rfl⟩, rfl⟩, hS.tail.tail.tail⟩
end Go.Proofs.YtgpgladbdoimdaaGreatDoor
end
section
namespace Go.Proofs.YtgpgladbdoimdaaGreatDoor
open Go.RowKit Go.Ev Go.Ids
set_option maxRecDepth 20000
set_option maxHeartbeats 1000000
theorem _root_.Go.Ev.RL.runesStrG {P : Program} {T : Ty} {ops : Array Oper} {Q : Exit → Act → World → Prop} {rest : List Oper} {n : Nat} {e e' : Env} {D : Fr} {m0 m : World} {M0 X : List Nat} {H : List Asn} {d : Option Tmp} {x : Operand} {t t2 te ty : TypeId} {pos : String} {aft : Array Edge} {g : Option (Nat × Bool)} {rt r2 re : Row}
    {S : List Nat} {v : Value} {r : List Nat} (hT : T.Ok P) (hS : Tr m0 M0 X m H) (hrt : T.row t = some rt) (hk : rt.k = .sli te) (hre : T.row te = some re) (hke : re.k = .int .i32) (hr2 : T.row t2 = some r2) (hk2 : r2.k = .str) (hg : gd ops e ⟨d, .convert t t2 x, ty, pos, aft, g⟩ = some true)
    (hx : e.ev x = some v) (hm : ownA S te 1 v r.length (i32s r) ∈ H) (hp : putE n d (.string (str (runesBytes (r.map fun z : Nat => (z : Int))).data.toList)) e = some e') (h : RL P ops Q rest n e' D m) : RL P ops Q (⟨d, .convert t t2 x, ty, pos, aft, g⟩ :: rest) n e D m := by
  have u1 := (hT.row hrt).k
  rw [hk] at u1
  have u2 := (hT.row hre).k
  rw [hke] at u2
  have u3 := (hT.row hr2).k
  rw [hk2] at u3
  have hb : str (runesBytes (r.map fun z : Nat => (z : Int))).data.toList = runesBytes (r.map fun z : Nat => (z : Int)) := by simp [str]
  rw [hb] at hp
  refine RL.value _ hg (fun a w hf hs => ?_) hp h
  obtain ⟨A, c, rfl, _⟩ := Ev.Own.shape (show Ev.Own m S te 1 v r.length (i32s r) from hS.mem hm)
  have hc := run_convert_runes_string (P := P) w t t2 te A r.length c u1 u2 u3
  have key : (Conv.runesToString (.slice A r.length c)).run P w = .ok (.string (runesBytes (r.map fun z : Nat => (z : Int)))) w := by
    cases A with
    | none =>
      rcases Nat.eq_zero_or_pos r.length with h0 | h0
      · have : r = [] := List.length_eq_zero_iff.1 h0
        subst this
        simp [Conv.runesToString, runesBytes]
      · obtain ⟨g, c', hv, _⟩ := hS.ownAt hm h0
        cases hv
    | some ad =>
      have h1 : (loadCells ad (i32s r).length).run P w = .ok (i32s r).toArray w := by
        refine run_loadCells_list w ad (i32s r) fun j u hu => ?_
        have hlt := (List.getElem?_eq_some_iff.1 hu).1
        rw [i32s_length] at hlt
        have hR := hS.ownSl hm
        rw [hs.cell]
        exact hR.cellE hu (by decide)
      rw [i32s_length] at h1
      have := run_runesToString (P := P) w ad r.length c (r.map fun z : Nat => (z : Int)) (by rw [h1, i32s, List.map_map]; rfl)
      rw [this]
  simp [execOp, hf.ev hx, hc, key]
theorem cutG_s (l : List UInt8) (r : List Nat) (hr : runesL l = some r) (hl : l.length ≤ 1000000) (f t : Int) : DoS Tryz.prog 160 [.string (str l), .int .i64 f, .int .i64 t] [tabA] (fun v H => (∃ l', v = .string (str l') ∧ l'.length ≤ 4 * l.length) ∧ H = []) := by
  intro m0 X hS
  have hrl := runesL_len _ l r (Nat.le_refl _) hr
  refine FnE.enterM ⟨_, Tryz.func160, by kernel_rfl, by kernel_rfl⟩ Tryz.func160 rfl rfl ?_
  refine go ?_
  refine RL.boxS hS rfl rfl rfl ?_; (try clear hS); intro b4 m hS; refine ⟨_, rfl, ?_⟩
  refine go ?_
  refine RL.boxS hS rfl rfl rfl ?_; (try clear hS); intro b5 m hS; refine ⟨_, rfl, ?_⟩
  refine go ?_
  refine RL.allocS T_ok rfl hS rfl rfl ?_; (try clear hS); intro b7 m hS; refine ⟨_, rfl, ?_⟩
  refine go ?_
  refine RL.callM (fi := []) (ca := []) hS (runes_s l) rfl rfl rfl rfl Sels.nil ?_
  clear hS
  rintro _ m _ ⟨bx, rfl, rfl⟩ hS
  simp only [zC, zN] at hS
  refine ⟨_, rfl, ?_⟩
  refine go ?_
  have hS := hS.empty 21 1 none
  refine WP.rangeT (β := Unit) (fun x : Nat × Nat => [.int .i64 x.1, .int .i32 x.2]) rfl (runes1_t bx l r hr hl) ⟨_, Tryz.func225, by kernel_rfl, by kernel_rfl⟩ hS
    (fun pre H => pre.length ≤ r.length ∧ ∃ S v q, q.length ≤ pre.length ∧ H = [ownA S 21 1 v q.length (i32s q), blkA bx 9 [.string (str l)], blkA b7 182 [v], blkA b5 3 [.int .i64 t], blkA b4 3 [.int .i64 f], tabA]) (fun _ _ _ => False) ⟨Nat.zero_le _, [], _, [], Nat.le_refl _, rfl⟩ ?_ _ (fun _ => rfl) (fun _ => rfl)
    (fun x _ => [(4, pA b4), (5, pA b5), (7, pA b7), (8, .int .i64 x.1), (9, .int .i32 x.2)]) (fun x _ G => G = []) ?_ ?_ ?_ ?_
  · rintro pre H C ⟨_, S, v, q, _, rfl⟩
    simp
  · intro y C pre x G m1 H1 _ _ hS
    refine go ?_
    exact QN.asgT () [] (Sub.C1 rfl (Sub.C1 rfl (Sub.C1 rfl (Sub.C1 rfl (Sub.C1 rfl Sub.nil))))) hS rfl
  · rintro y C pre x _ _ G m2 _ ⟨hple, S, v, q, hq, rfl⟩ ⟨hx1, hx2⟩ rfl hS
    have hS := hS.mid
    simp only [zC, zN] at hS
    obtain ⟨x1, x2⟩ := x
    obtain rfl : x1 = pre.length := hx1
    have hlt := (List.getElem?_eq_some_iff.1 hx2).1
    have hlt' : pre.length < r.length := hlt
    have skip : ∀ {m : World}, Tr m0 (ofps [tabA]) X m (C :: ownA S 21 1 v q.length (i32s q) :: blkA bx 9 [.string (str l)] :: blkA b7 182 [v] :: blkA b5 3 [.int .i64 t] :: blkA b4 3 [.int .i64 f] :: tabA :: G) →
        Tr m0 (ofps [tabA]) X m (G ++ C :: [ownA S 21 1 v q.length (i32s q), blkA bx 9 [.string (str l)], blkA b7 182 [v], blkA b5 3 [.int .i64 t], blkA b4 3 [.int .i64 f], tabA]) := fun h =>
      h.perm (List.perm_append_comm (l₁ := C :: ownA S 21 1 v q.length (i32s q) :: blkA bx 9 [.string (str l)] :: blkA b7 182 [v] :: blkA b5 3 [.int .i64 t] :: blkA b4 3 [.int .i64 f] :: [tabA]))
    refine go ?_
    generalize decide ((pre.length : Int) ≥ f) = q1
    cases q1 with
    | false =>
      refine go ?_
      exact QN.roundT (skip hS) ⟨by simp; omega, S, v, q, by simp; omega, rfl⟩
    | true =>
    refine go ?_
    generalize decide ((pre.length : Int) < t) = q2
    cases q2 with
    | false =>
      refine go ?_
      exact QN.roundT (skip hS) ⟨by simp; omega, S, v, q, by simp; omega, rfl⟩
    | true =>
    refine go ?_
    refine RL.append1M T_ok hS [.tmp 23] (i32s [x2]) rfl rfl rfl rfl rfl rfl rfl rfl rfl (by simp [Value.cells, i32s]) (by repeat (first | exact Sel.head | apply Sel.tail)) (by simp [Value.cells]) (i32s_one _) (by unfold maxLen; omega) (by show (_ + _) * 4 ≤ _; omega) ?_
    clear hS
    intro b v' m S' hS
    obtain ⟨A', c', rfl, _⟩ := hS.shape
    refine ⟨_, rfl, ?_⟩
    refine go ?_
    refine RL.storeM T_ok hS rfl rfl rfl rfl (by rfl) (by rfl) (by with_reducible repeat (first | exact Rep.head | apply Rep.tail)) (by rfl) ?_; (try clear hS); intro m hS
    refine go ?_
    refine QN.roundT ((hS.perm (.swap ..)).perm (List.perm_append_comm (l₁ := C :: ownA S' 21 1 (.slice A' (q.length + 1) c') (q.length + 1) (i32s q ++ i32s [x2]) :: blkA bx 9 [.string (str l)] :: blkA b7 182 [.slice A' (q.length + 1) c'] :: blkA b5 3 [.int .i64 t] :: blkA b4 3 [.int .i64 f] :: [tabA]))) ⟨by simp; omega, S', .slice A' (q.length + 1) c', q ++ [x2], by simp; omega, ?_⟩
    simp [i32s]
  · rintro B rr xs m' _ hxl ⟨_, S, v, q, hq, rfl⟩ hS
    refine go ?_
    refine RL.runesStrG T_ok hS rfl rfl rfl rfl rfl rfl rfl rfl (show ownA S 21 1 v q.length (i32s q) ∈ _ from (by with_reducible repeat (first | exact zS .. | apply zO))) rfl ?_
    refine go ?_
    refine QN.leaveT (r := .string (str (runesBytes (q.map fun z : Nat => (z : Int))).data.toList)) (.inl rfl) hS (fun m' hS => ?_)
    refine ⟨Res.tmp rfl rfl, ⟨_, rfl, [], ⟨⟨_, rfl, ?_⟩, rfl⟩, hS.tail.tail.tail.tail.tail.tail⟩⟩
    have h1 := runesBytes_size_le (q.map fun z : Nat => (z : Int))
    have h2 : (runesBytes (q.map fun z : Nat => (z : Int))).data.toList.length = (runesBytes (q.map fun z : Nat => (z : Int))).size := by rw [Array.length_toList]; rfl
    rw [List.length_map] at h1
    omega
  · exact fun _ _ _ _ _ _ h _ => h.elim
theorem ocutG_s (o : Opr) (g : Good o) (w : Nat) (hw : 0 < w) (hw2 : w ≤ 1000000) : DoS Tryz.prog 124 [oV o, .int .i64 w, .int .i64 o.n] [tabA] (fun r H => (∃ o' q, r = .tuple #[oV o', .bool q] ∧ o'.t.length ≤ 10000000) ∧ H = []) := by
  intro m0 X hS
  have hn := g.n_pos
  have hn' := g.n_le
  have ht := g.top
  have hd0 : decide ((w : Int) < 0) = false := decide_eq_false (by omega)
  have hd2 : decide ((o.n : Int) > (o.n : Int)) = false := decide_eq_false (by omega)
  refine FnE.enter ⟨_, Tryz.func124, by kernel_rfl, by kernel_rfl⟩ Tryz.func124 rfl rfl ?_
  refine go ?_
  refine RL.boxS hS rfl rfl rfl ?_; (try clear hS); intro b3 m hS; refine ⟨_, rfl, ?_⟩
  refine go ?_
  refine RL.allocS T_ok rfl hS rfl rfl ?_; (try clear hS); intro b6 m hS; refine ⟨_, rfl, ?_⟩
  refine go ?_
  rw [hd0]
  refine go ?_
  rcases Nat.lt_or_ge w o.n with hwn | hwn
  · have hd : decide ((w : Int) ≥ (o.n : Int)) = false := decide_eq_false (by omega)
    have hk : o.k = 1 := by
      by_cases hk : o.k = 1
      · exact hk
      · rw [Opr.n, if_neg hk] at hwn; omega
    have hr : (runesL o.t).isSome = true := by
      rcases g.kind with h | h | h | h
      · exact h.2.1
      all_goals omega
    obtain ⟨r, hr⟩ := Option.isSome_iff_exists.1 hr
    rw [hd]
    refine go ?_
    refine RL.callU (fi := []) (ca := []) hS (olen_p o g) rfl rfl rfl rfl (by repeat (first | with_reducible exact Sels.nil | apply Sels.ro (by with_reducible repeat (first | exact zS .. | apply zO)) (by rfl) | apply Sels.own (by with_reducible repeat (first | exact Sel.head | apply Sel.tail)))) rfl (fun m hS => ?_)
    refine go ?_
    rw [hd2]
    refine go ?_
    refine RL.callU (fi := []) (ca := []) hS (vclean_p o.v) rfl rfl rfl rfl (by repeat (first | with_reducible exact Sels.nil | apply Sels.ro (by with_reducible repeat (first | exact zS .. | apply zO)) (by rfl) | apply Sels.own (by with_reducible repeat (first | exact Sel.head | apply Sel.tail)))) rfl (fun m hS => ?_)
    refine go ?_
    refine RL.ssM T_ok hS rfl rfl rfl rfl rfl (by rfl) (by rfl) (by with_reducible repeat (first | exact Rep.head | apply Rep.tail)) (by rfl) ?_; (try clear hS); intro m hS
    have hS : Tr m0 (ofps [tabA]) X m [blkA b6 55 _, blkA b3 55 (oC o.clean), tabA] := hS
    refine go ?_
    rw [show ((o.clean.k : Int) != 1) = false by have : o.clean.k = 1 := hk; simp [this]]
    refine go ?_
    refine RL.callM (fi := []) (ca := []) hS (cutG_s o.t r hr g.small w o.n) rfl rfl rfl rfl (by repeat (first | with_reducible exact Sels.nil | apply Sels.ro (by with_reducible repeat (first | exact zS .. | apply zO)) (by rfl) | apply Sels.own (by with_reducible repeat (first | exact Sel.head | apply Sel.tail)))) ?_
    clear hS
    rintro _ m _ ⟨⟨l', rfl, hl'⟩, rfl⟩ hS
    simp only [List.nil_append] at hS
    refine ⟨_, rfl, ?_⟩
    refine go ?_
    refine RL.storeM T_ok hS rfl rfl rfl rfl (by rfl) (by rfl) (by with_reducible repeat (first | exact Rep.head | apply Rep.tail)) (by rfl) ?_; (try clear hS); intro m hS
    refine go ?_
    have hid := g.id
    simp only [Idn.right, num, Bool.and_eq_true, decide_eq_true_eq] at hid
    have hwk : IntKind.u64.wrap ((o.clean.id.k : Int) + IntKind.u64.wrap (w : Int)) = ((o.id.k + w : Nat) : Int) := by
      have e : o.clean.id.k = o.id.k := rfl
      rw [e, wrap_u64_in (w : Int) (by omega) (by omega), wrap_u64_in _ (by omega) (by omega)]; omega
    have hd3 : decide ((w : Int) > 0) = true := decide_eq_true (by omega)
    rw [hwk]
    refine RL.storeM T_ok hS rfl rfl rfl rfl (by rfl) (by rfl) (by with_reducible repeat (first | exact Rep.head | apply Rep.tail)) (by rfl) ?_; (try clear hS); intro m hS
    refine go ?_
    rw [hd3]
    refine go ?_
    have hwk2 : IntKind.u64.wrap (((o.id.k + w : Nat) : Int) - 1) = ((o.id.k + w - 1 : Nat) : Int) := by rw [wrap_u64_in _ (by omega) (by omega)]; omega
    rw [hwk2]
    refine RL.ssM T_ok hS rfl rfl rfl rfl rfl (by rfl) (by rfl) (by with_reducible repeat (first | exact Rep.head | apply Rep.tail)) (by rfl) ?_; (try clear hS); intro m hS
    refine go ?_
    refine RL.ssM T_ok hS rfl rfl rfl rfl rfl (by rfl) (by rfl) (by with_reducible repeat (first | exact Rep.head | apply Rep.tail)) (by rfl) ?_; (try clear hS); intro m hS
    refine go ?_
    obtain ⟨o', ho'⟩ : ∃ o' : Opr, o' = { o.clean with id := ⟨o.id.c, o.id.k + w⟩, l := ⟨o.id.c, o.id.k + w - 1⟩, t := l' } := ⟨_, rfl⟩
    have hS : Tr m0 (ofps [tabA]) X m [blkA b6 55 (oC o'), blkA b3 55 (oC o'), tabA] := by rw [ho']; exact hS
    have hsm := g.small
    exact QN.retV (Res.celT T_ok hS rfl rfl rfl rfl (by with_reducible repeat (first | exact zS .. | apply zO))) ⟨_, rfl, [], ⟨⟨o', true, rfl, by rw [ho']; show l'.length ≤ _; omega⟩, rfl⟩, hS.tail.tail.tail⟩
  · have hd : decide ((w : Int) ≥ (o.n : Int)) = true := decide_eq_true (by omega)
    rw [hd]
    refine go ?_
    refine RL.ssM T_ok hS rfl rfl rfl rfl rfl (by rfl) (by rfl) (by with_reducible repeat (first | exact Rep.head | apply Rep.tail)) (by rfl) ?_; (try clear hS); intro m hS
    refine go ?_
    obtain ⟨o', ho'⟩ : ∃ o' : Opr, o' = ⟨O0, 0, 0, O0, O0, [], .zero, [], O0, ⟨O0, false⟩, ⟨O0, false⟩⟩ := ⟨_, rfl⟩
    have hS : Tr m0 (ofps [tabA]) X m [blkA b6 55 (oC o'), blkA b3 55 (oC o), tabA] := by rw [ho']; exact hS
    exact QN.retV (Res.celT T_ok hS rfl rfl rfl rfl (by with_reducible repeat (first | exact zS .. | apply zO))) ⟨_, rfl, [], ⟨⟨o', false, rfl, by rw [ho']; simp⟩, rfl⟩, hS.tail.tail.tail⟩
end Go.Proofs.YtgpgladbdoimdaaGreatDoor
end
section
namespace Go.Proofs.YtgpgladbdoimdaaGreatDoor
open Go.ChangeShapes Go.WideShapes Go.ChangeAt Go.RowKit Go.Ev Go.Ids
set_option maxRecDepth 20000
set_option maxHeartbeats 1000000
def nU (n : Nat) : Value := .int .u64 n
theorem u64K : KeyT Tryz.prog 28 nU where
  desc := ⟨_, Tryz.underlying28, .inl fun a b => by simp only [nU, Instr.sameNow, if_true, Option.some.injEq]; rw [Bool.eq_iff_iff]; simp; omega⟩
  eq := fun a b w _ _ => by
    have u37 := Tryz.underlying28
    simp only [nU, Op.equal, Op.maxDepth]
    rw [show (10000 : Nat) = 9999 + 1 from rfl]
    unfold Op.equalIn
    simp [run_underlying u37]
    rw [Bool.eq_iff_iff]; simp; omega
  chk := fun z a w => by
    have u37 := Tryz.underlying28
    rw [show (10000 : Nat) = 9999 + 1 from rfl]
    unfold Instr.checkKey
    simp only [Sem.run_bind, run_underlying u37, Result.andThen_ok, Sem.run_pure]
  bits := fun a => by simp [Instr.sameBits, nU]
structure Sr where
  c : Nat
  S : List Nat
  v : Value
  L : List Opr
abbrev opsA (S : List Nat) (v : Value) (L : List Opr) : Asn := ownA S 55 22 v L.length (L.flatMap oC)
def Sr.A (r : Sr) : Asn := opsA r.S r.v r.L
def stE (R : List Sr) : List (Nat × Value) := R.map fun r => (r.c, r.v)
abbrev stH (s rm : Nat) (w1 w2 : Value) (R : List Sr) (F : List Asn) : List Asn := blkA s 213 [.map (some rm), w1, w2] :: mapA rm nU (stE R) :: (R.map Sr.A ++ F)
def StOk (B : Nat) (R : List Sr) : Prop := ∀ r ∈ R, 0 < r.L.length ∧ r.L.length ≤ B ∧ ∀ o ∈ r.L, o.t.length ≤ 10000000 * (B + 1)
def stPr (s B : Nat) (L : List Asn) : Prop := ∃ rm w1 w2 R, L = blkA s 213 [.map (some rm), w1, w2] :: mapA rm nU (stE R) :: R.map Sr.A ∧ StOk B R
abbrev stA (S : List Nat) (s B : Nat) : Asn := exA S (stPr s B)
theorem st_open {m0 m : World} {M0 X : List Nat} {F : List Asn} {S : List Nat} {s B : Nat} (h : Tr m0 M0 X m (stA S s B :: F)) : ∃ rm w1 w2 R, StOk B R ∧ Tr m0 M0 X m (stH s rm w1 w2 R F) := by
  obtain ⟨L, ⟨rm, w1, w2, R, rfl, k⟩, hS⟩ := h.open
  exact ⟨rm, w1, w2, R, k, hS⟩
theorem st_close {m0 m : World} {M0 X : List Nat} {F : List Asn} {s B rm : Nat} {w1 w2 : Value} {R : List Sr} (k : StOk B R) (h : Tr m0 M0 X m (stH s rm w1 w2 R F)) : ∃ S, Tr m0 M0 X m (stA S s B :: F) :=
  ⟨_, Tr.close (L := blkA s 213 [.map (some rm), w1, w2] :: mapA rm nU (stE R) :: R.map Sr.A) h ⟨rm, w1, w2, R, rfl, k⟩⟩
theorem stE_get (c : Nat) : ∀ R : List Sr, (mget (stE R) c = none) ∨ ∃ R1 r R2, R = R1 ++ r :: R2 ∧ r.c = c ∧ mget (stE R) c = some r.v
  | [] => .inl rfl
  | r :: R => by
    by_cases h : r.c = c
    · exact .inr ⟨[], r, R, rfl, h, by simp [stE, mget, h]⟩
    · have e : mget (stE (r :: R)) c = mget (stE R) c := by simp [stE, mget, h]
      rw [e]
      rcases stE_get c R with h1 | ⟨R1, r', R2, rfl, h2, h3⟩
      · exact .inl h1
      · exact .inr ⟨r :: R1, r', R2, rfl, h2, h3⟩
theorem known_s (S : List Nat) (s B c : Nat) (hB : B ≤ 10000) : DoS Tryz.prog 203 [pA s, nU c] [tabA, stA S s B] (fun r H => (∃ n : Nat, r = nU n ∧ n < 18446744073709551616) ∧ ∃ S', H = [stA S' s B]) := by
  intro m0 X hS
  have hS := hS.perm (.swap ..)
  obtain ⟨rm, w1, w2, R, k, hS⟩ := st_open hS
  refine FnE.enter ⟨_, Tryz.func203, by kernel_rfl, by kernel_rfl⟩ Tryz.func203 rfl rfl ?_
  refine go ?_
  rcases stE_get c R with h | ⟨R1, r, R2, rfl, hc, h⟩
  · refine RL.lookup (κ := Nat) (k := c) (es := stE R) (v := .slice none 0 0) T_ok hS u64K rfl rfl rfl rfl rfl rfl (by with_reducible repeat (first | exact zS .. | apply zO)) (by rw [h]; rfl) rfl ?_
    refine go ?_
    obtain ⟨S', hS⟩ := st_close k hS
    exact QN.ret1 rfl rfl ⟨_, rfl, _, ⟨⟨0, rfl, by decide⟩, S', rfl⟩, hS.drop (H := [_])⟩
  · refine RL.lookup (κ := Nat) (k := c) (es := stE (R1 ++ r :: R2)) (v := r.v) T_ok hS u64K rfl rfl rfl rfl rfl rfl (by with_reducible repeat (first | exact zS .. | apply zO)) (by rw [h]; rfl) rfl ?_
    have hm : ownA r.S 55 22 r.v r.L.length (r.L.flatMap oC) ∈ stH s rm w1 w2 (R1 ++ r :: R2) [tabA] := by simp [Sr.A]
    obtain ⟨hpos, hlen, htx⟩ := k r (by simp)
    obtain ⟨g, cp, hv, _, _, _⟩ := hS.ownAt hm hpos
    have hsl := hS.ownSl hm
    rw [hv] at hsl ⊢
    obtain ⟨o, ho⟩ : ∃ o, r.L[r.L.length - 1]? = some o := ⟨_, List.getElem?_eq_getElem (by omega)⟩
    have hot := htx o (List.mem_of_getElem? ho)
    have hd : ((r.L.length : Int) == 0) = false := beq_eq_false_iff_ne.2 (by omega)
    have hw : IntKind.i64.wrap ((r.L.length : Int) - 1) = ((r.L.length - 1 : Nat) : Int) := by rw [wrap_i64_in _ (by omega) (by omega)]; omega
    refine go ?_
    rw [hd]
    refine go ?_
    rw [hw]
    refine RL.indexAddr (k := r.L.length - 1) T_ok rfl rfl rfl rfl rfl rfl rfl (by omega) rfl ?_
    refine RL.ldEA T_ok oC (fun _ => rfl) hsl ho rfl rfl rfl rfl rfl ?_
    refine go ?_
    refine RL.callU (fi := []) (ca := []) hS (orangeW_p o (by omega)) rfl rfl rfl rfl (.ro (by simp) rfl .nil) rfl (fun m hS => ?_)
    refine go ?_
    refine RL.field T_ok rfl rfl rfl rfl rfl rfl rfl rfl ?_
    refine go ?_
    obtain ⟨S', hS⟩ := st_close k hS
    obtain ⟨z, hz⟩ : ∃ z : Nat, IntKind.u64.wrap (oEnd o - 1) = (z : Int) ∧ z < 18446744073709551616 := ⟨(IntKind.u64.wrap (oEnd o - 1)).toNat, by rw [wrap_u64]; omega, by rw [wrap_u64]; omega⟩
    exact QN.ret1 rfl rfl ⟨_, rfl, _, ⟨⟨z, by rw [hz.1]; rfl, hz.2⟩, S', rfl⟩, hS.drop (H := [_])⟩
end Go.Proofs.YtgpgladbdoimdaaGreatDoor
end
section
namespace Go.Proofs.YtgpgladbdoimdaaGreatDoor
open Go.ChangeShapes Go.WideShapes Go.ChangeAt Go.RowKit Go.Ev Go.Ids
set_option maxRecDepth 20000
set_option maxHeartbeats 1000000
theorem stnew_s : DoS Tryz.prog 81 [] [] (fun r H => ∃ S s, r = pA s ∧ H = [stA S s 0]) := by
  intro m0 X hS
  refine FnE.enter ⟨_, Tryz.func81, by kernel_rfl, by kernel_rfl⟩ Tryz.func81 rfl rfl ?_
  refine go ?_
  refine RL.makeMap hS nU rfl ?_
  clear hS
  intro rm m hS
  refine ⟨_, rfl, ?_⟩
  refine go ?_
  refine RL.boxS hS rfl rfl rfl ?_; (try clear hS); intro b m hS; refine ⟨_, rfl, ?_⟩
  refine go ?_
  obtain ⟨S, hS⟩ := st_close (s := b) (B := 0) (R := []) (rm := rm) (w1 := .slice none 0 0) (w2 := .slice none 0 0) (F := []) (fun r hr => by cases hr) hS
  exact QN.ret1 rfl rfl ⟨_, rfl, _, ⟨S, b, rfl, rfl⟩, hS⟩
theorem rest_s (S : List Nat) (s B : Nat) (hB : B ≤ 10000) (o : Opr) (g : Good o) : DoS Tryz.prog 204 [pA s, oV o] [tabA, stA S s B] (fun r H => (∃ o' q, r = .tuple #[oV o', .bool q] ∧ o'.t.length ≤ 10000000) ∧ ∃ S', H = [stA S' s B]) := by
  intro m0 X hS
  have hid := g.id
  simp only [Idn.right, num, Bool.and_eq_true, decide_eq_true_eq] at hid
  have hsm := g.small
  refine FnE.enter ⟨_, Tryz.func204, by kernel_rfl, by kernel_rfl⟩ Tryz.func204 rfl rfl ?_
  refine go ?_
  refine RL.boxS hS rfl rfl rfl ?_; (try clear hS); intro b3 m hS; refine ⟨_, rfl, ?_⟩
  refine go ?_
  refine RL.allocS T_ok rfl hS rfl rfl ?_; (try clear hS); intro b4 m hS; refine ⟨_, rfl, ?_⟩
  refine go ?_
  refine RL.callM (fi := []) (ca := []) hS (known_s S s B o.id.c hB) rfl rfl rfl rfl (by repeat (first | with_reducible exact Sels.nil | apply Sels.ro (by with_reducible repeat (first | exact zS .. | apply zO)) (by rfl) | apply Sels.own (by with_reducible repeat (first | exact Sel.head | apply Sel.tail)))) ?_
  clear hS
  rintro _ m _ ⟨⟨n, rfl, hn⟩, S1, rfl⟩ hS
  simp only [zC, zN] at hS
  refine ⟨_, rfl, ?_⟩
  refine go ?_
  rcases Nat.lt_or_ge n o.id.k with hlt | hge
  · have hd : decide ((n : Int) < (o.id.k : Int)) = true := decide_eq_true (by omega)
    rw [hd]
    refine go ?_
    refine RL.ssM T_ok hS rfl rfl rfl rfl rfl (by rfl) (by rfl) (by with_reducible repeat (first | exact Rep.head | apply Rep.tail)) (by rfl) ?_; (try clear hS); intro m hS
    refine go ?_
    have hS : Tr m0 (ofps [tabA, stA S s B]) X m [stA S1 s B, blkA b4 55 (oC o), blkA b3 55 (oC o), tabA] := hS
    exact QN.retV (Res.celT T_ok hS rfl rfl rfl rfl (by with_reducible repeat (first | exact zS .. | apply zO))) ⟨_, rfl, _, ⟨⟨o, true, rfl, by omega⟩, S1, rfl⟩, hS.drop (H := [_])⟩
  · have hd : decide ((n : Int) < (o.id.k : Int)) = false := decide_eq_false (by omega)
    rw [hd]
    refine WP.condF rfl ?_
    refine WP.skip ?_; (with_reducible repeat (first | refine QN.B1 ?_ | refine QN.N1 ?_ | refine WP.S1 ?_ | refine WP.B1 ?_ | refine WP.R1 ?_))
    obtain ⟨w, hw⟩ : ∃ w : Nat, w = min (n - o.id.k + 1) 4096 := ⟨_, rfl⟩
    refine WP.drawJ [blkA b3 55 (oC o), tabA] hS (by repeat (first | exact AllIn.nil | refine AllIn.cons (by repeat (first | with_reducible exact zS .. | exact zS .. | with_reducible apply zO)) ?_)) (by kernel_rfl) ?_
    refine go ?_
    have hw1 : IntKind.u64.wrap (IntKind.u64.wrap ((n : Int) - (o.id.k : Int)) + 1) = ((n - o.id.k + 1 : Nat) : Int) := by rw [wrap_u64_in ((n : Int) - (o.id.k : Int)) (by omega) (by omega), wrap_u64_in _ (by omega) (by omega)]; omega
    have hw2 : IntKind.i64.wrap (if (4096 : Int) < ((n - o.id.k + 1 : Nat) : Int) then 4096 else ((n - o.id.k + 1 : Nat) : Int)) = (w : Int) := by
      have : (if (4096 : Int) < ((n - o.id.k + 1 : Nat) : Int) then (4096 : Int) else ((n - o.id.k + 1 : Nat) : Int)) = (w : Int) := by split <;> omega
      rw [this, wrap_i64_in _ (by omega) (by omega)]
    rw [hw1, hw2]
    refine RH.callU (fi := []) (ca := []) hS (olen_p o g) rfl (by kernel_rfl) rfl rfl rfl rfl rfl (by repeat (first | with_reducible exact Sels.nil | apply Sels.ro (by with_reducible repeat (first | exact zS .. | apply zO)) (by rfl) | apply Sels.own (by with_reducible repeat (first | exact Sel.head | apply Sel.tail)))) (by repeat (first | exact AllIn.nil | refine AllIn.cons (by repeat (first | with_reducible exact zS .. | exact zS .. | with_reducible apply zO)) ?_)) rfl (fun m hS => ?_)
    refine go ?_
    refine RH.callS (fi := []) (ca := []) hS (ocutG_s o g w (by omega) (by omega)) rfl (by kernel_rfl) rfl rfl rfl rfl rfl (by repeat (first | with_reducible exact Sels.nil | apply Sels.ro (by with_reducible repeat (first | exact zS .. | apply zO)) (by rfl) | apply Sels.own (by with_reducible repeat (first | exact Sel.head | apply Sel.tail)))) ?_
    clear hS
    rintro _ m _ ⟨⟨o', q, rfl, hl'⟩, rfl⟩ hS
    simp only [List.nil_append] at hS
    refine ⟨by simp only [List.nil_append]; exact (by repeat (first | exact AllIn.nil | refine AllIn.cons (by repeat (first | with_reducible exact zS .. | exact zS .. | with_reducible apply zO)) ?_)), _, rfl, ?_⟩
    refine go ?_
    refine RH.one rfl (by kernel_rfl) rfl ?_
    refine RL.ssM T_ok hS rfl rfl rfl rfl rfl (by rfl) (by rfl) (by with_reducible repeat (first | exact Rep.head | apply Rep.tail)) (by rfl) ?_; (try clear hS); intro m hS
    refine RL.N1 (RH.contM hS (by repeat (first | exact AllIn.nil | refine AllIn.cons (by repeat (first | with_reducible exact zS .. | exact zS .. | with_reducible apply zO)) ?_)) ?_)
    refine go ?_
    have hS : Tr m0 (ofps [tabA, stA S s B]) X m [stA S1 s B, blkA b4 55 (oC o'), blkA b3 55 (oC o), tabA] := hS
    exact QN.retV (Res.celT T_ok hS rfl rfl rfl rfl (by with_reducible repeat (first | exact zS .. | apply zO))) ⟨_, rfl, _, ⟨⟨o', q, rfl, hl'⟩, S1, rfl⟩, hS.drop (H := [_])⟩
theorem StOk.up {B : Nat} {R : List Sr} (h : StOk B R) : StOk (B + 1) R := fun r hr => by
  obtain ⟨h1, h2, h3⟩ := h r hr
  exact ⟨h1, by omega, fun o ho => by have := h3 o ho; omega⟩
theorem stE_at (c : Nat) : ∀ R : List Sr, (mget (stE R) c = none) ∨ ∃ R1 r R2, R = R1 ++ r :: R2 ∧ mget (stE R) c = some r.v ∧ ∀ S v L, mset (stE R) c v = stE (R1 ++ ⟨c, S, v, L⟩ :: R2)
  | [] => .inl rfl
  | r :: R => by
    by_cases h : r.c = c
    · exact .inr ⟨[], r, R, rfl, by simp [stE, mget, h], fun S v L => by simp [stE, mset, h]⟩
    · have e : mget (stE (r :: R)) c = mget (stE R) c := by simp [stE, mget, h]
      rw [e]
      rcases stE_at c R with h1 | ⟨R1, r', R2, rfl, h2, h3⟩
      · exact .inl h1
      · exact .inr ⟨r :: R1, r', R2, rfl, h2, fun S v L => by
          have := h3 S v L
          simp only [stE, List.map_cons, List.cons_append] at this ⊢
          rw [← this]; simp [mset, h]⟩
theorem oC_len : ∀ I : List Opr, (I.flatMap oC).length = I.length * 22
  | [] => rfl
  | o :: I => by rw [List.flatMap_cons, List.length_append, oC_len I]; simp only [oC, List.length_cons, List.length_nil]; omega
theorem set_last {cur : List Value} {L : List Opr} {a : Opr} (t : List UInt8) (hct : cur.take (L.length * 22) = L.flatMap oC) (h : L[L.length - 1]? = some a) : (cur.set ((L.length - 1) * 22 + 8) (.string (str (a.t ++ t)))).take (L.length * 22) = (L.dropLast ++ [{ a with t := a.t ++ t }]).flatMap oC := by
  have e : L = L.dropLast ++ [a] := by
    rcases List.eq_nil_or_concat L with rfl | ⟨I, x, rfl⟩
    · simp at h
    · simp at h; simp [h]
  rw [List.take_set, hct]
  generalize hI : L.dropLast = I at e ⊢
  subst e
  have hl : (I.flatMap oC).length = I.length * 22 := oC_len I
  simp only [List.length_append, List.length_singleton, Nat.add_sub_cancel, List.flatMap_append]
  rw [List.set_append_right _ _ (by omega), hl, show I.length * 22 + 8 - I.length * 22 = 8 from by omega]
  rfl
theorem add_s (S : List Nat) (s B : Nat) (hB : B < 10000) (o : Opr) (g : Good o) : DoS Tryz.prog 166 [pA s, oV o] [tabA, stA S s B] (fun _ H => ∃ S', H = [stA S' s (B + 1)]) := by
  intro m0 X hS
  have up : ∀ {m : World} {S' : List Nat} {F : List Asn} {v : Value}, Tr m0 (ofps [tabA, stA S s B]) X m (stA S' s B :: F) → ∃ v', Ending.returned v = .returned v' ∧ ∃ H', (∃ S', H' = [stA S' s (B + 1)]) ∧ Tr m0 (ofps [tabA, stA S s B]) X m H' := fun {m S' F v} h => by
    obtain ⟨rm, w1, w2, R, k, h⟩ := st_open h
    obtain ⟨S2, h⟩ := st_close k.up h
    exact ⟨v, rfl, _, ⟨S2, rfl⟩, h.drop (H := [_])⟩
  refine FnE.enter ⟨_, Tryz.func166, by kernel_rfl, by kernel_rfl⟩ Tryz.func166 rfl rfl ?_
  refine go ?_
  refine RL.boxS hS rfl rfl rfl ?_; (try clear hS); intro b3 m hS; refine ⟨_, rfl, ?_⟩
  refine RL.A1 T_ok rfl ?_
  refine RL.N1 ?_; (with_reducible repeat (first | refine QN.B1 ?_ | refine QN.N1 ?_))
  (with_reducible repeat (first | refine WP.S1 ?_ | refine WP.B1 ?_))
  refine WP.drawJ [blkA b3 55 (oC o), tabA] hS (by repeat (first | exact AllIn.nil | refine AllIn.cons (by repeat (first | with_reducible exact zS .. | exact zS .. | with_reducible apply zO)) ?_)) (by kernel_rfl) ?_
  refine go ?_
  refine RH.callU (fi := []) (ca := []) hS (check_p o g) rfl (by kernel_rfl) rfl rfl rfl rfl rfl (by repeat (first | with_reducible exact Sels.nil | apply Sels.ro (by with_reducible repeat (first | exact zS .. | apply zO)) (by rfl) | apply Sels.own (by with_reducible repeat (first | exact Sel.head | apply Sel.tail)))) (by repeat (first | exact AllIn.nil | refine AllIn.cons (by repeat (first | with_reducible exact zS .. | exact zS .. | with_reducible apply zO)) ?_)) rfl (fun m hS => ?_)
  refine go ?_
  refine RH.callS (fi := []) (ca := []) hS (known_s S s B o.id.c (by omega)) rfl (by kernel_rfl) rfl rfl rfl rfl rfl (by repeat (first | with_reducible exact Sels.nil | apply Sels.ro (by with_reducible repeat (first | exact zS .. | apply zO)) (by rfl) | apply Sels.own (by with_reducible repeat (first | exact Sel.head | apply Sel.tail)))) ?_
  clear hS
  rintro _ m _ ⟨⟨n, rfl, hn⟩, S1, rfl⟩ hS
  simp only [zC, zN] at hS
  refine ⟨by simp only [zC, zN]; exact (by repeat (first | exact AllIn.nil | refine AllIn.cons (by repeat (first | with_reducible exact zS .. | exact zS .. | with_reducible apply zO)) ?_)), _, rfl, ?_⟩
  refine go ?_
  generalize decide (IntKind.u64.wrap ((n : Int) + 1) < (o.id.k : Int)) = q1
  cases q1 with
  | true =>
    refine go ?_
    exact QN.ret1 rfl rfl (up hS)
  | false =>
  refine go ?_
  refine RL.callM (fi := []) (ca := []) hS (rest_s S1 s B (by omega) o g) rfl rfl rfl rfl (by repeat (first | with_reducible exact Sels.nil | apply Sels.ro (by with_reducible repeat (first | exact zS .. | apply zO)) (by rfl) | apply Sels.own (by with_reducible repeat (first | exact Sel.head | apply Sel.tail)))) ?_
  clear hS
  rintro _ m _ ⟨⟨o', q, rfl, hl'⟩, S2, rfl⟩ hS
  simp only [zC, zN] at hS
  refine ⟨_, rfl, ?_⟩
  refine go ?_
  refine RL.ssM T_ok hS rfl rfl rfl rfl rfl (by rfl) (by rfl) (by with_reducible repeat (first | exact Rep.head | apply Rep.tail)) (by rfl) ?_; (try clear hS); intro m hS
  have hS : Tr m0 (ofps [tabA, stA S s B]) X m [stA S2 s B, blkA b3 55 (oC o'), tabA] := hS
  cases q with
  | false =>
    refine go ?_
    exact QN.ret1 rfl rfl (up hS)
  | true =>
  obtain ⟨rm, w1, w2, R, k, hS⟩ := st_open hS
  have hN : blkA b3 55 (oC o') ∈ R.map Sr.A ++ [blkA b3 55 (oC o'), tabA] := by simp
  refine go ?_
  rcases stE_at o'.id.c R with h | ⟨R1, r, R2, rfl, h, hput⟩
  · refine RH.lookup (κ := Nat) (k := o'.id.c) (es := stE R) (v := .slice none 0 0) T_ok PanicOk.calm u64K rfl (by kernel_rfl) rfl rfl rfl rfl rfl rfl rfl (by with_reducible repeat (first | exact zS .. | apply zO)) (by rw [h]; rfl) rfl ?_
    refine goS ?_
    refine WP.drawJ [blkA s 213 [.map (some rm), w1, w2], blkA b3 55 (oC o'), tabA] hS (AllIn.of_sub (by simp)) (by kernel_rfl) ?_
    refine goS ?_
    refine WP.drawJ [blkA s 213 [.map (some rm), w1, w2], blkA b3 55 (oC o'), tabA] hS (AllIn.of_sub (by simp)) (by kernel_rfl) ?_
    refine go ?_
    refine RH.one rfl (by kernel_rfl) rfl ?_
    refine RL.buildSliceM T_ok hS [.tmp 70] (us := [oV o']) (oC o') rfl rfl rfl rfl rfl rfl (by intro u hu; simp only [List.mem_singleton] at hu; subst hu; rfl) rfl rfl rfl ?_
    clear hS hN
    intro b' m hS
    refine ⟨_, rfl, ?_⟩
    refine RL.N1 (RH.contM hS (AllIn.of_sub (by simp)) ?_)
    refine RH.one rfl (by kernel_rfl) rfl ?_
    have hsl : Sl m [] 22 (.slice (some ⟨b', 0, none⟩) 1 1) (oC o') := hS.ownSl (zS ..)
    have hS := hS.empty 55 22 none
    refine RL.appendM T_ok hS (oC o') rfl rfl rfl rfl rfl .head (Src.of_sl hsl) rfl (fun u hu => by simp only [oC, List.mem_cons, List.not_mem_nil, or_false] at hu; rcases hu with rfl | rfl | rfl | rfl | rfl | rfl | rfl | rfl | rfl | rfl | rfl | rfl | rfl | rfl | rfl | rfl | rfl | rfl | rfl | rfl | rfl | rfl <;> rfl) (by decide) (by decide) ?_
    clear hS hsl
    intro v' m S' hS
    refine ⟨_, rfl, ?_⟩
    refine RL.N1 (RH.contM hS (AllIn.of_sub (by simp)) ?_)
    refine RH.one rfl (by kernel_rfl) rfl ?_
    refine RL.mapUpdate (κ := Nat) (k := o'.id.c) (v := v') (es := stE R) T_ok hS u64K rfl rfl rfl rfl rfl rfl (by with_reducible repeat (first | exact zS .. | apply zO)) (by with_reducible repeat (first | exact Rep.head | apply Rep.tail)) rfl ?_
    clear hS
    intro m hS
    refine RL.N1 (RH.contM hS (AllIn.of_sub (by simp)) ?_)
    have hN : blkA b3 55 (oC o') ∈ R.map Sr.A ++ [blkA b3 55 (oC o'), tabA] := by simp
    refine go ?_
    refine RL.buildSliceM T_ok hS [.tmp 73] (us := [oV o']) (oC o') rfl rfl rfl rfl rfl rfl (by intro u hu; simp only [List.mem_singleton] at hu; subst hu; rfl) rfl rfl rfl ?_
    clear hS
    intro b'' m hS
    refine ⟨_, rfl, ?_⟩
    refine go ?_
    have hS := ((hS.tail.perm (.swap ..)).tail).perm (List.perm_middle (l₁ := blkA s 213 [.map (some rm), w1, w2] :: mapA rm nU (mset (stE R) o'.id.c v') :: R.map Sr.A)).symm
    have e : mset (stE R) o'.id.c v' = stE (R ++ [⟨o'.id.c, S', v', [o']⟩]) := by
      rw [mset_new _ (mget_none.1 h)]; simp [stE]
    have hS : Tr m0 (ofps [tabA, stA S s B]) X m (stH s rm w1 w2 (R ++ [⟨o'.id.c, S', v', [o']⟩]) [blkA b3 55 (oC o'), tabA]) := by
      rw [e] at hS
      simpa [stH, Sr.A, opsA] using hS
    obtain ⟨S9, hS⟩ := st_close (B := B + 1) (fun r hr => by
      rcases List.mem_append.1 hr with hr | hr
      · exact k.up r hr
      · simp only [List.mem_singleton] at hr
        subst hr
        exact ⟨by simp, by simp, fun x hx => by simp only [List.mem_singleton] at hx; subst hx; omega⟩) hS
    exact QN.ret1 rfl rfl ⟨_, rfl, _, ⟨S9, rfl⟩, hS.drop (H := [_])⟩
  · refine RH.lookup (κ := Nat) (k := o'.id.c) (es := stE (R1 ++ r :: R2)) (v := r.v) T_ok PanicOk.calm u64K rfl (by kernel_rfl) rfl rfl rfl rfl rfl rfl rfl (by with_reducible repeat (first | exact zS .. | apply zO)) (by rw [h]; rfl) rfl ?_
    have hm : ownA r.S 55 22 r.v r.L.length (r.L.flatMap oC) ∈ stH s rm w1 w2 (R1 ++ r :: R2) [blkA b3 55 (oC o'), tabA] := by simp [Sr.A]
    obtain ⟨hpos, hlen, htx⟩ := k r (by simp)
    obtain ⟨gg, cp, hv, _, _, _⟩ := hS.ownAt hm hpos
    have hsl := hS.ownSl hm
    rw [hv] at hsl ⊢
    obtain ⟨a, ha⟩ : ∃ a, r.L[r.L.length - 1]? = some a := ⟨_, List.getElem?_eq_getElem (by omega)⟩
    have hat := htx a (List.mem_of_getElem? ha)
    have hw : IntKind.i64.wrap ((r.L.length : Int) - 1) = ((r.L.length - 1 : Nat) : Int) := by rw [wrap_i64_in _ (by omega) (by omega)]; omega
    have hd : decide (((r.L.length - 1 : Nat) : Int) ≥ 0) = true := decide_eq_true (by omega)
    refine go ?_
    rw [hw]
    refine go ?_
    rw [hd]
    refine go ?_
    refine RH.ldEA T_ok PanicOk.calm oC (fun _ => rfl) (fun m' h' => hv ▸ JS.ownSl hm m' h') ha rfl rfl (by kernel_rfl) rfl rfl rfl rfl rfl ?_
    refine go ?_
    refine RH.callS (fi := []) (ca := []) hS (fits_s a o' (by omega) (by omega)) rfl (by kernel_rfl) rfl rfl rfl rfl rfl (.ro (by simp) rfl .nil) ?_
    clear hS
    rintro _ m _ ⟨⟨q2, rfl⟩, rfl⟩ hS
    simp only [List.nil_append] at hS
    refine ⟨by simp only [List.nil_append]; exact AllIn.self _, _, rfl, ?_⟩
    refine go ?_
    cases q2 with
    | false =>
      refine goS ?_
      have hN : blkA b3 55 (oC o') ∈ (R1 ++ r :: R2).map Sr.A ++ [blkA b3 55 (oC o'), tabA] := by simp
      refine WP.drawJ [blkA s 213 [.map (some rm), w1, w2], blkA b3 55 (oC o'), tabA] hS (AllIn.of_sub (by simp)) (by kernel_rfl) ?_
      refine go ?_
      refine RH.one rfl (by kernel_rfl) rfl ?_
      refine RL.buildSliceM T_ok hS [.tmp 70] (us := [oV o']) (oC o') rfl rfl rfl rfl rfl rfl (by intro u hu; simp only [List.mem_singleton] at hu; subst hu; rfl) rfl rfl rfl ?_
      clear hS hN
      intro b' m hS
      refine ⟨_, rfl, ?_⟩
      refine RL.N1 (RH.contM hS (AllIn.of_sub (by simp)) ?_)
      refine RH.one rfl (by kernel_rfl) rfl ?_
      have hsl' : Sl m [] 22 (.slice (some ⟨b', 0, none⟩) 1 1) (oC o') := hS.ownSl (zS ..)
      have hp : (stH s rm w1 w2 (R1 ++ r :: R2) [blkA b3 55 (oC o'), tabA]).Perm (r.A :: blkA s 213 [.map (some rm), w1, w2] :: mapA rm nU (stE (R1 ++ r :: R2)) :: (R1.map Sr.A ++ (R2.map Sr.A ++ [blkA b3 55 (oC o'), tabA]))) := by
        simp only [stH, List.map_append, List.map_cons, List.append_assoc, List.cons_append]
        exact ((List.perm_middle (l₁ := blkA s 213 [.map (some rm), w1, w2] :: mapA rm nU (stE (R1 ++ r :: R2)) :: R1.map Sr.A)))
      have hS := hS.tail.perm hp
      rw [show r.A = ownA r.S 55 22 (.slice (some ⟨gg, 0, none⟩) r.L.length cp) r.L.length (r.L.flatMap oC) from by simp only [Sr.A, opsA, hv]] at hS
      refine RL.appendM T_ok hS (oC o') rfl rfl rfl rfl rfl .head (Src.of_sl hsl') rfl (fun u hu => by simp only [oC, List.mem_cons, List.not_mem_nil, or_false] at hu; rcases hu with rfl | rfl | rfl | rfl | rfl | rfl | rfl | rfl | rfl | rfl | rfl | rfl | rfl | rfl | rfl | rfl | rfl | rfl | rfl | rfl | rfl | rfl <;> rfl) (Nat.le_trans (show r.L.length + 1 ≤ 100000 by omega) (by decide)) (by show (r.L.length + 1) * 200 ≤ _; omega) ?_
      clear hS hsl'
      intro v' m S' hS
      refine ⟨_, rfl, ?_⟩
      refine RL.N1 (RH.contM hS (AllIn.of_sub (by simp)) ?_)
      refine RH.one rfl (by kernel_rfl) rfl ?_
      refine RL.mapUpdate (κ := Nat) (k := o'.id.c) (v := v') (es := stE (R1 ++ r :: R2)) T_ok hS u64K rfl rfl rfl rfl rfl rfl (by with_reducible repeat (first | exact zS .. | apply zO)) (by with_reducible repeat (first | exact Rep.head | apply Rep.tail)) rfl ?_
      clear hS
      intro m hS
      refine RL.N1 (RH.contM hS (AllIn.of_sub (by simp)) ?_)
      have hN : blkA b3 55 (oC o') ∈ R1.map Sr.A ++ (R2.map Sr.A ++ [blkA b3 55 (oC o'), tabA]) := by simp
      refine go ?_
      refine RL.buildSliceM T_ok hS [.tmp 73] (us := [oV o']) (oC o') rfl rfl rfl rfl rfl rfl (by intro u hu; simp only [List.mem_singleton] at hu; subst hu; rfl) rfl rfl rfl ?_
      clear hS
      intro b'' m hS
      refine ⟨_, rfl, ?_⟩
      refine go ?_
      have hS := hS.tail
      rw [hput S' v' (r.L ++ [o'])] at hS
      have hS : Tr m0 (ofps [tabA, stA S s B]) X m (stH s rm w1 w2 (R1 ++ ⟨o'.id.c, S', v', r.L ++ [o']⟩ :: R2) [blkA b3 55 (oC o'), tabA]) := hS.perm (by
        simp only [stH, List.map_append, List.map_cons, List.append_assoc, List.cons_append, Sr.A, opsA, List.length_append, List.length_singleton, List.flatMap_append, List.flatMap_cons, List.flatMap_nil, List.append_nil]
        exact (List.perm_middle (l₁ := blkA s 213 [.map (some rm), w1, w2] :: mapA rm nU (stE (R1 ++ ⟨o'.id.c, S', v', r.L ++ [o']⟩ :: R2)) :: R1.map Sr.A)).symm)
      obtain ⟨S9, hS⟩ := st_close (B := B + 1) (fun y hy => by
        rcases List.mem_append.1 hy with hy | hy
        · exact k.up y (by simp [hy])
        · rcases List.mem_cons.1 hy with rfl | hy
          · refine ⟨by simp, by simp; omega, fun x hx => ?_⟩
            rcases List.mem_append.1 hx with hx | hx
            · have := htx x hx; omega
            · simp only [List.mem_singleton] at hx; subst hx; omega
          · exact k.up y (by simp [hy])) hS
      exact QN.ret1 rfl rfl ⟨_, rfl, _, ⟨S9, rfl⟩, hS.drop (H := [_])⟩
    | true =>
      have hp : (stH s rm w1 w2 (R1 ++ r :: R2) [blkA b3 55 (oC o'), tabA]).Perm (r.A :: blkA s 213 [.map (some rm), w1, w2] :: mapA rm nU (stE (R1 ++ r :: R2)) :: (R1.map Sr.A ++ (R2.map Sr.A ++ [blkA b3 55 (oC o'), tabA]))) := by
        simp only [stH, List.map_append, List.map_cons, List.append_assoc, List.cons_append]
        exact ((List.perm_middle (l₁ := blkA s 213 [.map (some rm), w1, w2] :: mapA rm nU (stE (R1 ++ r :: R2)) :: R1.map Sr.A)))
      obtain ⟨g', cap, cur, hv', hS1, hle, hcm, hcl, hct, hS⟩ := (hS.perm hp).unrow hpos
      rw [hv] at hv'
      cases hv'
      have hc1 : cur[(r.L.length - 1) * 22 + 8]? = some (.string (str a.t)) := by
        have := flat_at oC (sz := 22) (fun _ => rfl) r.L _ a ha 8 (by omega)
        rw [← hct, List.getElem?_take] at this
        split at this
        · exact this
        · cases this
      have hN : blkA b3 55 (oC o') ∈ R1.map Sr.A ++ (R2.map Sr.A ++ [blkA b3 55 (oC o'), tabA]) := by simp
      refine go ?_
      refine RH.ld (j := (r.L.length - 1) * 22 + 8) T_ok PanicOk.calm rfl (by kernel_rfl) rfl rfl (nrm_at ..) rfl (zS ..) hc1 rfl ?_
      refine go ?_
      refine RH.binOp (cat_str _ a.t o'.t (by omega)) (fun _ => rfl) PanicOk.calm 7 rfl (by kernel_rfl) rfl rfl rfl rfl ?_
      refine go ?_
      have hlt : (r.L.length - 1) * 22 + 8 < cur.length := (List.getElem?_eq_some_iff.1 hc1).1
      refine RH.one rfl (by kernel_rfl) rfl ?_
      refine RL.storeM (i := (r.L.length - 1) * 22 + 8) (tb := 55) T_ok hS rfl (nrm_at ..) rfl rfl rfl rfl .head (by simpa [Nat.blt_eq] using hlt) ?_
      clear hS hN
      intro m hS
      refine RL.N1 (RF.last (by kernel_rfl) (QN.calm ?_))
      have hN : blkA b3 55 (oC o') ∈ R1.map Sr.A ++ (R2.map Sr.A ++ [blkA b3 55 (oC o'), tabA]) := by simp
      refine go ?_
      refine RL.buildSliceM T_ok hS [.tmp 73] (us := [oV o']) (oC o') rfl rfl rfl rfl rfl rfl (by intro u hu; simp only [List.mem_singleton] at hu; subst hu; rfl) rfl rfl rfl ?_
      clear hS
      intro b'' m hS
      refine ⟨_, rfl, ?_⟩
      refine go ?_
      have hS := hS.tail.rerow (sz := 22) hle hcm (by rw [List.length_set]; exact hcl)
      rw [set_last o'.t hct ha] at hS
      have hlen' : (r.L.dropLast ++ [{ a with t := a.t ++ o'.t }]).length = r.L.length := by simp; omega
      have hS : Tr m0 (ofps [tabA, stA S s B]) X m (stH s rm w1 w2 (R1 ++ ⟨r.c, [gg], r.v, r.L.dropLast ++ [{ a with t := a.t ++ o'.t }]⟩ :: R2) [blkA b3 55 (oC o'), tabA]) := hS.perm (by
        have e : stE (R1 ++ ⟨r.c, [gg], r.v, r.L.dropLast ++ [{ a with t := a.t ++ o'.t }]⟩ :: R2) = stE (R1 ++ r :: R2) := by simp [stE]
        simp only [stH]
        rw [e]
        simp only [List.map_append, List.map_cons, List.append_assoc, List.cons_append, Sr.A, opsA, hv, hlen']
        exact (List.perm_middle (l₁ := blkA s 213 [.map (some rm), w1, w2] :: mapA rm nU (stE (R1 ++ r :: R2)) :: R1.map Sr.A)).symm)
      obtain ⟨S9, hS⟩ := st_close (B := B + 1) (fun y hy => by
        rcases List.mem_append.1 hy with hy | hy
        · exact k.up y (by simp [hy])
        · rcases List.mem_cons.1 hy with rfl | hy
          · refine ⟨by rw [hlen']; exact hpos, by rw [hlen']; omega, fun x hx => ?_⟩
            rcases List.mem_append.1 hx with hx | hx
            · have := htx x (List.dropLast_subset _ hx); omega
            · simp only [List.mem_singleton] at hx; subst hx
              have := htx a (List.mem_of_getElem? ha)
              simp only [List.length_append]; omega
          · exact k.up y (by simp [hy])) hS
      exact QN.ret1 rfl rfl ⟨_, rfl, _, ⟨S9, rfl⟩, hS.drop (H := [_])⟩
end Go.Proofs.YtgpgladbdoimdaaGreatDoor
end
section
namespace Go.Proofs.YtgpgladbdoimdaaGreatDoor
open Go.ChangeShapes Go.WideShapes Go.ChangeAt Go.RowKit Go.Ev Go.Ids
theorem join_n (m : World) (v u : Value) {a b : List Rng} (h : Rs m [] v a) (h' : Rs m [] u b) {p q : Nat} (ha : a.length ≤ p) (hb : b.length ≤ q) (hpq : p + q < 100000000) : FnR Tryz.prog 125 [v, u] m fun r m' => Made m r (join a b) m' := join_c m v u a b h h' (by omega)
end Go.Proofs.YtgpgladbdoimdaaGreatDoor
end
section
namespace Go.Proofs.YtgpgladbdoimdaaGreatDoor
open Go.ChangeShapes Go.WideShapes Go.ChangeAt Go.RowKit Go.Ev Go.Ids
abbrev rngA (S : List Nat) (v : Value) (l : List Rng) : Asn := ownA S 167 3 v l.length (l.flatMap rC)
theorem Made.tr {m0 m m' : World} {M0 X : List Nat} {H : List Asn} {r : Value} {l : List Rng} (h : Made m r l m') (hS : Tr m0 M0 X m H) : ∃ S, Tr m0 M0 X m' (rngA S r l :: H) := by
  obtain ⟨S, h1, h2⟩ := h
  exact ⟨S, hS.made h1 h2⟩
theorem minus_s (S1 S2 : List Nat) (v u : Value) (a b : List Rng) (hla : a.length < 500000000) (hlb : b.length < 500000000) (hl : a.length * (b.length + 1) < 100000000) : DoS Tryz.prog 123 [v, u] [rngA S1 v a, rngA S2 u b] (fun r H => ∃ S, H = [rngA S r (minus a b), rngA S1 v a, rngA S2 u b]) := by
  intro m X hS
  refine (minus_c m v u a b (Ev.Own.sl (show Ev.Own m S1 167 3 v a.length (a.flatMap rC) from hS.mem (A := rngA S1 v a) (by simp)) (by simp)) (Ev.Own.sl (show Ev.Own m S2 167 3 u b.length (b.flatMap rC) from hS.mem (A := rngA S2 u b) (by simp)) (by simp)) hla hlb hl).mono ?_
  intro r m' h
  obtain ⟨S, h⟩ := h.tr hS
  exact ⟨_, ⟨S, rfl⟩, h⟩
theorem join_s (S1 S2 : List Nat) (v u : Value) (a b : List Rng) (hl : a.length + b.length < 100000000) : DoS Tryz.prog 125 [v, u] [rngA S1 v a, rngA S2 u b] (fun r H => ∃ S, H = [rngA S r (join a b), rngA S1 v a, rngA S2 u b]) := by
  intro m X hS
  refine (join_n m v u (Ev.Own.sl (show Ev.Own m S1 167 3 v a.length (a.flatMap rC) from hS.mem (A := rngA S1 v a) (by simp)) (by simp)) (Ev.Own.sl (show Ev.Own m S2 167 3 u b.length (b.flatMap rC) from hS.mem (A := rngA S2 u b) (by simp)) (by simp)) (Nat.le_refl _) (Nat.le_refl _) hl).mono ?_
  intro r m' h
  obtain ⟨S, h⟩ := h.tr hS
  exact ⟨_, ⟨S, rfl⟩, h⟩
end Go.Proofs.YtgpgladbdoimdaaGreatDoor
end
section
namespace Go.Proofs.YtgpgladbdoimdaaGreatDoor
open Go.ChangeShapes Go.WideShapes Go.ChangeAt Go.RowKit Go.Ev Go.Ids Go.SeqP
set_option maxRecDepth 20000
set_option maxHeartbeats 1000000
structure Dx where
  S1 : List Nat
  s : Nat
  B : Nat
  rk : Nat
  es : List (Nat × Value)
  S2 : List Nat
  vt : Value
  T : List Trn
  S3 : List Nat
  vd : Value
  D : List Rng
  rw : Nat
  W : List (Idn × Value)
  S4 : List Nat
  vh : Value
  h : List Rng
  S5 : List Nat
  sq : Nat
  q : Sq
  ru : Nat
  E : List (Idn × Value)
  S6 : List Nat
  vm : Value
  M : List Opr
  mm : Nat
  S7 : List Nat
  vv : Value
  V : List Rng
  st : Nat
abbrev trnA (S : List Nat) (v : Value) (l : List Trn) : Asn := ownA S 122 4 v l.length (l.flatMap tC)
abbrev dcH (d : Nat) (x : Dx) (F : List Asn) : List Asn :=
  blkA d 147 [pA x.s, .map (some x.rk), x.vt, x.vd, .map (some x.rw), x.vh, pA x.sq, .map (some x.ru), x.vm, pA x.mm, x.vv, nU x.st] :: stA x.S1 x.s x.B :: mapA x.rk nU x.es :: trnA x.S2 x.vt x.T :: rngA x.S3 x.vd x.D :: mapA x.rw iV x.W :: rngA x.S4 x.vh x.h :: seqA x.S5 x.sq x.q :: mapA x.ru iV x.E :: opsA x.S6 x.vm x.M :: rngA x.S7 x.vv x.V :: F
def kget (es : List (Nat × Value)) (c : Nat) : Value := (mget es c).getD (nU 0)
theorem mnew_s : DoS Tryz.prog 83 [] [] (fun r H => ∃ s r1 r2, r = pA s ∧ H = [blkA s 208 [.map (some r1), .map (some r2), .slice none 0 0], mapA r2 iV ([] : List (Idn × Value)), mapA r1 iV ([] : List (Idn × Value))]) := by
  intro m0 X hS
  refine FnE.enter ⟨_, Tryz.func83, by kernel_rfl, by kernel_rfl⟩ Tryz.func83 rfl rfl ?_
  refine go ?_
  refine RL.makeMap hS iV rfl ?_
  clear hS
  intro r1 m hS
  refine ⟨_, rfl, ?_⟩
  refine go ?_
  refine RL.makeMap hS iV rfl ?_
  clear hS
  intro r2 m hS
  refine ⟨_, rfl, ?_⟩
  refine go ?_
  refine RL.boxS hS rfl rfl rfl ?_; (try clear hS); intro b m hS; refine ⟨_, rfl, ?_⟩
  refine go ?_
  exact QN.ret1 rfl rfl ⟨_, rfl, _, ⟨b, r1, r2, rfl, rfl⟩, hS⟩
theorem dnew_s : DoS Tryz.prog 34 [] [] (fun r H => ∃ d x, r = pA d ∧ x.B = 0 ∧ x.es = [] ∧ x.T = [] ∧ x.D = [] ∧ x.W = [] ∧ x.h = [] ∧ x.q = Sq0 ∧ x.M = [] ∧ x.V = [] ∧ x.E = [] ∧ H = dcH d x []) := by
  intro m0 X hS
  refine FnE.enter ⟨_, Tryz.func34, by kernel_rfl, by kernel_rfl⟩ Tryz.func34 rfl rfl ?_
  refine go ?_
  refine RL.callM (fi := []) (ca := []) hS stnew_s rfl rfl rfl rfl Sels.nil ?_
  clear hS
  rintro _ m _ ⟨S1, s, rfl, rfl⟩ hS
  simp only [zC, zN] at hS
  refine ⟨_, rfl, ?_⟩
  refine go ?_
  refine RL.makeMap hS nU rfl ?_
  clear hS
  intro rk m hS
  refine ⟨_, rfl, ?_⟩
  refine go ?_
  refine RL.makeMap hS iV rfl ?_
  clear hS
  intro rw_ m hS
  refine ⟨_, rfl, ?_⟩
  refine go ?_
  refine RL.callM (fi := []) (ca := []) hS seqnew_s rfl rfl rfl rfl Sels.nil ?_
  clear hS
  rintro _ m _ ⟨S5, sq, rfl, rfl⟩ hS
  simp only [zC, zN] at hS
  refine ⟨_, rfl, ?_⟩
  refine go ?_
  refine RL.makeMap hS iV rfl ?_
  clear hS
  intro ru m hS
  refine ⟨_, rfl, ?_⟩
  refine go ?_
  refine RL.callM (fi := []) (ca := []) hS mnew_s rfl rfl rfl rfl Sels.nil ?_
  clear hS
  rintro _ m _ ⟨mm, r1, r2, rfl, rfl⟩ hS
  simp only [zC, zN] at hS
  refine ⟨_, rfl, ?_⟩
  refine go ?_
  refine RL.boxS hS rfl rfl rfl ?_; (try clear hS); intro d m hS; refine ⟨_, rfl, ?_⟩
  refine go ?_
  have hS := ((((hS.empty 122 4 none).empty 167 3 none).empty 167 3 none).empty 55 22 none).empty 167 3 none
  refine QN.ret1 rfl rfl ⟨_, rfl, _, ⟨d, ⟨S1, s, 0, rk, [], [], .slice none 0 0, [], [], .slice none 0 0, [], rw_, [], [], .slice none 0 0, [], S5, sq, Sq0, ru, [], [], .slice none 0 0, [], mm, [], .slice none 0 0, [], 0⟩, rfl, rfl, rfl, rfl, rfl, rfl, rfl, rfl, rfl, rfl, rfl, rfl⟩, ?_⟩
  simp only [dcH, trnA, rngA, opsA, List.length_nil, List.flatMap_nil]
  exact (hS.sels (by repeat (first | with_reducible exact Sels.nil | apply Sels.ro (by repeat (first | exact zS .. | with_reducible apply zO)) (by rfl) | apply Sels.own (by repeat (first | exact Sel.head | with_reducible apply Sel.tail))))).drop
end Go.Proofs.YtgpgladbdoimdaaGreatDoor
end
