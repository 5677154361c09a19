/- Texts that belong together. -/
import Derived.Test.YtmjpcaiehfimgaaGreatDoorMMsgVR3
import Derived.Shelf.SlGeneric
import Derived.Shelf.SlLaysF0
import Derived.Ground.SlsfProg
import Derived.Ground.NamesProg
import Derived.Shelf.Lays
import Derived.Test.YtmjpcaiehfimgaaGreatDoorProg
import Derived.Shelf.Unicode.ValidAny
import Derived.Shelf.SlSortCmp.WholeK
import Derived.Shelf.SlSortCmp.NoneTotal
section
namespace Go.Proofs
open Go.Shelf
def Tryz.sortT_ren : Go.Shelf.Ren := ⟨fun | 6 => 51 | 15 => 79 | 14 => 78 | 28 => 105 | 29 => 106 | 20 => 97 | 21 => 98 | 22 => 99 | 23 => 100 | 24 => 101 | 25 => 102 | 26 => 103 | 27 => 104 | 46 => 111 | 47 => 112 | 48 => 113 | 49 => 114 | 50 => 115 | 57 => 119 | n => n, fun | 22 => 24 | 24 => 57 | 25 => 91 | 3 => 3 | 39 => 83 | 0 => 0 | 53 => 135 | 55 => 22 | 4 => 4 | 46 => 128 | 45 => 127 | 50 => 132 | 5 => 5 | 9 => 9 | 66 => 146 | 70 => 150 | 76 => 154 | 77 => 155 | n => n, fun | n => n⟩
theorem Tryz.sortT : Go.Proofs.SlLaysF0.n6 Tryz.prog Tryz.sortT_ren := {
  mixed := by kernel_rfl
  f6 := ⟨Tryz.f51.name, by decide, Tryz.func51.trans (congrArg some (by kernel_rfl))⟩
  f14 := ⟨Tryz.f78.name, by decide, Tryz.func78.trans (congrArg some (by kernel_rfl))⟩
  f15 := Tryz.func79.trans (congrArg some (by kernel_rfl))
  f20 := ⟨Tryz.f97.name, by decide, Tryz.func97.trans (congrArg some (by kernel_rfl))⟩
  f21 := ⟨Tryz.f98.name, by decide, Tryz.func98.trans (congrArg some (by kernel_rfl))⟩
  f22 := ⟨Tryz.f99.name, by decide, Tryz.func99.trans (congrArg some (by kernel_rfl))⟩
  f23 := ⟨Tryz.f100.name, by decide, Tryz.func100.trans (congrArg some (by kernel_rfl))⟩
  f24 := ⟨Tryz.f101.name, by decide, Tryz.func101.trans (congrArg some (by kernel_rfl))⟩
  f25 := ⟨Tryz.f102.name, by decide, Tryz.func102.trans (congrArg some (by kernel_rfl))⟩
  f26 := ⟨Tryz.f103.name, by decide, Tryz.func103.trans (congrArg some (by kernel_rfl))⟩
  f27 := ⟨Tryz.f104.name, by decide, Tryz.func104.trans (congrArg some (by kernel_rfl))⟩
  f28 := Tryz.func105.trans (congrArg some (by kernel_rfl))
  f29 := Tryz.func106.trans (congrArg some (by kernel_rfl))
  f46 := ⟨Tryz.f111.name, by decide, Tryz.func111.trans (congrArg some (by kernel_rfl))⟩
  f47 := Tryz.func112.trans (congrArg some (by kernel_rfl))
  f48 := Tryz.func113.trans (congrArg some (by kernel_rfl))
  f49 := ⟨Tryz.f114.name, by decide, Tryz.func114.trans (congrArg some (by kernel_rfl))⟩
  f50 := ⟨Tryz.f115.name, by decide, Tryz.func115.trans (congrArg some (by kernel_rfl))⟩
  f57 := ⟨Tryz.f119.name, by decide, Tryz.func119.trans (congrArg some (by kernel_rfl))⟩
  t0 := Tryz.underlying0
  a0 := Tryz.isAgg0
  z0 := Tryz.sizeOf0
  v0 := Tryz.zeroValue0
  t3 := Tryz.underlying3
  a3 := Tryz.isAgg3
  z3 := Tryz.sizeOf3
  v3 := Tryz.zeroValue3
  t4 := Tryz.underlying4
  a4 := Tryz.isAgg4
  z4 := Tryz.sizeOf4
  v4 := Tryz.zeroValue4
  t5 := Tryz.underlying5
  a5 := Tryz.isAgg5
  z5 := Tryz.sizeOf5
  v5 := Tryz.zeroValue5
  t9 := Tryz.underlying9
  a9 := Tryz.isAgg9
  z9 := Tryz.sizeOf9
  v9 := Tryz.zeroValue9
  t22 := Tryz.underlying24
  a22 := Tryz.isAgg24
  z22 := Tryz.sizeOf24
  v22 := Tryz.zeroValue24
  t25 := Tryz.underlying91
  a25 := Tryz.isAgg91
  z25 := Tryz.sizeOf91
  v25 := Tryz.zeroValue91
  t39 := Tryz.underlying83
  a39 := Tryz.isAgg83
  z39 := Tryz.sizeOf83
  v39 := Tryz.zeroValue83
  t45 := Tryz.underlying127
  a45 := Tryz.isAgg127
  z45 := Tryz.sizeOf127
  v45 := Tryz.zeroValue127
  t46 := Tryz.underlying128
  a46 := Tryz.isAgg128
  z46 := Tryz.sizeOf128
  v46 := Tryz.zeroValue128
  t50 := Tryz.underlying132
  a50 := Tryz.isAgg132
  z50 := Tryz.sizeOf132
  v50 := Tryz.zeroValue132
  t53 := Tryz.underlying135
  a53 := Tryz.isAgg135
  z53 := Tryz.sizeOf135
  v53 := Tryz.zeroValue135
  t55 := Tryz.underlying22
  a55 := Tryz.isAgg22
  z55 := Tryz.sizeOf22
  v55 := Tryz.zeroValue22
  t66 := Tryz.underlying146
  a66 := Tryz.isAgg146
  z66 := Tryz.sizeOf146
  v66 := Tryz.zeroValue146
  t70 := Tryz.underlying150
  a70 := Tryz.isAgg150
  z70 := Tryz.sizeOf150
  v70 := Tryz.zeroValue150
  t76 := Tryz.underlying154
  a76 := Tryz.isAgg154
  z76 := Tryz.sizeOf154
  v76 := Tryz.zeroValue154
  t77 := Tryz.underlying155
  a77 := Tryz.isAgg155
  z77 := Tryz.sizeOf155
  v77 := Tryz.zeroValue155 }
def Tryz.valid_ren : Go.Shelf.Ren := ⟨fun | 196 => 96 | 259 => 110 | n => n, fun | 9 => 9 | 4 => 4 | 3 => 3 | 5 => 5 | 12 => 12 | 119 => 142 | 0 => 0 | 46 => 83 | 139 => 145 | 138 => 144 | 53 => 22 | n => n, fun | 3 => 0 | 4 => 1 | n => n⟩
theorem Tryz.valid : Go.Proofs.Lays.n196 Tryz.prog Tryz.valid_ren := {
  mixed := by kernel_rfl
  f196 := Tryz.func96.trans (congrArg some (by kernel_rfl))
  f259 := Tryz.func110.trans (congrArg some (by kernel_rfl))
  t0 := Tryz.underlying0
  a0 := Tryz.isAgg0
  z0 := Tryz.sizeOf0
  v0 := Tryz.zeroValue0
  t3 := Tryz.underlying3
  a3 := Tryz.isAgg3
  z3 := Tryz.sizeOf3
  v3 := Tryz.zeroValue3
  t4 := Tryz.underlying4
  a4 := Tryz.isAgg4
  z4 := Tryz.sizeOf4
  v4 := Tryz.zeroValue4
  t5 := Tryz.underlying5
  a5 := Tryz.isAgg5
  z5 := Tryz.sizeOf5
  v5 := Tryz.zeroValue5
  t9 := Tryz.underlying9
  a9 := Tryz.isAgg9
  z9 := Tryz.sizeOf9
  v9 := Tryz.zeroValue9
  t12 := Tryz.underlying12
  a12 := Tryz.isAgg12
  z12 := Tryz.sizeOf12
  v12 := Tryz.zeroValue12
  t46 := Tryz.underlying83
  a46 := Tryz.isAgg83
  z46 := Tryz.sizeOf83
  v46 := Tryz.zeroValue83
  t53 := Tryz.underlying22
  a53 := Tryz.isAgg22
  z53 := Tryz.sizeOf22
  v53 := Tryz.zeroValue22
  t119 := Tryz.underlying142
  a119 := Tryz.isAgg142
  z119 := Tryz.sizeOf142
  t138 := Tryz.underlying144
  a138 := Tryz.isAgg144
  z138 := Tryz.sizeOf144
  v138 := Tryz.zeroValue144
  t139 := Tryz.underlying145
  a139 := Tryz.isAgg145
  z139 := Tryz.sizeOf145
  v139 := Tryz.zeroValue145
  g3 := by kernel_rfl
  g4 := by kernel_rfl }
end Go.Proofs
end
section
namespace Go.Proofs.YtmjpcaiehfimgaaGreatDoor
open Go.RowKit Go.Ev
def Tabs (m : World) (M : List Nat) : Prop := Lib.Utf8Tabs (Tryz.valid_ren.g 3) (Tryz.valid_ren.g 4) m ∧ Tryz.valid_ren.g 3 ∉ M ∧ Tryz.valid_ren.g 4 ∉ M ∧ m.drawn = 0
theorem Tabs.keep {m m' : World} {M M' N : List Nat} (h : Tabs m M) (hE : Ext m N m') (hN : ∀ k ∈ N, k < m.heap.size → k ∈ M) (hM : ∀ k ∈ M', k ∈ M ∨ m.heap.size ≤ k) : Tabs m' M' := by
  obtain ⟨⟨h1, h2⟩, h3, h4, h5⟩ := h
  have l3 : Tryz.valid_ren.g 3 < m.heap.size := World.block_lt_of_cell? m _ (h1 0 (by omega))
  have l4 : Tryz.valid_ren.g 4 < m.heap.size := World.block_lt_of_cell? m _ (h2 0 (by omega)).1
  have n3 : Tryz.valid_ren.g 3 ∉ N := fun hh => h3 (hN _ hh l3)
  have n4 : Tryz.valid_ren.g 4 ∉ N := fun hh => h4 (hN _ hh l4)
  refine ⟨⟨fun c hc => hE.cell n3 (h1 c hc), fun i hi => ⟨hE.cell n4 (h2 i hi).1, hE.cell n4 (h2 i hi).2⟩⟩, fun hh => ?_, fun hh => ?_, hE.drawn.2 h5⟩
  · rcases hM _ hh with g | g
    · exact h3 g
    · omega
  · rcases hM _ hh with g | g
    · exact h4 g
    · omega
def tabA : Asn where
  own := []
  P := Tabs
  lt := fun _ k hk => by cases hk
  keep := fun h hE _ hN hM => h.keep hE hN hM
theorem tabs_sim {m w : World} {M : List Nat} (h : Tabs m M) (hs : Sim m w) : Lib.Utf8Tabs (Tryz.valid_ren.g 3) (Tryz.valid_ren.g 4) w :=
  ⟨fun c hc => (hs.cell _).trans (h.1.1 c hc), fun i hi => ⟨(hs.cell _).trans (h.1.2 i hi).1, (hs.cell _).trans (h.1.2 i hi).2⟩⟩
theorem valid_s (l : List UInt8) (hl : l.length ≤ 9223372036854775807) : DoS Tryz.prog 96 [.string (str l)] [tabA] (fun r H => r = .bool (runesL l).isSome ∧ H = []) := by
  intro m X hS
  refine ⟨⟨_, Tryz.func96, by kernel_rfl, by kernel_rfl⟩, fun w hs => ?_⟩
  refine (Any.utf8_ValidString Tryz.valid (str l) w (by rw [str_sz]; exact hl) (tabs_sim hS.head hs)).mono fun e w' ⟨he, hb⟩ => ⟨low m w', Sim.low _ _, _, he, [], ⟨?_, rfl⟩, ?_⟩
  · rw [str_data, valid_eq]
  · have h0 : m.drawn = 0 := hS.head.2.2.2
    refine Tr.drop (H := []) (F := [tabA]) (hS.calm ⟨hb.os.trans hs.os, hb.tape.trans hs.tape, hb.output.trans hs.output, by rw [low_heap, ← hs.size]; exact hb.size, fun k hk _ => ?_, dle.low (by rw [h0]; exact Nat.zero_le _)⟩)
    rw [low_heap, hb.block k (by rw [hs.size]; exact hk), hs.heap]
theorem ucheck_s (l : List UInt8) (hl : l.length ≤ 9223372036854775807) : DoS Tryz.prog 74 [.string (str l)] [tabA] (fun r H => r = .bool (runesL l).isSome ∧ H = []) := by
  intro m0 X hS
  refine FnE.enter ⟨_, Tryz.func74, by kernel_rfl, by kernel_rfl⟩ Tryz.func74 rfl rfl ?_
  (with_reducible repeat (first | refine WP.S1 ?_ | refine WP.B1 ?_ | refine WP.R1 ?_))
  refine RL.A1 T_ok rfl ?_
  refine RL.N1 ?_; (with_reducible repeat (first | refine QN.B1 ?_ | refine QN.N1 ?_ | refine WP.S1 ?_ | refine WP.B1 ?_ | refine WP.R1 ?_))
  refine RL.A1 T_ok rfl ?_
  refine RL.callM (fi := []) (ca := []) hS (valid_s l hl) rfl rfl rfl rfl (by repeat (first | with_reducible exact Sels.nil | apply Sels.ro (by with_reducible repeat (first | exact zS .. | apply zO)) (by rfl) | apply Sels.own (by with_reducible repeat (first | exact Sel.head | apply Sel.tail)))) ?_
  (try clear hS); rintro _ m _ ⟨rfl, rfl⟩ hS; (try simp only [zN] at hS); refine ⟨_, rfl, ?_⟩
  refine RL.A1 T_ok rfl ?_
  refine RL.N1 ?_; (with_reducible repeat (first | refine QN.B1 ?_ | refine QN.N1 ?_ | refine WP.S1 ?_ | refine WP.B1 ?_ | refine WP.R1 ?_))
  refine WP.ret ?_; (with_reducible repeat (first | refine QN.tr ?_ | refine QN.br ?_))
  exact QN.ret1 rfl rfl ⟨_, rfl, _, ⟨rfl, rfl⟩, Tr.drop (H := []) (F := [tabA]) hS⟩
def i32s (l : List Nat) : List Value := l.map fun r : Nat => .int .i32 r
theorem i32s_one (l : List Nat) : ∀ u ∈ i32s l, u.oneCell' = true := by intro u hu; obtain ⟨b, _, rfl⟩ := List.mem_map.1 hu; rfl
theorem lead_k {b k r low : Nat} (h : Lead b k r low) : 2 ≤ k ∧ k ≤ 4 ∧ r < 32 ∧ low ≤ 65536 := by rcases h with h | h | h <;> omega
theorem acc_bd (l : List UInt8) {b k r low i : Nat} (h : Lead b k r low) (h1 : 1 ≤ i) (hk : i ≤ k) (hl : i ≤ l.length) : acc l r i < 2097152 := by
  obtain ⟨j, rfl⟩ : ∃ j, i = j + 1 := ⟨i - 1, by omega⟩
  have hb := lead_k h
  have h2 := acc_lt l r (by omega) j hl
  rcases h with ⟨_, _, rfl, rfl, _⟩ | ⟨_, _, rfl, rfl, _⟩ | ⟨_, _, rfl, rfl, _⟩
  · rcases (show j = 0 ∨ j = 1 by omega) with rfl | rfl <;> omega
  · rcases (show j = 0 ∨ j = 1 ∨ j = 2 by omega) with rfl | rfl | rfl <;> omega
  · have h3 : acc l (b % 8) (j + 1) < 8 * 64 ^ j := by
      clear h2 hb hk h1
      induction j with
      | zero => rw [acc_one]; omega
      | succ j ih =>
        rw [acc_succ l _ (j + 1) (by omega) (by omega)]
        have := ih (by omega)
        have h5 : l[j + 1].toNat % 64 < 64 := Nat.mod_lt _ (by omega)
        rw [Nat.pow_succ]; omega
    rcases (show j = 0 ∨ j = 1 ∨ j = 2 ∨ j = 3 by omega) with rfl | rfl | rfl | rfl <;> omega
theorem lead_1 {b : Nat} (h1 : 194 ≤ b) (h2 : b < 224) : Lead b 2 (b % 32) 128 := .inl ⟨h1, h2, rfl, rfl, rfl⟩
theorem lead_2 {b : Nat} (h1 : 224 ≤ b) (h2 : b < 240) : Lead b 3 (b % 16) 2048 := .inr (.inl ⟨h1, h2, rfl, rfl, rfl⟩)
theorem lead_3 {b : Nat} (h1 : 240 ≤ b) (h2 : b < 245) : Lead b 4 (b % 8) 65536 := .inr (.inr ⟨h1, h2, rfl, rfl, rfl⟩)
set_option maxHeartbeats 1000000 in
set_option maxRecDepth 10000 in
theorem refnext_s (l : List UInt8) (hl0 : 0 < l.length) (hl : l.length < 1000000000) : DoS Tryz.prog 82 [.string (str l)] [] (fun r H => r = .tuple #[.int .i32 (nx l).1, .int .i64 (nx l).2] ∧ H = []) := by
  intro m0 X hS
  have fin : ∀ q : Nat × Nat, nx l = q → ∀ v, v = Value.tuple #[.int .i32 q.1, .int .i64 q.2] → ∃ r, Ending.returned v = .returned r ∧ ∃ H', (r = Value.tuple #[.int .i32 (nx l).1, .int .i64 (nx l).2] ∧ H' = []) ∧ Tr m0 (ofps []) X m0 H' := fun q hq v hv => ⟨v, rfl, [], ⟨by rw [hv, hq], rfl⟩, hS⟩
  have hb := l[0].toNat_lt
  refine FnE.enter ⟨_, Tryz.func82, by kernel_rfl, by kernel_rfl⟩ Tryz.func82 rfl rfl ?_
  (with_reducible repeat (first | refine WP.S1 ?_ | refine WP.B1 ?_ | refine WP.R1 ?_))
  refine RL.A1 T_ok rfl ?_
  refine RL.N1 ?_; (with_reducible repeat (first | refine QN.B1 ?_ | refine QN.N1 ?_ | refine WP.S1 ?_ | refine WP.B1 ?_ | refine WP.R1 ?_))
  refine RL.A1 T_ok rfl ?_
  refine RL.strAt T_ok rfl rfl rfl rfl (k := 0) rfl hl0 rfl ?_
  refine RL.A1 T_ok rfl ?_
  refine RL.N1 ?_; (with_reducible repeat (first | refine QN.B1 ?_ | refine QN.N1 ?_ | refine WP.S1 ?_ | refine WP.B1 ?_ | refine WP.R1 ?_))
  refine RL.A1 T_ok rfl ?_
  refine RL.N1 ?_; (with_reducible repeat (first | refine QN.B1 ?_ | refine QN.N1 ?_ | refine WP.S1 ?_ | refine WP.B1 ?_ | refine WP.R1 ?_))
  refine RL.A1 T_ok rfl ?_
  refine RL.N1 ?_; (with_reducible repeat (first | refine QN.B1 ?_ | refine QN.N1 ?_))
  -- what the first byte says
  refine WP.cut (X := Nat × Nat × Nat) (fun q => [(0, .string (str l)), (5, .int .i64 q.1), (7, .int .i32 q.2.1), (6, .int .i32 q.2.2)]) (fun q m => m0 = m ∧ Lead l[0].toNat q.1 q.2.1 q.2.2) ?_ ?_
  · (with_reducible repeat (first | refine WP.S1 ?_ | refine WP.B1 ?_ | refine WP.R1 ?_))
    refine RL.A1 T_ok rfl ?_
    refine RL.N1 ?_; (with_reducible repeat (first | refine QN.B1 ?_ | refine QN.N1 ?_))
    refine WP.cond rfl (fun hc => ?_) (fun hc => ?_)
    · have c1 : l[0].toNat < 128 := by have := of_decide_eq_true hc; omega
      (with_reducible repeat (first | refine WP.S1 ?_ | refine WP.B1 ?_ | refine WP.R1 ?_))
      refine RL.A1 T_ok rfl ?_
      refine RL.N1 ?_; (with_reducible repeat (first | refine QN.B1 ?_ | refine QN.N1 ?_ | refine WP.S1 ?_ | refine WP.B1 ?_ | refine WP.R1 ?_))
      refine WP.ret ?_; (with_reducible repeat (first | refine QN.tr ?_ | refine QN.br ?_))
      refine QN.ret2 rfl rfl rfl (fin _ (nx_ascii l hl0 c1) _ (congrArg Value.tuple (congrArg (fun q => #[Value.int .i32 q, .int .i64 1]) ?_)))
      show IntKind.i32.wrap (l[0].toNat : Int) = _
      exact wrap_i32_in _ (by omega) (by omega)
    have c1 : 128 ≤ l[0].toNat := by have := of_decide_eq_false hc; omega
    have none_ : (l[0].toNat < 194 ∨ 245 ≤ l[0].toNat) → nx l = (0, 0) := fun hh => nx_none l hl0 c1 (fun ⟨k, r, low, hL⟩ => by rcases hL with h | h | h <;> omega)
    (with_reducible repeat (first | refine WP.S1 ?_ | refine WP.B1 ?_ | refine WP.R1 ?_))
    by_cases c2 : l[0].toNat < 194
    · refine RL.pure T_ok 2 rfl ?_
      refine RL.eqv (v' := .bool false) (congrArg _ (decide_eq_false (by omega))) ?_
      refine RL.A1 T_ok rfl ?_
      refine RL.N1 ?_; (with_reducible repeat (first | refine QN.B1 ?_ | refine QN.N1 ?_))
      refine WP.condF rfl ?_
      (with_reducible repeat (first | refine WP.S1 ?_ | refine WP.B1 ?_ | refine WP.R1 ?_))
      refine RL.pure T_ok 2 rfl ?_
      refine RL.eqv (v' := .bool false) (congrArg _ (decide_eq_false (by omega))) ?_
      refine RL.A1 T_ok rfl ?_
      refine RL.N1 ?_; (with_reducible repeat (first | refine QN.B1 ?_ | refine QN.N1 ?_))
      refine WP.condF rfl ?_
      (with_reducible repeat (first | refine WP.S1 ?_ | refine WP.B1 ?_ | refine WP.R1 ?_))
      refine RL.pure T_ok 2 rfl ?_
      refine RL.eqv (v' := .bool false) (congrArg _ (decide_eq_false (by omega))) ?_
      refine RL.A1 T_ok rfl ?_
      refine RL.N1 ?_; (with_reducible repeat (first | refine QN.B1 ?_ | refine QN.N1 ?_))
      refine WP.condF rfl ?_
      (with_reducible repeat (first | refine WP.S1 ?_ | refine WP.B1 ?_ | refine WP.R1 ?_))
      refine RL.A1 T_ok rfl ?_
      refine RL.N1 ?_; (with_reducible repeat (first | refine QN.B1 ?_ | refine QN.N1 ?_))
      refine WP.ret ?_; (with_reducible repeat (first | refine QN.tr ?_ | refine QN.br ?_))
      exact QN.ret2 rfl rfl rfl (fin _ (none_ (by omega)) _ rfl)
    by_cases c3 : l[0].toNat < 224
    · refine RL.pure T_ok 2 rfl ?_
      refine RL.eqv (v' := .bool true) (congrArg _ (decide_eq_true (by omega))) ?_
      refine RL.pure T_ok 3 rfl ?_
      refine RL.eqv (v' := .bool true) (congrArg _ (decide_eq_true (by omega))) ?_
      refine RL.A1 T_ok rfl ?_
      refine RL.N1 ?_; (with_reducible repeat (first | refine QN.B1 ?_ | refine QN.N1 ?_))
      refine WP.condT rfl ?_
      (with_reducible repeat (first | refine WP.S1 ?_ | refine WP.B1 ?_ | refine WP.R1 ?_))
      refine RL.pure T_ok 2 rfl ?_
      refine RL.eqv (v' := .int .u8 (l[0].toNat % 32 : Nat)) (congrArg _ (and31 _)) ?_
      refine RL.pure T_ok 1 rfl ?_
      refine RL.eqv (v' := .int .i32 (l[0].toNat % 32 : Nat)) (congrArg _ (wrap_i32_in _ (by omega) (by omega))) ?_
      refine RL.A1 T_ok rfl ?_
      refine RL.N1 ?_
      (with_reducible repeat (first | refine QN.B1 ?_))
      exact QN.cutEnd (2, l[0].toNat % 32, 128) (Sub.C1 rfl (Sub.C1 rfl (Sub.C1 rfl (Sub.C1 rfl Sub.nil)))) ⟨rfl, lead_1 (by omega) (by omega)⟩
    by_cases c4 : l[0].toNat < 240
    · refine RL.pure T_ok 2 rfl ?_
      refine RL.eqv (v' := .bool true) (congrArg _ (decide_eq_true (by omega))) ?_
      refine RL.pure T_ok 3 rfl ?_
      refine RL.eqv (v' := .bool false) (congrArg _ (decide_eq_false (by omega))) ?_
      refine RL.A1 T_ok rfl ?_
      refine RL.N1 ?_; (with_reducible repeat (first | refine QN.B1 ?_ | refine QN.N1 ?_))
      refine WP.condF rfl ?_
      (with_reducible repeat (first | refine WP.S1 ?_ | refine WP.B1 ?_ | refine WP.R1 ?_))
      refine RL.pure T_ok 2 rfl ?_
      refine RL.eqv (v' := .bool true) (congrArg _ (decide_eq_true (by omega))) ?_
      refine RL.pure T_ok 3 rfl ?_
      refine RL.eqv (v' := .bool true) (congrArg _ (decide_eq_true (by omega))) ?_
      refine RL.A1 T_ok rfl ?_
      refine RL.N1 ?_; (with_reducible repeat (first | refine QN.B1 ?_ | refine QN.N1 ?_))
      refine WP.condT rfl ?_
      (with_reducible repeat (first | refine WP.S1 ?_ | refine WP.B1 ?_ | refine WP.R1 ?_))
      refine RL.pure T_ok 2 rfl ?_
      refine RL.eqv (v' := .int .u8 (l[0].toNat % 16 : Nat)) (congrArg _ (and15 _)) ?_
      refine RL.pure T_ok 1 rfl ?_
      refine RL.eqv (v' := .int .i32 (l[0].toNat % 16 : Nat)) (congrArg _ (wrap_i32_in _ (by omega) (by omega))) ?_
      refine RL.A1 T_ok rfl ?_
      refine RL.N1 ?_
      (with_reducible repeat (first | refine QN.B1 ?_))
      exact QN.cutEnd (3, l[0].toNat % 16, 2048) (Sub.C1 rfl (Sub.C1 rfl (Sub.C1 rfl (Sub.C1 rfl Sub.nil)))) ⟨rfl, lead_2 (by omega) (by omega)⟩
    by_cases c5 : l[0].toNat < 245
    · refine RL.pure T_ok 2 rfl ?_
      refine RL.eqv (v' := .bool true) (congrArg _ (decide_eq_true (by omega))) ?_
      refine RL.pure T_ok 3 rfl ?_
      refine RL.eqv (v' := .bool false) (congrArg _ (decide_eq_false (by omega))) ?_
      refine RL.A1 T_ok rfl ?_
      refine RL.N1 ?_; (with_reducible repeat (first | refine QN.B1 ?_ | refine QN.N1 ?_))
      refine WP.condF rfl ?_
      (with_reducible repeat (first | refine WP.S1 ?_ | refine WP.B1 ?_ | refine WP.R1 ?_))
      refine RL.pure T_ok 2 rfl ?_
      refine RL.eqv (v' := .bool true) (congrArg _ (decide_eq_true (by omega))) ?_
      refine RL.pure T_ok 3 rfl ?_
      refine RL.eqv (v' := .bool false) (congrArg _ (decide_eq_false (by omega))) ?_
      refine RL.A1 T_ok rfl ?_
      refine RL.N1 ?_; (with_reducible repeat (first | refine QN.B1 ?_ | refine QN.N1 ?_))
      refine WP.condF rfl ?_
      (with_reducible repeat (first | refine WP.S1 ?_ | refine WP.B1 ?_ | refine WP.R1 ?_))
      refine RL.pure T_ok 2 rfl ?_
      refine RL.eqv (v' := .bool true) (congrArg _ (decide_eq_true (by omega))) ?_
      refine RL.pure T_ok 3 rfl ?_
      refine RL.eqv (v' := .bool true) (congrArg _ (decide_eq_true (by omega))) ?_
      refine RL.A1 T_ok rfl ?_
      refine RL.N1 ?_; (with_reducible repeat (first | refine QN.B1 ?_ | refine QN.N1 ?_))
      refine WP.condT rfl ?_
      (with_reducible repeat (first | refine WP.S1 ?_ | refine WP.B1 ?_ | refine WP.R1 ?_))
      refine RL.pure T_ok 2 rfl ?_
      refine RL.eqv (v' := .int .u8 (l[0].toNat % 8 : Nat)) (congrArg _ (and7 _)) ?_
      refine RL.pure T_ok 1 rfl ?_
      refine RL.eqv (v' := .int .i32 (l[0].toNat % 8 : Nat)) (congrArg _ (wrap_i32_in _ (by omega) (by omega))) ?_
      refine RL.A1 T_ok rfl ?_
      refine RL.N1 ?_
      (with_reducible repeat (first | refine QN.B1 ?_))
      exact QN.cutEnd (4, l[0].toNat % 8, 65536) (Sub.C1 rfl (Sub.C1 rfl (Sub.C1 rfl (Sub.C1 rfl Sub.nil)))) ⟨rfl, lead_3 (by omega) (by omega)⟩
    refine RL.pure T_ok 2 rfl ?_
    refine RL.eqv (v' := .bool true) (congrArg _ (decide_eq_true (by omega))) ?_
    refine RL.pure T_ok 3 rfl ?_
    refine RL.eqv (v' := .bool false) (congrArg _ (decide_eq_false (by omega))) ?_
    refine RL.A1 T_ok rfl ?_
    refine RL.N1 ?_; (with_reducible repeat (first | refine QN.B1 ?_ | refine QN.N1 ?_))
    refine WP.condF rfl ?_
    (with_reducible repeat (first | refine WP.S1 ?_ | refine WP.B1 ?_ | refine WP.R1 ?_))
    refine RL.pure T_ok 2 rfl ?_
    refine RL.eqv (v' := .bool true) (congrArg _ (decide_eq_true (by omega))) ?_
    refine RL.pure T_ok 3 rfl ?_
    refine RL.eqv (v' := .bool false) (congrArg _ (decide_eq_false (by omega))) ?_
    refine RL.A1 T_ok rfl ?_
    refine RL.N1 ?_; (with_reducible repeat (first | refine QN.B1 ?_ | refine QN.N1 ?_))
    refine WP.condF rfl ?_
    (with_reducible repeat (first | refine WP.S1 ?_ | refine WP.B1 ?_ | refine WP.R1 ?_))
    refine RL.pure T_ok 2 rfl ?_
    refine RL.eqv (v' := .bool true) (congrArg _ (decide_eq_true (by omega))) ?_
    refine RL.pure T_ok 3 rfl ?_
    refine RL.eqv (v' := .bool false) (congrArg _ (decide_eq_false (by omega))) ?_
    refine RL.A1 T_ok rfl ?_
    refine RL.N1 ?_; (with_reducible repeat (first | refine QN.B1 ?_ | refine QN.N1 ?_))
    refine WP.condF rfl ?_
    (with_reducible repeat (first | refine WP.S1 ?_ | refine WP.B1 ?_ | refine WP.R1 ?_))
    refine RL.A1 T_ok rfl ?_
    refine RL.N1 ?_; (with_reducible repeat (first | refine QN.B1 ?_ | refine QN.N1 ?_))
    refine WP.ret ?_; (with_reducible repeat (first | refine QN.tr ?_ | refine QN.br ?_))
    exact QN.ret2 rfl rfl rfl (fin _ (none_ (by omega)) _ rfl)
  · rintro ⟨k, r, low⟩ m ⟨hm, hL⟩
    simp only at hL
    subst hm
    have hk := lead_k hL
    have hnx := nx_lead l hl0 hL
    (with_reducible repeat (first | refine WP.S1 ?_ | refine WP.B1 ?_ | refine WP.R1 ?_))
    dsimp only
    refine RL.pure T_ok 2 rfl ?_
    refine RL.eqv (v' := .int .i64 l.length) (congrArg _ (congrArg _ (str_sz l))) ?_
    refine RL.A1 T_ok rfl ?_
    refine RL.N1 ?_; (with_reducible repeat (first | refine QN.B1 ?_ | refine QN.N1 ?_))
    refine WP.cond rfl (fun hc => ?_) (fun hc => ?_)
    · have hc : l.length < k := by have := of_decide_eq_true hc; omega
      (with_reducible repeat (first | refine WP.S1 ?_ | refine WP.B1 ?_ | refine WP.R1 ?_))
      refine RL.A1 T_ok rfl ?_
      refine RL.N1 ?_; (with_reducible repeat (first | refine QN.B1 ?_ | refine QN.N1 ?_ | refine WP.S1 ?_ | refine WP.B1 ?_ | refine WP.R1 ?_))
      refine WP.ret ?_; (with_reducible repeat (first | refine QN.tr ?_ | refine QN.br ?_))
      exact QN.ret2 rfl rfl rfl (fin _ (hnx.trans (if_neg (fun hh => by omega))) _ rfl)
    have hle : k ≤ l.length := by have := of_decide_eq_false hc; omega
    refine WP.skip ?_; (with_reducible repeat (first | refine QN.B1 ?_ | refine QN.N1 ?_ | refine WP.S1 ?_ | refine WP.B1 ?_ | refine WP.R1 ?_))
    refine RL.A1 T_ok rfl ?_
    refine RL.N1 ?_; (with_reducible repeat (first | refine QN.B1 ?_ | refine QN.N1 ?_))
    refine WP.B1 ?_
    refine WP.loop (X := Nat) (fun i => [(0, .string (str l)), (5, .int .i64 k), (6, .int .i32 low), (7, .int .i32 (acc l r i : Nat)), (8, .int .i64 i)])
      (fun i m => m0 = m ∧ 1 ≤ i ∧ i ≤ k ∧ ∀ j (hj : j < l.length), 1 ≤ j → j < i → l[j].toNat / 64 = 2) (fun i => k - i) 1
      (Sub.C1 rfl (Sub.C1 rfl (Sub.C1 rfl (Sub.C1 rfl (Sub.C1 rfl Sub.nil))))) ⟨rfl, Nat.le_refl _, by omega, fun j _ h1 h2 => by omega⟩ ?_
    rintro i m1 ⟨hm, h1i, hik, hcont⟩
    subst hm
    have hacc := acc_bd l hL h1i hik (by omega)
    (with_reducible repeat (first | refine WP.S1 ?_ | refine WP.B1 ?_ | refine WP.R1 ?_))
    refine RL.A1 T_ok rfl ?_
    refine RL.N1 ?_; (with_reducible repeat (first | refine QN.B1 ?_ | refine QN.N1 ?_))
    refine WP.cond rfl (fun hc => ?_) (fun hc => ?_)
    · have hc : i < k := by have := of_decide_eq_true hc; omega
      have hil : i < l.length := by omega
      refine WP.skip ?_; (with_reducible repeat (first | refine QN.B1 ?_ | refine QN.N1 ?_ | refine WP.S1 ?_ | refine WP.B1 ?_ | refine WP.R1 ?_))
      refine RL.A1 T_ok rfl ?_
      refine RL.strAt T_ok rfl rfl rfl rfl (k := i) rfl hil rfl ?_
      refine RL.A1 T_ok rfl ?_
      refine RL.N1 ?_; (with_reducible repeat (first | refine QN.B1 ?_ | refine QN.N1 ?_))
      have h192 : decide (bits .and .u8 (l[i].toNat : Int) 192 = 128) = decide (l[i].toNat / 64 = 2) := and192 _
      refine WP.cond rfl (fun hc2 => ?_) (fun hc2 => ?_)
      · have hn : ¬ l[i].toNat / 64 = 2 := fun hh => by
          rw [decide_eq_true hh] at h192
          rw [of_decide_eq_true h192] at hc2
          exact absurd hc2 (by decide)
        (with_reducible repeat (first | refine WP.S1 ?_ | refine WP.B1 ?_ | refine WP.R1 ?_))
        refine RL.A1 T_ok rfl ?_
        refine RL.N1 ?_; (with_reducible repeat (first | refine QN.B1 ?_ | refine QN.N1 ?_ | refine WP.S1 ?_ | refine WP.B1 ?_ | refine WP.R1 ?_))
        refine WP.ret ?_; (with_reducible repeat (first | refine QN.tr ?_ | refine QN.br ?_))
        exact QN.ret2 rfl rfl rfl (fin _ (hnx.trans (if_neg (fun hh => hn (hh.2.1 i hil h1i hc)))) _ rfl)
      · have hn : l[i].toNat / 64 = 2 := by
          have h9 : bits .and .u8 (l[i].toNat : Int) 192 = 128 := by simpa using hc2
          rw [decide_eq_true h9] at h192
          exact of_decide_eq_true h192.symm
        refine WP.skip ?_; (with_reducible repeat (first | refine QN.B1 ?_ | refine QN.N1 ?_ | refine WP.S1 ?_ | refine WP.B1 ?_ | refine WP.R1 ?_))
        have h64 : l[i].toNat % 64 < 64 := Nat.mod_lt _ (by omega)
        have hsucc := acc_succ l r i hil h1i
        have hacc2 := acc_bd l hL (show 1 ≤ i + 1 by omega) (by omega) (by omega)
        refine RL.pure T_ok 2 rfl ?_
        refine RL.eqv (v' := .int .i32 (acc l r i * 64 : Nat)) (congrArg _ (by show IntKind.i32.wrap ((acc l r i : Int) * 2 ^ 6) = _; rw [wrap_i32_in _ (by omega) (by omega)]; omega)) ?_
        refine RL.pure T_ok 2 rfl ?_
        refine RL.strAt T_ok rfl rfl rfl rfl (k := i) rfl hil rfl ?_
        refine RL.pure T_ok 1 rfl ?_
        refine RL.eqv (v' := .int .u8 (l[i].toNat % 64 : Nat)) (congrArg _ (and63 _)) ?_
        refine RL.pure T_ok 1 rfl ?_
        refine RL.eqv (v' := .int .i32 (l[i].toNat % 64 : Nat)) (congrArg _ (wrap_i32_in _ (by omega) (by omega))) ?_
        refine RL.pure T_ok 1 rfl ?_
        refine RL.eqv (v' := .int .i32 (acc l r (i + 1) : Nat)) (congrArg _ ((or_add_i32 _ _ h64 (by omega)).trans (by rw [hsucc]))) ?_
        refine RL.A1 T_ok rfl ?_
        refine RL.N1 ?_; (with_reducible repeat (first | refine QN.B1 ?_ | refine QN.N1 ?_ | refine WP.S1 ?_ | refine WP.B1 ?_ | refine WP.R1 ?_))
        refine RL.A1 T_ok rfl ?_
        refine RL.N1 (QN.round (i + 1) (Sub.C1 rfl (Sub.C1 rfl (Sub.C1 rfl (Sub.C1 rfl (Sub.C1 ?_ Sub.nil))))) ⟨rfl, by omega, by omega, fun j hj h1 h2 => ?_⟩ (by omega))
        · show some (Value.int .i64 (IntKind.i64.wrap ((i : Int) + 1))) = some (Value.int .i64 ((i + 1 : Nat) : Int))
          rw [wrap_i64_in _ (by omega) (by omega)]; rfl
        · rcases Nat.lt_or_ge j i with g | g
          · exact hcont j hj h1 g
          · obtain rfl : j = i := by omega
            exact hn
    · have hc : i = k := by have := of_decide_eq_false hc; omega
      subst hc
      refine WP.exit ?_; (with_reducible repeat (first | refine QN.tx ?_ | refine QN.bx ?_ | refine QN.block_far rfl ?_ | refine QN.B1 ?_ | refine QN.N1 ?_)); (with_reducible repeat (first | refine WP.S1 ?_ | refine WP.B1 ?_ | refine WP.R1 ?_))
      by_cases d1 : acc l r i < low
      · refine RL.pure T_ok 3 rfl ?_
        refine RL.eqv (v' := .bool true) (congrArg _ (decide_eq_true (by omega))) ?_
        refine RL.A1 T_ok rfl ?_
        refine RL.N1 ?_; (with_reducible repeat (first | refine QN.B1 ?_ | refine QN.N1 ?_))
        refine WP.condT rfl ?_
        (with_reducible repeat (first | refine WP.S1 ?_ | refine WP.B1 ?_ | refine WP.R1 ?_))
        refine RL.A1 T_ok rfl ?_
        refine RL.N1 ?_; (with_reducible repeat (first | refine QN.B1 ?_ | refine QN.N1 ?_ | refine WP.S1 ?_ | refine WP.B1 ?_ | refine WP.R1 ?_))
        refine WP.ret ?_; (with_reducible repeat (first | refine QN.tr ?_ | refine QN.br ?_))
        exact QN.ret2 rfl rfl rfl (fin _ (hnx.trans (if_neg (fun hh => by have := (badR_iff (low := low)).2 (.inl d1); rw [hh.2.2] at this; cases this))) _ rfl)
      by_cases d2 : 1114111 < acc l r i
      · refine RL.pure T_ok 3 rfl ?_
        refine RL.eqv (v' := .bool false) (congrArg _ (decide_eq_false (by omega))) ?_
        refine RL.pure T_ok 3 rfl ?_
        refine RL.eqv (v' := .bool true) (congrArg _ (decide_eq_true (by omega))) ?_
        refine RL.A1 T_ok rfl ?_
        refine RL.N1 ?_; (with_reducible repeat (first | refine QN.B1 ?_ | refine QN.N1 ?_))
        refine WP.condT rfl ?_
        (with_reducible repeat (first | refine WP.S1 ?_ | refine WP.B1 ?_ | refine WP.R1 ?_))
        refine RL.A1 T_ok rfl ?_
        refine RL.N1 ?_; (with_reducible repeat (first | refine QN.B1 ?_ | refine QN.N1 ?_ | refine WP.S1 ?_ | refine WP.B1 ?_ | refine WP.R1 ?_))
        refine WP.ret ?_; (with_reducible repeat (first | refine QN.tr ?_ | refine QN.br ?_))
        exact QN.ret2 rfl rfl rfl (fin _ (hnx.trans (if_neg (fun hh => by have := (badR_iff (low := low)).2 (.inr (.inl d2)); rw [hh.2.2] at this; cases this))) _ rfl)
      by_cases d3 : 55296 ≤ acc l r i
      rotate_left
      · refine RL.pure T_ok 3 rfl ?_
        refine RL.eqv (v' := .bool false) (congrArg _ (decide_eq_false (by omega))) ?_
        refine RL.pure T_ok 3 rfl ?_
        refine RL.eqv (v' := .bool false) (congrArg _ (decide_eq_false (by omega))) ?_
        refine RL.pure T_ok 4 rfl ?_
        refine RL.eqv (v' := .bool false) (congrArg _ (decide_eq_false (by omega))) ?_
        refine RL.A1 T_ok rfl ?_
        refine RL.N1 ?_; (with_reducible repeat (first | refine QN.B1 ?_ | refine QN.N1 ?_))
        refine WP.condF rfl ?_
        refine WP.skip ?_; (with_reducible repeat (first | refine QN.B1 ?_ | refine QN.N1 ?_ | refine WP.S1 ?_ | refine WP.B1 ?_ | refine WP.R1 ?_))
        refine RL.A1 T_ok rfl ?_
        refine RL.N1 ?_; (with_reducible repeat (first | refine QN.B1 ?_ | refine QN.N1 ?_ | refine WP.S1 ?_ | refine WP.B1 ?_ | refine WP.R1 ?_))
        refine WP.ret ?_; (with_reducible repeat (first | refine QN.tr ?_ | refine QN.br ?_))
        exact QN.ret2 rfl rfl rfl (fin _ (hnx.trans (if_pos ⟨hle, hcont, by
          cases hq : badR (acc l r i) low
          · rfl
          · exact absurd (badR_iff.1 hq) (by omega)⟩)) _ rfl)
      by_cases d4 : acc l r i < 57344
      · refine RL.pure T_ok 3 rfl ?_
        refine RL.eqv (v' := .bool false) (congrArg _ (decide_eq_false (by omega))) ?_
        refine RL.pure T_ok 3 rfl ?_
        refine RL.eqv (v' := .bool false) (congrArg _ (decide_eq_false (by omega))) ?_
        refine RL.pure T_ok 4 rfl ?_
        refine RL.eqv (v' := .bool true) (congrArg _ (decide_eq_true (by omega))) ?_
        refine RL.pure T_ok 3 rfl ?_
        refine RL.eqv (v' := .bool true) (congrArg _ (decide_eq_true (by omega))) ?_
        refine RL.A1 T_ok rfl ?_
        refine RL.N1 ?_; (with_reducible repeat (first | refine QN.B1 ?_ | refine QN.N1 ?_))
        refine WP.condT rfl ?_
        (with_reducible repeat (first | refine WP.S1 ?_ | refine WP.B1 ?_ | refine WP.R1 ?_))
        refine RL.A1 T_ok rfl ?_
        refine RL.N1 ?_; (with_reducible repeat (first | refine QN.B1 ?_ | refine QN.N1 ?_ | refine WP.S1 ?_ | refine WP.B1 ?_ | refine WP.R1 ?_))
        refine WP.ret ?_; (with_reducible repeat (first | refine QN.tr ?_ | refine QN.br ?_))
        exact QN.ret2 rfl rfl rfl (fin _ (hnx.trans (if_neg (fun hh => by have := (badR_iff (low := low)).2 (.inr (.inr ⟨d3, d4⟩)); rw [hh.2.2] at this; cases this))) _ rfl)
      refine RL.pure T_ok 3 rfl ?_
      refine RL.eqv (v' := .bool false) (congrArg _ (decide_eq_false (by omega))) ?_
      refine RL.pure T_ok 3 rfl ?_
      refine RL.eqv (v' := .bool false) (congrArg _ (decide_eq_false (by omega))) ?_
      refine RL.pure T_ok 4 rfl ?_
      refine RL.eqv (v' := .bool true) (congrArg _ (decide_eq_true (by omega))) ?_
      refine RL.pure T_ok 3 rfl ?_
      refine RL.eqv (v' := .bool false) (congrArg _ (decide_eq_false (by omega))) ?_
      refine RL.A1 T_ok rfl ?_
      refine RL.N1 ?_; (with_reducible repeat (first | refine QN.B1 ?_ | refine QN.N1 ?_))
      refine WP.condF rfl ?_
      refine WP.skip ?_; (with_reducible repeat (first | refine QN.B1 ?_ | refine QN.N1 ?_ | refine WP.S1 ?_ | refine WP.B1 ?_ | refine WP.R1 ?_))
      refine RL.A1 T_ok rfl ?_
      refine RL.N1 ?_; (with_reducible repeat (first | refine QN.B1 ?_ | refine QN.N1 ?_ | refine WP.S1 ?_ | refine WP.B1 ?_ | refine WP.R1 ?_))
      refine WP.ret ?_; (with_reducible repeat (first | refine QN.tr ?_ | refine QN.br ?_))
      exact QN.ret2 rfl rfl rfl (fin _ (hnx.trans (if_pos ⟨hle, hcont, by
        cases hq : badR (acc l r i) low
        · rfl
        · exact absurd (badR_iff.1 hq) (by omega)⟩)) _ rfl)
theorem refrunes_s (l : List UInt8) (hl : l.length < 1000000000) : DoS Tryz.prog 60 [.string (str l)] [] (fun r H => ∃ v S, r = .tuple #[v, .bool (runesL l).isSome] ∧ H = [ownA S 21 1 v ((runesL l).getD []).length (i32s ((runesL l).getD []))]) := by
  intro m0 X hS
  refine FnE.enter ⟨_, Tryz.func60, by kernel_rfl, by kernel_rfl⟩ Tryz.func60 rfl rfl ?_
  (with_reducible repeat (first | refine WP.S1 ?_ | refine WP.B1 ?_ | refine WP.R1 ?_))
  refine RL.A1 T_ok rfl ?_
  refine RL.N1 ?_; (with_reducible repeat (first | refine QN.B1 ?_ | refine QN.N1 ?_ | refine WP.S1 ?_ | refine WP.B1 ?_ | refine WP.R1 ?_))
  refine RL.A1 T_ok rfl ?_
  refine RL.N1 ?_; (with_reducible repeat (first | refine QN.B1 ?_ | refine QN.N1 ?_))
  refine WP.S1 ?_
  refine WP.B1 ?_
  refine WP.loop (X := List UInt8 × List Nat × Value × List Nat) (fun q => [(0, .string (str q.1)), (4, q.2.2.1)])
    (fun q m => q.1.length ≤ l.length ∧ q.2.1.length + q.1.length ≤ l.length ∧ runesL l = (runesL q.1).map (q.2.1 ++ ·) ∧ Tr m0 (ofps []) X m [ownA q.2.2.2 21 1 q.2.2.1 q.2.1.length (i32s q.2.1)]) (fun q => q.1.length) (l, [], .slice none 0 0, [])
    (Sub.C1 rfl (Sub.C1 rfl Sub.nil)) ⟨Nat.le_refl _, by simp, by cases runesL l <;> simp, hS.empty _ _ _⟩ ?_
  rintro ⟨s, out, v, S⟩ m ⟨hsl, hout, hrun, hS⟩
  dsimp only at hsl hout hrun hS ⊢
  (with_reducible repeat (first | refine WP.S1 ?_ | refine WP.B1 ?_ | refine WP.R1 ?_))
  refine RL.pure T_ok 2 rfl ?_
  refine RL.eqv (v' := .int .i64 s.length) (congrArg _ (congrArg _ (str_sz s))) ?_
  refine RL.A1 T_ok rfl ?_
  refine RL.N1 ?_; (with_reducible repeat (first | refine QN.B1 ?_ | refine QN.N1 ?_))
  refine WP.cond rfl (fun hc => ?_) (fun hc => ?_)
  · have hpos : 0 < s.length := by have := of_decide_eq_true hc; omega
    have hne : s ≠ [] := List.ne_nil_of_length_pos hpos
    refine WP.skip ?_; (with_reducible repeat (first | refine QN.B1 ?_ | refine QN.N1 ?_ | refine WP.S1 ?_ | refine WP.B1 ?_ | refine WP.R1 ?_))
    refine RL.A1 T_ok rfl ?_
    refine RL.callM (fi := []) (ca := []) hS (refnext_s s hpos (by omega)) rfl rfl rfl rfl (by repeat (first | with_reducible exact Sels.nil | apply Sels.ro (by with_reducible repeat (first | exact zS .. | apply zO)) (by rfl) | apply Sels.own (by with_reducible repeat (first | exact Sel.head | apply Sel.tail)))) ?_
    (try clear hS); rintro _ m _ ⟨rfl, rfl⟩ hS; (try simp only [zN] at hS); refine ⟨_, rfl, ?_⟩
    refine RL.A1 T_ok rfl ?_
    refine RL.N1 ?_; (with_reducible repeat (first | refine QN.B1 ?_ | refine QN.N1 ?_ | refine WP.S1 ?_ | refine WP.B1 ?_ | refine WP.R1 ?_))
    refine RL.A1 T_ok rfl ?_
    refine RL.N1 ?_; (with_reducible repeat (first | refine QN.B1 ?_ | refine QN.N1 ?_))
    have hstep := runesL_step s hne
    refine WP.cond rfl (fun hc2 => ?_) (fun hc2 => ?_)
    · have h0 : (nx s).2 = 0 := by have := of_decide_eq_true hc2; omega
      rw [if_pos h0] at hstep
      rw [hstep] at hrun
      have hnone : runesL l = none := hrun
      (with_reducible repeat (first | refine WP.S1 ?_ | refine WP.B1 ?_ | refine WP.R1 ?_))
      refine RL.A1 T_ok rfl ?_
      refine RL.N1 ?_; (with_reducible repeat (first | refine QN.B1 ?_ | refine QN.N1 ?_ | refine WP.S1 ?_ | refine WP.B1 ?_ | refine WP.R1 ?_))
      refine WP.ret ?_; (with_reducible repeat (first | refine QN.tr ?_ | refine QN.br ?_))
      exact QN.ret2 rfl rfl rfl ⟨_, rfl, [ownA [] 21 1 (.slice none 0 0) 0 []], ⟨.slice none 0 0, [], by rw [hnone]; rfl, by rw [hnone]; rfl⟩, (Tr.drop (H := []) hS).empty _ _ _⟩
    · have h0 : ¬ (nx s).2 = 0 := by have := of_decide_eq_false hc2; omega
      rw [if_neg h0] at hstep
      have hw : 1 ≤ (nx s).2 ∧ (nx s).2 ≤ s.length := by
        rcases nx_width s hne with h1 | h1
        · exact absurd h1 h0
        · exact h1
      refine WP.skip ?_; (with_reducible repeat (first | refine QN.B1 ?_ | refine QN.N1 ?_ | refine WP.S1 ?_ | refine WP.B1 ?_ | refine WP.R1 ?_))
      refine RL.A1 T_ok rfl ?_
      refine RL.append1M T_ok hS [.tmp 18] (i32s [(nx s).1]) rfl rfl rfl rfl rfl rfl rfl rfl rfl (by simp [Value.cells, i32s]) (by repeat (first | exact Sel.head | apply Sel.tail)) (by simp [Value.cells]) (i32s_one _) (by unfold maxLen; omega) (by show (_ + _) * 4 ≤ _; omega) ?_
      intro b v' m S' hS
      refine ⟨_, rfl, ?_⟩
      refine RL.A1 T_ok rfl ?_
      refine RL.N1 ?_; (with_reducible repeat (first | refine QN.B1 ?_ | refine QN.N1 ?_ | refine WP.S1 ?_ | refine WP.B1 ?_ | refine WP.R1 ?_))
      refine RL.A1 T_ok rfl ?_
      refine RL.strFrom T_ok rfl rfl rfl rfl (k := (nx s).2) rfl hw.2 rfl ?_
      refine RL.A1 T_ok rfl ?_
      refine RL.N1 ?_
      (with_reducible repeat (first | refine QN.B1 ?_))
      refine QN.round (s.drop (nx s).2, out ++ [(nx s).1], v', S') (Sub.C1 rfl (Sub.C1 rfl Sub.nil)) ⟨by simp only [List.length_drop]; omega, by simp only [List.length_drop, List.length_append, List.length_singleton]; omega, ?_, ?_⟩ (by simp only [List.length_drop]; omega)
      · rw [hrun, hstep]
        cases runesL (s.drop (nx s).2) <;> simp
      · simpa [i32s, Tr, List.length_append] using hS
  · have hz : s = [] := List.eq_nil_of_length_eq_zero (by have := of_decide_eq_false hc; omega)
    subst hz
    rw [runesL_nil] at hrun
    simp only [Option.map_some, List.append_nil] at hrun
    refine WP.exit ?_; (with_reducible repeat (first | refine QN.tx ?_ | refine QN.bx ?_ | refine QN.block_far rfl ?_ | refine QN.B1 ?_ | refine QN.N1 ?_)); (with_reducible repeat (first | refine WP.S1 ?_ | refine WP.B1 ?_ | refine WP.R1 ?_))
    refine RL.A1 T_ok rfl ?_
    refine RL.N1 ?_; (with_reducible repeat (first | refine QN.B1 ?_ | refine QN.N1 ?_ | refine WP.S1 ?_ | refine WP.B1 ?_ | refine WP.R1 ?_))
    refine WP.ret ?_; (with_reducible repeat (first | refine QN.tr ?_ | refine QN.br ?_))
    rw [hrun]
    exact QN.ret2 rfl rfl rfl ⟨_, rfl, _, ⟨_, S, rfl, rfl⟩, hS⟩
theorem refcheck_s (l : List UInt8) (hl : l.length < 1000000000) : DoS Tryz.prog 25 [.string (str l)] [] (fun r H => r = .bool (runesL l).isSome ∧ H = []) := by
  intro m0 X hS
  refine FnE.enter ⟨_, Tryz.func25, by kernel_rfl, by kernel_rfl⟩ Tryz.func25 rfl rfl ?_
  (with_reducible repeat (first | refine WP.S1 ?_ | refine WP.B1 ?_ | refine WP.R1 ?_))
  refine RL.A1 T_ok rfl ?_
  refine RL.N1 ?_; (with_reducible repeat (first | refine QN.B1 ?_ | refine QN.N1 ?_ | refine WP.S1 ?_ | refine WP.B1 ?_ | refine WP.R1 ?_))
  refine RL.A1 T_ok rfl ?_
  refine RL.callM (fi := []) (ca := []) hS (refrunes_s l hl) rfl rfl rfl rfl (by repeat (first | with_reducible exact Sels.nil | apply Sels.ro (by with_reducible repeat (first | exact zS .. | apply zO)) (by rfl) | apply Sels.own (by with_reducible repeat (first | exact Sel.head | apply Sel.tail)))) ?_
  (try clear hS); rintro _ m _ ⟨v, S, rfl, rfl⟩ hS; (try simp only [zC, zN] at hS); refine ⟨_, rfl, ?_⟩
  refine RL.A1 T_ok rfl ?_
  refine RL.N1 ?_; (with_reducible repeat (first | refine QN.B1 ?_ | refine QN.N1 ?_ | refine WP.S1 ?_ | refine WP.B1 ?_ | refine WP.R1 ?_))
  refine RL.A1 T_ok rfl ?_
  refine RL.N1 ?_; (with_reducible repeat (first | refine QN.B1 ?_ | refine QN.N1 ?_ | refine WP.S1 ?_ | refine WP.B1 ?_ | refine WP.R1 ?_))
  refine WP.ret ?_; (with_reducible repeat (first | refine QN.tr ?_ | refine QN.br ?_))
  exact QN.ret1 rfl rfl ⟨_, rfl, _, ⟨rfl, rfl⟩, Tr.drop (H := []) hS⟩
end Go.Proofs.YtmjpcaiehfimgaaGreatDoor
end
section
namespace Go.Ev
open Go.RowKit Go.Sort Go.Shelf Go.Proofs
theorem grow_of_ext {W m' w' : World} (hE : Ext W [] m') (hs : Sim m' w') : ∃ q os', w' = grow (W.drewN q) os' := by
  refine ⟨w'.drawn - W.drawn, w'.heap.extract W.heap.size w'.heap.size, ?_⟩
  have h1 : W.drawn ≤ w'.drawn := Nat.le_trans hE.drawn.1 hs.drawn
  have h2 : W.heap ++ w'.heap.extract W.heap.size w'.heap.size = w'.heap := by
    have hsz : W.heap.size ≤ w'.heap.size := by rw [hs.heap]; exact hE.size
    apply Array.ext
    · simp; omega
    · intro i h3 h4
      by_cases hi : i < W.heap.size
      · rw [Array.getElem_append_left hi]
        have := hE.far i hi (by simp)
        rw [← hs.heap] at this
        rw [Array.getElem?_eq_getElem hi, Array.getElem?_eq_getElem h4] at this
        exact (Option.some.inj this).symm
      · rw [Array.getElem_append_right (by omega), Array.getElem_extract]
        congr 1; omega
  obtain ⟨h, t, d, o, u⟩ := w'
  obtain ⟨h', t', d', o', u'⟩ := W
  have e1 : t = t' := hs.tape.trans hE.tape
  have e2 : o = o' := hs.os.trans hE.os
  have e3 : u = u' := hs.output.trans hE.output
  subst e1; subst e2; subst e3
  simp only at h1 h2
  unfold grow World.drewN
  simp only
  rw [h2]
  congr 1; omega
theorem _root_.Go.Ev.Own.putK {m : World} {S : List Nat} {t : TypeId} {sz : Nat} {v : Value} {n j k : Nat} {xs : List Value} (h : Own m S t sz v n xs) (hk : 0 < k) (hj : j + k ≤ n * sz) :
    ∃ g cap cur, v = .slice (some ⟨g, 0, none⟩) n cap ∧ Blk m g t cur ∧ S = [g] ∧ j + k ≤ cur.length ∧ ∀ m' vs, vs.length = k → Chg m g (.cells (cur.take j ++ vs ++ cur.drop (j + k)).toArray t (0, 0)) m' → Own m' S t sz v n (xs.take j ++ vs ++ xs.drop (j + k)) := by
  have hn : 0 < n := by
    rcases Nat.eq_zero_or_pos n with h0 | h0
    · subst h0; simp at hj; omega
    · exact h0
  obtain ⟨g, cap, cur, rfl, hB, hcap, hcm, hcl, hct, rfl⟩ := h.at_ hn
  have hlen := h.1
  have hjc : j + k ≤ cur.length := by rw [hcl]; exact Nat.le_trans hj (Nat.mul_le_mul_right _ hcap)
  obtain ⟨rest, rfl⟩ : ∃ rest, cur = xs ++ rest := ⟨cur.drop (n * sz), by rw [← hct, List.take_append_drop]⟩
  refine ⟨g, cap, _, rfl, hB, rfl, hjc, fun m' vs hv hC => ?_⟩
  have e1 : (xs ++ rest).take j = xs.take j := List.take_append_of_le_length (by omega)
  have e2 : (xs ++ rest).drop (j + k) = xs.drop (j + k) ++ rest := List.drop_append_of_le_length (by omega)
  have e3 : (xs.take j ++ vs ++ xs.drop (j + k)).length = n * sz := by simp [hv]; omega
  rw [e1, e2] at hC
  refine ⟨e3, .inr ⟨g, cap, _, rfl, hC.blk, hcap, hcm, ?_, ?_, rfl⟩⟩
  · rw [← hcl]
    simp only [List.length_append, List.length_take, List.length_drop, hv]; omega
  · rw [← List.append_assoc, ← e3, List.take_left]
section
variable {α : Type} [Inhabited α]
omit [Inhabited α] in
theorem flatMap_get (enc : α → List Value) (k : Nat) (hk : ∀ x, (enc x).length = k) : ∀ (l : List α) (i j : Nat), j < k → (h : i < l.length) → (l.flatMap enc)[i * k + j]? = (enc l[i])[j]?
  | x :: l, 0, j, hj, _ => by
    rw [List.flatMap_cons, List.getElem?_append_left (by rw [hk]; omega)]
    simp
  | x :: l, i + 1, j, hj, h => by
    rw [List.flatMap_cons, List.getElem?_append_right (by rw [hk, Nat.succ_mul]; omega), hk]
    rw [show (i + 1) * k + j - k = i * k + j by rw [Nat.succ_mul]; omega]
    rw [flatMap_get enc k hk l i j hj (by simpa using h)]
    simp
omit [Inhabited α] in
theorem flatMap_len (enc : α → List Value) (k : Nat) (hk : ∀ x, (enc x).length = k) : ∀ l : List α, (l.flatMap enc).length = l.length * k
  | [] => by simp
  | x :: l => by rw [List.flatMap_cons, List.length_append, hk, flatMap_len enc k hk l, List.length_cons, Nat.succ_mul, Nat.add_comm]
theorem flatK_list (enc : α → List Value) (k : Nat) (hk : ∀ x, (enc x).length = k) (hk0 : 0 < k) (d : Array α) : flatK enc k d = (d.toList.flatMap enc).toArray := by
  apply ext_get!
  · have h9 := flatMap_len enc k hk d.toList
    rw [show d.toList.length = d.size from Array.length_toList] at h9
    rw [size_flatK, ← h9]
    exact (List.size_toArray ..).symm
  · intro t ht
    rw [size_flatK] at ht
    rw [get_flatK _ _ _ _ ht]
    have hq : t / k < d.toList.length := by rw [Array.length_toList]; exact Nat.div_lt_of_lt_mul (by rw [Nat.mul_comm]; exact ht)
    have hm : t % k < k := Nat.mod_lt _ hk0
    have h1 := flatMap_get enc k hk d.toList (t / k) (t % k) hm hq
    rw [Nat.mul_comm, Nat.div_add_mod] at h1
    have h2 : t < (d.toList.flatMap enc).length := by rw [flatMap_len enc k hk, Array.length_toList]; exact ht
    rw [List.getElem?_eq_getElem h2, List.getElem?_eq_getElem (by rw [hk]; exact hm)] at h1
    rw [getElem!_pos (d.toList.flatMap enc).toArray t (by simpa using h2)]
    have h3 : d[t / k]! = d.toList[t / k] := by rw [getElem!_pos d _ (by simpa using hq)]; simp
    rw [h3, getElem!_pos (enc d.toList[t / k]) _ (by rw [hk]; exact hm)]
    simpa using (Option.some.inj h1).symm
theorem putCells_list (F : List Value) (cur : List Value) (h : F.length ≤ cur.length) : putCells id 0 F.toArray cur.toArray = (F ++ cur.drop F.length).toArray := by
  unfold putCells
  apply Array.ext
  · simp; omega
  · intro i h1 h2
    simp only [Array.getElem_mapIdx, Nat.zero_le, true_and, Nat.zero_add, List.size_toArray, Nat.sub_zero, id]
    by_cases hi : i < F.length
    · rw [if_pos hi, getElem!_pos F.toArray i (by simpa using hi)]
      simp [List.getElem_append_left hi]
    · rw [if_neg hi]
      simp [List.getElem_append_right (Nat.le_of_not_lt hi)]
      congr 1; omega
theorem sortFunc_run {P : Program} {ρ : Ren} (L : SlLaysF0.n6 P ρ) (k : Nat) (hk0 : 0 < k) (aE : ∀ w, (isAgg (ρ.t 24)).run P w = .ok true w) (zE : ∀ w, (Go.sizeOf (ρ.t 24)).run P w = .ok k w) (enc : α → List Value) (hk : ∀ x, (enc x).length = k) (h1 : ∀ x, ∀ v ∈ enc x, v.oneCell' = true)
    (cf : α → α → Int) (hO : SWO (ltOf cf)) (g : Nat) (hcg : Callable P g) (hcs : Callable P (ρ.f 6)) (hcmp : ∀ W x y, FnR P g [.agg (enc x).toArray, .agg (enc y).toArray] W fun r m' => r = .int .i64 (cf x y) ∧ Ext W [] m')
    {m : World} {S : List Nat} {te : TypeId} {v : Value} {l : List α} (hown : Own m S te k v l.length (l.flatMap enc)) (hl : l.length < 4611686018427387904) :
    FnR P (ρ.f 6) [v, .func (.func g) #[] #[]] m fun r m' => r = .tuple #[] ∧ Ext m S m' ∧ ∃ l' : List α, l'.Perm l ∧ l'.Pairwise (fun x y => ltOf cf y x = false) ∧ Own m' S te k v l'.length (l'.flatMap enc) := by
  have eg : ∀ args w, (callFunc g args).run P w = .ok (.enter g args) w := fun args w => callFunc_run hcg args w
  refine ⟨hcs, fun w hs => ?_⟩
  by_cases hn0 : l.length = 0
  · have hl0 : l = [] := List.eq_nil_of_length_eq_zero hn0
    subst hl0
    obtain ⟨A, c, rfl, _⟩ := hown.shape
    refine (AnyF.slices_SortFunc_none L A c (.func (.func g) #[] #[]) w).mono ?_
    rintro e w' ⟨rfl, rfl⟩
    exact ⟨m, hs, _, rfl, rfl, Ext.refl _ _, [], List.Perm.refl _, List.Pairwise.nil, hown⟩
  obtain ⟨b, cap, cur, rfl, hB, hnc, hcm, hcl, htake, rfl⟩ := hown.at_ (by omega)
  have hw : w.heap[b]? = some (.cells cur.toArray te (0, 0)) := by rw [hs.heap]; exact hB
  have hfl := flatMap_len enc k hk l
  have hcur : (l.flatMap enc).length ≤ cur.length := by rw [hfl, hcl]; exact Nat.mul_le_mul_right _ hnc
  have hF := flatK_list enc k hk hk0 l.toArray
  have hH : HoldsK enc k w b 0 l.toArray := by
    intro j hj
    rw [size_flatK, List.size_toArray] at hj
    rw [hF]
    have hj' : j < (l.flatMap enc).length := by rw [hfl]; exact hj
    have hjc : j < cur.length := by omega
    have hx : cur[j] = (l.flatMap enc)[j] := by
      have : (cur.take (l.length * k))[j]? = (l.flatMap enc)[j]? := by rw [htake]
      rw [List.getElem?_take, if_pos hj, List.getElem?_eq_getElem hjc, List.getElem?_eq_getElem hj'] at this
      exact Option.some.inj this
    constructor
    · simp only [Nat.zero_add, World.cell?, hw, id]
      rw [getElem!_pos _ j (by simpa using hj')]
      simp [hjc, hx]
    · simp only [Nat.zero_add, World.frozen?, hw]
      simp
  have hlays : CmpLays P g #[] enc k cf b 0 l.toArray.size w := fun q os dk _ x y => by
    have h2 := (hcmp (sortWorldK enc k w b 0 q dk os) x y).2 _ (Sim.refl _)
    refine Calls.mono h2 ?_
    rintro e w' ⟨m', hs', r, rfl, rfl, hE⟩
    exact ⟨rfl, grow_of_ext hE hs'⟩
  have hcall := AnyQ.slices_SortFunc L k aE zE enc hk h1 cf hO g #[] b 0 cap l.toArray w eg hlays hH (by rw [hs.size]; exact hB.lt) (by simpa using hl)
  simp only [List.size_toArray] at hcall
  refine Calls.mono hcall ?_
  rintro e w' ⟨rfl, d', q, os, hp, hsrt, rfl⟩
  obtain ⟨hp1, _, hp2⟩ := hp
  have hsz' : d'.size = l.length := by simpa using hp1
  have hperm : d'.toList.Perm l := by
    have e1 : (d'.extract 0 l.length).toList = d'.toList := by simp [← hsz']
    have e2 : (l.toArray.extract 0 l.length).toList = l := by simp
    rw [e1, e2] at hp2; exact hp2
  have hF' := flatK_list enc k hk hk0 d'
  have hlen' : (d'.toList.flatMap enc).length = (l.flatMap enc).length := by rw [flatMap_len enc k hk, hfl, Array.length_toList, hsz']
  -- the world behind
  have hheap : (putRowK enc k (Go.Sort.ahead w q) b 0 d').heap[b]? = some (.cells (d'.toList.flatMap enc ++ cur.drop (l.flatMap enc).length).toArray te (0, 0)) := by
    unfold putRowK putRow mapBlock
    rw [hF']
    show (w.heap.modify b _)[b]? = _
    rw [Array.getElem?_modify, if_pos rfl, hw]
    simp only [Option.map_some, onCells]
    rw [putCells_list _ _ (by rw [hlen']; exact hcur), hlen']
  have hother : ∀ j, j ≠ b → (putRowK enc k (Go.Sort.ahead w q) b 0 d').heap[j]? = w.heap[j]? := fun j hj => by
    unfold putRowK putRow mapBlock
    show (w.heap.modify b _)[j]? = _
    rw [Array.getElem?_modify, if_neg (Ne.symm hj)]
  have hsize : (putRowK enc k (Go.Sort.ahead w q) b 0 d').heap.size = w.heap.size := by
    unfold putRowK putRow mapBlock
    show (w.heap.modify b _).size = _
    simp
  have hgrow : ∀ j, j < w.heap.size → (sortWorldK enc k w b 0 q d' os).heap[j]? = (putRowK enc k (Go.Sort.ahead w q) b 0 d').heap[j]? := fun j hj => by
    unfold sortWorldK grow
    show (_ ++ os)[j]? = _
    rw [Array.getElem?_append_left (by rw [hsize]; exact hj)]
  have hbw : b < w.heap.size := by rw [hs.size]; exact hB.lt
  refine ⟨low m (sortWorldK enc k w b 0 q d' os), Sim.low _ _, _, rfl, rfl, ?_, d'.toList, hperm, ?_, ?_⟩
  · refine ⟨?_, ?_, ?_, ?_, fun j hj hn => ?_, ?_⟩
    · exact hs.os
    · exact hs.tape
    · exact hs.output
    · show m.heap.size ≤ (_ ++ os).size
      rw [Array.size_append, hsize, hs.size]; omega
    · rw [low_heap, hgrow j (by rw [hs.size]; exact hj), hother j (by simpa using hn), hs.heap]
    · refine dle.low ?_
      show m.drawn ≤ w.drawn + q
      have := hs.drawn; omega
  · rw [List.pairwise_iff_getElem]
    intro i j hi hj hij
    have := hsrt i j (Nat.zero_le _) hij (by simpa [hsz'] using hj)
    rw [getElem!_pos d' i (by simpa using hi), getElem!_pos d' j (by simpa using hj)] at this
    simpa using this
  · have hlen2 : d'.toList.length = l.length := by rw [Array.length_toList, hsz']
    refine ⟨by rw [hlen', hfl, hlen2], .inr ⟨b, cap, d'.toList.flatMap enc ++ cur.drop (l.flatMap enc).length, by rw [hlen2], ?_, by rw [hlen2]; exact hnc, hcm, ?_, ?_, rfl⟩⟩
    · show (sortWorldK enc k w b 0 q d' os).heap[b]? = _
      rw [hgrow b hbw, hheap]
    · rw [List.length_append, hlen', List.length_drop, hcl]
      rw [hcl] at hcur; omega
    · rw [hlen2, ← hfl, ← hlen']
      exact List.take_left
end
end Go.Ev
end
section
namespace Go.Proofs.YtmjpcaiehfimgaaGreatDoor
open Go.RowKit Go.Ev Go.Ids Go.Mrg
def cC (x : Clk) : List Value := [.int .u64 x.c, .int .u64 x.k]
def cV (x : Clk) : Value := .agg (cC x).toArray
theorem cC_one (x : Clk) : ∀ v ∈ cC x, v.oneCell' = true := by intro v hv; simp [cC] at hv; rcases hv with rfl | rfl <;> rfl
theorem csC_len : ∀ l : List Clk, (l.flatMap cC).length = l.length * 2
  | [] => rfl
  | x :: l => by simp [cC, csC_len l]; omega
theorem csC_get : ∀ (l : List Clk) (k : Nat) (h : k < l.length) (j : Nat), j < 2 → (l.flatMap cC)[k * 2 + j]? = (cC l[k])[j]?
  | x :: l, 0, _, j, hj => by
    rw [List.flatMap_cons, List.getElem?_append_left (by simp [cC]; omega)]
    simp
  | x :: l, k + 1, h, j, hj => by
    rw [List.flatMap_cons, List.getElem?_append_right (by simp [cC]; omega)]
    have : (k + 1) * 2 + j - (cC x).length = k * 2 + j := by simp [cC]; omega
    rw [this, csC_get l k (by simpa using h) j hj]
    simp
theorem csC_one (l : List Clk) : ∀ u ∈ l.flatMap cC, u.oneCell' = true := by
  intro u hu
  obtain ⟨x, _, hx⟩ := List.mem_flatMap.1 hu
  exact cC_one x u hx
def Cs (m : World) (M : List Nat) (v : Value) (l : List Clk) : Prop := Sl m M 2 v (l.flatMap cC)
theorem Cs.shape {m : World} {M : List Nat} {v : Value} {l : List Clk} (h : Cs m M v l) : ∃ A c, v = .slice A l.length c ∧ l.length ≤ c ∧ c ≤ maxLen := Sl.shape h (csC_len l) (by omega)
theorem Cs.ext0 {m m' : World} {v : Value} {l : List Clk} (h : Cs m [] v l) (hE : Ext m [] m') : Cs m' [] v l := Sl.ext h hE (by simp) (by omega)
theorem Cs.cell {m : World} {M : List Nat} {A : Option Addr} {n c : Nat} {l : List Clk} (h : Cs m M (.slice A n c) l) (k : Nat) (hk : k < l.length) : ∃ ad, A = some ad ∧ ∀ j u, (cC l[k])[j]? = some u → m.cell? ((ad.add (k * 2)).add j) = some u := by
  obtain ⟨hl, _⟩ := Sl.len h
  rw [csC_len] at hl
  obtain ⟨ad, rfl, _, hc⟩ := Sl.addr h (by omega)
  refine ⟨ad, rfl, fun j u hu => ?_⟩
  have hj : j < 2 := by have := (List.getElem?_eq_some_iff.1 hu).1; simpa [cC] using this
  rw [add_add]
  exact hc _ u (by rw [csC_get l k hk j hj]; exact hu)
theorem cS_at {m : World} {M : List Nat} {ad : Addr} {n c : Nat} {l : List Clk} (h : Cs m M (.slice (some ad) n c) l) (k : Nat) (hk : k < l.length) : ∀ j u, (cC l[k])[j]? = some u → m.cell? ((ad.add (k * 2)).add j) = some u := by
  obtain ⟨_, h1, h2⟩ := h.cell k hk
  cases h1; exact h2
theorem csC_take (l : List Clk) (k : Nat) : (l.flatMap cC).take (k * 2) = (l.take k).flatMap cC := by
  induction k generalizing l with
  | zero => simp
  | succ k ih =>
    cases l with
    | nil => simp
    | cons x l =>
      rw [List.flatMap_cons, List.take_succ_cons, List.flatMap_cons, ← ih l, Nat.succ_mul, Nat.add_comm]
      exact List.take_length_add_append (l₁ := cC x) (k * 2)
theorem csC_drop (l : List Clk) (k : Nat) : (l.flatMap cC).drop (k * 2) = (l.drop k).flatMap cC := by
  induction k generalizing l with
  | zero => simp
  | succ k ih =>
    cases l with
    | nil => simp
    | cons x l =>
      rw [List.flatMap_cons, List.drop_succ_cons, ← ih l, Nat.succ_mul, Nat.add_comm, ← List.drop_drop]
      rfl
theorem csC_set (l : List Clk) (p : Nat) (y : Clk) (h : p < l.length) : (l.flatMap cC).take (p * 2) ++ cC y ++ (l.flatMap cC).drop (p * 2 + 2) = (l.set p y).flatMap cC := by
  rw [csC_take, show p * 2 + 2 = (p + 1) * 2 by omega, csC_drop, List.set_eq_take_append_cons_drop, if_pos h]; simp
theorem csC_app (a b : List Clk) : a.flatMap cC ++ b.flatMap cC = (a ++ b).flatMap cC := by simp
end Go.Proofs.YtmjpcaiehfimgaaGreatDoor
end
section
namespace Go.Proofs.YtmjpcaiehfimgaaGreatDoor
open Go.RowKit Go.Ev Go.Ids Go.Mrg Go.Sort
def CR (m : World) (S : List Nat) (A : Option Addr) (n c : Nat) (l : List Clk) : Prop := Ev.Own m S 46 2 (.slice A n c) n (l.flatMap cC)
theorem CR.len {m : World} {S : List Nat} {A : Option Addr} {n c : Nat} {l : List Clk} (h : CR m S A n c l) : l.length = n := by
  have := h.1
  rw [csC_len] at this; omega
theorem swapR_c (m : World) (S : List Nat) (A : Option Addr) (n c : Nat) (l : List Clk) (a b k : Nat) (f : Value) (h : CR m S A n c l) (h1 : a + k ≤ b) (h2 : b + k ≤ n) (hn : n < 1000000000) :
    FnR Tryz.prog 121 [.slice A n c, .int .i64 a, .int .i64 b, .int .i64 k, f] m fun r m' => r = .tuple #[] ∧ Ext m S m' ∧ CR m' S A n c (swr l a b k) := by
  refine FnE.enter ⟨_, Tryz.func121, by kernel_rfl, by kernel_rfl⟩ Tryz.func121 rfl rfl ?_
  (with_reducible repeat (first | refine WP.S1 ?_ | refine WP.B1 ?_ | refine WP.R1 ?_))
  refine RL.A1 T_ok rfl ?_
  refine RL.N1 ?_; (with_reducible repeat (first | refine QN.B1 ?_ | refine QN.N1 ?_ | refine WP.S1 ?_ | refine WP.B1 ?_ | refine WP.R1 ?_))
  refine (WP.loop (X := Nat) (fun i => [(0, .slice A n c), (1, .int .i64 a), (2, .int .i64 b), (3, .int .i64 k), (10, .int .i64 i)])
    (fun i m' => i ≤ k ∧ CR m' S A n c (swr l a b i) ∧ Ext m S m') (fun i => k - i) 0
    (Sub.C1 rfl (Sub.C1 rfl (Sub.C1 rfl (Sub.C1 rfl (Sub.C1 rfl Sub.nil))))) ⟨Nat.zero_le _, h, Ext.refl _ _⟩ ?_)
  rintro i m1 ⟨hi, hO, hE⟩
  have hlen := hO.len
  (with_reducible repeat (first | refine WP.S1 ?_ | refine WP.B1 ?_ | refine WP.R1 ?_))
  refine RL.A1 T_ok rfl ?_
  refine RL.N1 ?_; (with_reducible repeat (first | refine QN.B1 ?_ | refine QN.N1 ?_ | refine WP.S1 ?_ | refine WP.B1 ?_ | refine WP.R1 ?_))
  refine WP.cond rfl (fun hc => ?_) (fun hc => ?_)
  · replace hc : i < k := by have := of_decide_eq_true hc; omega
    have hnx : swr l a b (i + 1) = sw (swr l a b i) (a + i) (b + i) := rfl
    generalize swr l a b i = l1 at hO hlen hnx
    refine WP.skip ?_; (with_reducible repeat (first | refine QN.B1 ?_ | refine QN.N1 ?_))
    refine WP.S1 ?_
    refine WP.B1 ?_
    obtain ⟨g0, cap0, cur0, hv8, hB8, rfl, hj8, hset⟩ := hO.putK (j := (a + i) * 2) (k := 2) (by omega) (by omega)
    injection hv8 with hv8 hv8b hv8c
    subst hv8
    have hR : Cs m1 [] (.slice (some ⟨g0, 0, none⟩) n c) l1 := hO.sl (by simp)
    refine WP.drawQ (fun m' => m' = m1) [4, 5, 6, 7, 14, 15, 16, 17, 21, 22, 23] (by kernel_rfl) rfl (by with_reducible repeat (first | exact PanicOk.body | refine PanicOk.then_ ?_ | refine PanicOk.block_ ?_)) (fun hQ => ?_)
    refine RH.pureF T_ok hQ [4, 5, 6, 7] (by kernel_rfl) rfl ?_
    refine RH.eqv (v' := .int .i64 ((b + i : Nat) : Int)) (congrArg _ (by rw [wrap_i64_in _ (by omega) (by omega)]; omega)) ?_
    refine RH.pureF T_ok hQ [14, 15, 16, 17] (by kernel_rfl) rfl ?_
    refine RH.eqv (v' := .int .i64 ((a + i : Nat) : Int)) (congrArg _ (by rw [wrap_i64_in _ (by omega) (by omega)]; omega)) ?_
    refine RH.pure T_ok hQ [0, 1, 2, 3] (by kernel_rfl) rfl ?_
    refine RH.eqv (v' := .int .i64 ((a + i : Nat) : Int)) (congrArg _ (by rw [wrap_i64_in _ (by omega) (by omega)]; omega)) ?_
    refine RH.pure T_ok hQ [8, 9, 10, 11] (by kernel_rfl) rfl ?_
    refine RH.eqv (v' := .int .i64 ((b + i : Nat) : Int)) (congrArg _ (by rw [wrap_i64_in _ (by omega) (by omega)]; omega)) ?_
    refine RH.indexAddr T_ok hQ 12 (k := b + i) rfl (by kernel_rfl) rfl rfl rfl rfl rfl rfl rfl (by omega) rfl ?_
    refine RH.loadAgg T_ok hQ 13 (cC l1[b + i]) (fun m' hm' => by rw [hm']; exact cS_at hR (b + i) (by omega)) rfl (by kernel_rfl) rfl rfl rfl rfl ?_
    refine RH.indexAddr T_ok hQ 18 (k := a + i) rfl (by kernel_rfl) rfl rfl rfl rfl rfl rfl rfl (by omega) rfl ?_
    refine RH.loadAgg T_ok hQ 19 (cC l1[a + i]) (fun m' hm' => by rw [hm']; exact cS_at hR (a + i) (by omega)) rfl (by kernel_rfl) rfl rfl rfl rfl ?_
    refine RH.indexAddr T_ok hQ 20 (k := a + i) rfl (by kernel_rfl) rfl rfl rfl rfl rfl rfl rfl (by omega) rfl ?_
    refine RH.eqv (v' := .pointer (some ⟨g0, (a + i) * 2, none⟩)) (congrArg (fun q => Value.pointer (some q)) (by rw [add_block, Nat.zero_add])) ?_
    refine RH.only 21 rfl (by kernel_rfl) (fun _ => ?_)
    refine RL.storeAgg T_ok (b := g0) (i := (a + i) * 2) (vs := cC l1[b + i]) (cs := cur0) hB8 rfl rfl rfl rfl rfl hj8 (cC_one _) rfl ?_
    intro m8 hC8
    have hO8 := hset m8 _ rfl hC8
    rw [csC_set l1 (a + i) _ (by omega)] at hO8
    refine RL.N1 (RF.cont (by kernel_rfl) ?_)
    refine RF.only 22 rfl (by kernel_rfl) ?_
    refine RL.indexAddr (k := b + i) T_ok rfl rfl rfl rfl rfl rfl rfl (by omega) rfl ?_
    refine RL.eqv (v' := .pointer (some ⟨g0, (b + i) * 2, none⟩)) (congrArg (fun q => Value.pointer (some q)) (by rw [add_block, Nat.zero_add])) ?_
    refine RL.N1 (RF.cont (by kernel_rfl) ?_)
    obtain ⟨g1, cap1, cur1, hv9, hB9, hS9, hj9, hset9⟩ := hO8.putK (j := (b + i) * 2) (k := 2) (by omega) (by omega)
    cases hv9
    refine RF.only 23 rfl (by kernel_rfl) ?_
    refine RL.storeAgg T_ok (b := g0) (i := (b + i) * 2) (vs := cC l1[a + i]) (cs := cur1) hB9 rfl rfl rfl rfl rfl hj9 (cC_one _) rfl ?_
    intro m9 hC9
    have hO9 := hset9 m9 _ rfl hC9
    rw [csC_set _ (b + i) _ (by rw [List.length_set]; omega), ← sw_of (p := a + i) (q := b + i) (by omega) (by omega)] at hO9
    have hE9 : Ext m1 [g0] m9 := hC8.ext.trans hC9.ext (fun k hk => .inl hk)
    refine RL.N1 (RF.cont (by kernel_rfl) ?_)
    refine RF.done (by kernel_rfl) ?_
    (with_reducible repeat (first | refine QN.B1 ?_ | refine QN.N1 ?_))
    (with_reducible repeat (first | refine WP.S1 ?_ | refine WP.B1 ?_ | refine WP.R1 ?_))
    refine RL.pure T_ok 2 rfl ?_
    refine RL.eqv (v' := .int .i64 ((i + 1 : Nat) : Int)) (congrArg _ (by rw [wrap_i64_in _ (by omega) (by omega)]; rfl)) ?_
    refine RL.A1 T_ok rfl ?_
    refine RL.N1 (QN.round (i + 1) (Sub.C1 rfl (Sub.C1 rfl (Sub.C1 rfl (Sub.C1 rfl (Sub.C1 rfl Sub.nil))))) ⟨hc, ?_, hE.trans hE9 (fun k hk => .inl hk)⟩ (by omega))
    rw [hnx]; exact hO9
  · replace hc : i = k := by have := of_decide_eq_false hc; omega
    subst hc
    refine WP.exit ?_
    (with_reducible repeat (first | refine QN.tx ?_ | refine QN.bx ?_ | refine QN.block_far rfl ?_ | refine QN.B1 ?_ | refine QN.N1 ?_))
    exact QN.end0 rfl ⟨_, rfl, rfl, hE, hO⟩
theorem rotate_c (m : World) (S : List Nat) (A : Option Addr) (n c : Nat) (l : List Clk) (a md b : Nat) (f : Value) (h : CR m S A n c l) (h1 : a < md) (h2 : md < b) (hb : b ≤ n) (hn : n < 1000000000) :
    FnR Tryz.prog 120 [.slice A n c, .int .i64 a, .int .i64 md, .int .i64 b, f] m fun r m' => r = .tuple #[] ∧ Ext m S m' ∧ ∃ l', CR m' S A n c l' ∧ Seg a b l l' ∧ Rot l l' md (md - a) (b - md) := by
  refine FnE.enter ⟨_, Tryz.func120, by kernel_rfl, by kernel_rfl⟩ Tryz.func120 rfl rfl ?_
  (with_reducible repeat (first | refine WP.S1 ?_ | refine WP.B1 ?_ | refine WP.R1 ?_))
  refine RL.pure T_ok 3 rfl ?_
  refine RL.eqv (v' := .int .i64 ((md - a : Nat) : Int)) (congrArg _ (by rw [wrap_i64_in _ (by first | omega | (simp only; omega)) (by first | omega | (simp only; omega))]; first | omega | (simp only; omega))) ?_
  refine RL.A1 T_ok rfl ?_
  refine RL.N1 ?_; (with_reducible repeat (first | refine QN.B1 ?_ | refine QN.N1 ?_ | refine WP.S1 ?_ | refine WP.B1 ?_ | refine WP.R1 ?_))
  refine RL.pure T_ok 3 rfl ?_
  refine RL.eqv (v' := .int .i64 ((b - md : Nat) : Int)) (congrArg _ (by rw [wrap_i64_in _ (by first | omega | (simp only; omega)) (by first | omega | (simp only; omega))]; first | omega | (simp only; omega))) ?_
  refine RL.A1 T_ok rfl ?_
  refine RL.N1 ?_; (with_reducible repeat (first | refine QN.B1 ?_ | refine QN.N1 ?_ | refine WP.S1 ?_ | refine WP.B1 ?_ | refine WP.R1 ?_))
  refine (WP.loop (X := Nat × Nat × List Clk) (fun q => [(0, .slice A n c), (2, .int .i64 md), (4, f), (10, .int .i64 q.1), (11, .int .i64 q.2.1)])
    (fun q m' => 1 ≤ q.1 ∧ 1 ≤ q.2.1 ∧ q.1 ≤ md - a ∧ q.2.1 ≤ b - md ∧ CR m' S A n c q.2.2 ∧ Ext m S m' ∧ Seg a b l q.2.2 ∧ (∀ l', Rot q.2.2 l' md q.1 q.2.1 → Rot l l' md (md - a) (b - md))) (fun q => q.1 + q.2.1) (md - a, b - md, l)
    (Sub.C1 rfl (Sub.C1 rfl (Sub.C1 rfl (Sub.C1 rfl (Sub.C1 rfl Sub.nil))))) ⟨by show 1 ≤ md - a; omega, by show 1 ≤ b - md; omega, Nat.le_refl _, Nat.le_refl _, h, Ext.refl _ _, Seg.refl _ _ _, fun _ hh => hh⟩ ?_)
  rintro ⟨i, j, l1⟩ m1 ⟨hi, hj, hia, hjb, hO, hE, hS, hR⟩
  simp only at hi hj hia hjb hO hS hR
  have hlen := hO.len
  (with_reducible repeat (first | refine WP.S1 ?_ | refine WP.B1 ?_ | refine WP.R1 ?_))
  refine RL.pure T_ok 3 rfl ?_
  by_cases hij : i = j
  · refine RL.eqv (v' := .bool false) (congrArg _ (by rw [bne_nat']; exact decide_eq_false (fun hh => hh hij))) ?_
    subst hij
    refine RL.N1 ?_; (with_reducible repeat (first | refine QN.B1 ?_ | refine QN.N1 ?_ | refine WP.S1 ?_ | refine WP.B1 ?_ | refine WP.R1 ?_))
    refine WP.condF rfl ?_
    refine WP.exit ?_; (with_reducible repeat (first | refine QN.tx ?_ | refine QN.bx ?_ | refine QN.block_far rfl ?_ | refine QN.B1 ?_ | refine QN.N1 ?_)); (with_reducible repeat (first | refine WP.S1 ?_ | refine WP.B1 ?_ | refine WP.R1 ?_))
    refine RL.pure T_ok 4 rfl ?_
    refine RL.eqv (v' := .int .i64 ((md - i : Nat) : Int)) (congrArg _ (by rw [wrap_i64_in _ (by first | omega | (simp only; omega)) (by first | omega | (simp only; omega))]; first | omega | (simp only; omega))) ?_
    refine RL.A1 T_ok rfl ?_
    refine RL.call (fi := []) (ca := []) rfl rfl rfl rfl (swapR_c m1 S A n c l1 (md - i) md i f hO (by omega) (by omega) hn) ?_
    rintro _ m2 ⟨rfl, hE2, hO2⟩
    refine ⟨_, rfl, ?_⟩
    refine RL.N1 (QN.end0 rfl ⟨_, rfl, rfl, hE.trans hE2 (fun k hk => .inl hk), _, hO2, hS.trans (Seg.swr (by omega) (by omega) (by omega) (by omega)), hR _ (Rot.last (by omega) (by omega))⟩)
  · refine RL.eqv (v' := .bool true) (congrArg _ (by rw [bne_nat']; exact decide_eq_true hij)) ?_
    refine RL.N1 ?_; (with_reducible repeat (first | refine QN.B1 ?_ | refine QN.N1 ?_ | refine WP.S1 ?_ | refine WP.B1 ?_ | refine WP.R1 ?_))
    refine WP.condT rfl ?_
    refine WP.skip ?_; (with_reducible repeat (first | refine QN.B1 ?_ | refine QN.N1 ?_ | refine WP.S1 ?_ | refine WP.B1 ?_ | refine WP.R1 ?_))
    refine RL.pure T_ok 3 rfl ?_
    by_cases hlt : j < i
    · refine RL.eqv (v' := .bool true) (congrArg _ (decide_eq_true (by first | omega | (simp only; omega)))) ?_
      refine RL.N1 ?_; (with_reducible repeat (first | refine QN.B1 ?_ | refine QN.N1 ?_ | refine WP.S1 ?_ | refine WP.B1 ?_ | refine WP.R1 ?_))
      refine WP.condT rfl ?_
      (with_reducible repeat (first | refine WP.S1 ?_ | refine WP.B1 ?_ | refine WP.R1 ?_))
      refine RL.pure T_ok 4 rfl ?_
      refine RL.eqv (v' := .int .i64 ((md - i : Nat) : Int)) (congrArg _ (by rw [wrap_i64_in _ (by first | omega | (simp only; omega)) (by first | omega | (simp only; omega))]; first | omega | (simp only; omega))) ?_
      refine RL.A1 T_ok rfl ?_
      refine RL.call (fi := []) (ca := []) rfl rfl rfl rfl (swapR_c m1 S A n c l1 (md - i) md j f hO (by omega) (by omega) hn) ?_
      rintro _ m2 ⟨rfl, hE2, hO2⟩
      refine ⟨_, rfl, ?_⟩
      refine RL.N1 ?_; (with_reducible repeat (first | refine QN.B1 ?_ | refine QN.N1 ?_ | refine WP.S1 ?_ | refine WP.B1 ?_ | refine WP.R1 ?_))
      refine RL.pure T_ok 3 rfl ?_
      refine RL.eqv (v' := .int .i64 ((i - j : Nat) : Int)) (congrArg _ (by rw [wrap_i64_in _ (by first | omega | (simp only; omega)) (by first | omega | (simp only; omega))]; first | omega | (simp only; omega))) ?_
      refine RL.A1 T_ok rfl ?_
      refine RL.N1 ?_
      (with_reducible repeat (first | refine QN.B1 ?_ | refine QN.N1 ?_))
      exact QN.round (i - j, j, swr l1 (md - i) md j) (Sub.C1 rfl (Sub.C1 rfl (Sub.C1 rfl (Sub.C1 rfl (Sub.C1 rfl Sub.nil))))) ⟨by show 1 ≤ i - j; omega, hj, by show i - j ≤ _; omega, hjb, hO2, hE.trans hE2 (fun k hk => .inl hk), hS.trans (Seg.swr (by omega) (by omega) (by omega) (by omega)), fun l' hh => hR l' (Rot.left (by omega) hlt (by omega) hh)⟩ (by show i - j + j < i + j; omega)
    · refine RL.eqv (v' := .bool false) (congrArg _ (decide_eq_false (by first | omega | (simp only; omega)))) ?_
      refine RL.N1 ?_; (with_reducible repeat (first | refine QN.B1 ?_ | refine QN.N1 ?_ | refine WP.S1 ?_ | refine WP.B1 ?_ | refine WP.R1 ?_))
      refine WP.condF rfl ?_
      (with_reducible repeat (first | refine WP.S1 ?_ | refine WP.B1 ?_ | refine WP.R1 ?_))
      refine RL.pure T_ok 4 rfl ?_
      refine RL.eqv (v' := .int .i64 ((md - i : Nat) : Int)) (congrArg _ (by rw [wrap_i64_in _ (by first | omega | (simp only; omega)) (by first | omega | (simp only; omega))]; first | omega | (simp only; omega))) ?_
      refine RL.pure T_ok 3 rfl ?_
      refine RL.eqv (v' := .int .i64 ((md + j : Nat) : Int)) (congrArg _ (by rw [wrap_i64_in _ (by first | omega | (simp only; omega)) (by first | omega | (simp only; omega))]; first | omega | (simp only; omega))) ?_
      refine RL.pure T_ok 2 rfl ?_
      refine RL.eqv (v' := .int .i64 ((md + j - i : Nat) : Int)) (congrArg _ (by rw [wrap_i64_in _ (by first | omega | (simp only; omega)) (by first | omega | (simp only; omega))]; first | omega | (simp only; omega))) ?_
      refine RL.A1 T_ok rfl ?_
      refine RL.call (fi := []) (ca := []) rfl rfl rfl rfl (swapR_c m1 S A n c l1 (md - i) (md + j - i) i f hO (by omega) (by omega) hn) ?_
      rintro _ m2 ⟨rfl, hE2, hO2⟩
      refine ⟨_, rfl, ?_⟩
      refine RL.N1 ?_; (with_reducible repeat (first | refine QN.B1 ?_ | refine QN.N1 ?_ | refine WP.S1 ?_ | refine WP.B1 ?_ | refine WP.R1 ?_))
      refine RL.pure T_ok 3 rfl ?_
      refine RL.eqv (v' := .int .i64 ((j - i : Nat) : Int)) (congrArg _ (by rw [wrap_i64_in _ (by first | omega | (simp only; omega)) (by first | omega | (simp only; omega))]; first | omega | (simp only; omega))) ?_
      refine RL.A1 T_ok rfl ?_
      refine RL.N1 ?_
      (with_reducible repeat (first | refine QN.B1 ?_ | refine QN.N1 ?_))
      exact QN.round (i, j - i, swr l1 (md - i) (md + j - i) i) (Sub.C1 rfl (Sub.C1 rfl (Sub.C1 rfl (Sub.C1 rfl (Sub.C1 rfl Sub.nil))))) ⟨hi, by show 1 ≤ j - i; omega, hia, by show j - i ≤ _; omega, hO2, hE.trans hE2 (fun k hk => .inl hk), hS.trans (Seg.swr (by omega) (by omega) (by omega) (by omega)), fun l' hh => hR l' (Rot.right (by omega) (by omega) (by omega) hh)⟩ (by show i + (j - i) < i + j; omega)
structure Cmp (P : Program) (S : List Nat) (g : FuncId) (cb : List Value) (cf : Clk → Clk → Int) (K : World → Prop) : Prop where
  run : ∀ W x y, K W → FnR P g (cV x :: cV y :: cb) W fun r m' => r = .int .i64 (cf x y) ∧ Ext W [] m'
  keep : ∀ W W', K W → Ext W S W' → K W'
theorem insert_c (m : World) (S : List Nat) (A : Option Addr) (n c : Nat) (l : List Clk) (a b : Nat) (g : FuncId) (cb : List Value) (cf : Clk → Clk → Int) (K : World → Prop) (hC : Cmp Tryz.prog S g cb cf K) (hK : K m) (hS : SWO (ltOf cf)) (h : CR m S A n c l) (h1 : a ≤ b) (h2 : b ≤ n) (hn : n < 1000000000) :
    FnR Tryz.prog 117 [.slice A n c, .int .i64 a, .int .i64 b, .func (.func g) #[] cb.toArray] m fun r m' => r = .tuple #[] ∧ Ext m S m' ∧ ∃ l', CR m' S A n c l' ∧ Seg a b l l' ∧ Up (ltOf cf) l' a b := by
  refine FnE.enter ⟨_, Tryz.func117, by kernel_rfl, by kernel_rfl⟩ Tryz.func117 rfl rfl ?_
  (with_reducible repeat (first | refine WP.S1 ?_ | refine WP.B1 ?_ | refine WP.R1 ?_))
  refine RL.pure T_ok 2 rfl ?_
  refine RL.eqv (v' := .int .i64 ((a + 1 : Nat) : Int)) (congrArg _ (by rw [wrap_i64_in _ (by omega) (by omega)]; rfl)) ?_
  refine RL.A1 T_ok rfl ?_
  refine RL.N1 ?_; (with_reducible repeat (first | refine QN.B1 ?_ | refine QN.N1 ?_ | refine WP.S1 ?_ | refine WP.B1 ?_ | refine WP.R1 ?_))
  refine (WP.loop (X := Nat × List Clk) (fun q => [(0, .slice A n c), (1, .int .i64 a), (2, .int .i64 b), (3, .func (.func g) #[] cb.toArray), (8, .int .i64 q.1)])
    (fun q m' => a + 1 ≤ q.1 ∧ CR m' S A n c q.2 ∧ Ext m S m' ∧ Seg a b l q.2 ∧ Up (ltOf cf) q.2 a (min q.1 b)) (fun q => b - q.1) (a + 1, l)
    (Sub.C1 rfl (Sub.C1 rfl (Sub.C1 rfl (Sub.C1 rfl (Sub.C1 rfl Sub.nil))))) ⟨Nat.le_refl _, h, Ext.refl _ _, Seg.refl _ _ _, Up.one _ _ (by show min (a + 1) b ≤ a + 1; omega)⟩ ?_)
  rintro ⟨i, l1⟩ m1 ⟨hi, hO, hE, hSg, hU⟩
  simp only at hi hO hSg hU
  (with_reducible repeat (first | refine WP.S1 ?_ | refine WP.B1 ?_ | refine WP.R1 ?_))
  refine RL.A1 T_ok rfl ?_
  refine RL.N1 ?_; (with_reducible repeat (first | refine QN.B1 ?_ | refine QN.N1 ?_ | refine WP.S1 ?_ | refine WP.B1 ?_ | refine WP.R1 ?_))
  refine WP.cond rfl (fun hc => ?_) (fun hc => ?_)
  · replace hc : i < b := by have := of_decide_eq_true hc; simp only at this; omega
    rw [Nat.min_eq_left (by omega)] at hU
    refine WP.skip ?_; (with_reducible repeat (first | refine QN.B1 ?_ | refine QN.N1 ?_ | refine WP.S1 ?_ | refine WP.B1 ?_ | refine WP.R1 ?_))
    refine RL.A1 T_ok rfl ?_
    refine RL.N1 ?_; (with_reducible repeat (first | refine QN.B1 ?_ | refine QN.N1 ?_ | refine WP.S1 ?_ | refine WP.B1 ?_ | refine WP.R1 ?_))
    refine (WP.loop (X := Nat × List Clk) (fun q => [(0, .slice A n c), (1, .int .i64 a), (2, .int .i64 b), (3, .func (.func g) #[] cb.toArray), (8, .int .i64 i), (9, .int .i64 q.1)])
      (fun q m' => a ≤ q.1 ∧ q.1 ≤ i ∧ CR m' S A n c q.2 ∧ Ext m S m' ∧ Seg a b l q.2 ∧ Ins (ltOf cf) q.2 a q.1 (i + 1)) (fun q => q.1) (i, l1)
      (Sub.C1 rfl (Sub.C1 rfl (Sub.C1 rfl (Sub.C1 rfl (Sub.C1 rfl (Sub.C1 rfl Sub.nil)))))) ⟨by show a ≤ i; omega, Nat.le_refl _, hO, hE, hSg, Ins.start hU⟩ ?_)
    clear hO hE hSg hU
    clear m1
    rintro ⟨j, l2⟩ m1 ⟨hja, hji, hO, hE, hSg, hI⟩
    simp only at hja hji hO hSg hI
    have hlen := hO.len
    refine WP.S1 ?_
    refine WP.cut (X := Bool) (fun q => [(0, .slice A n c), (1, .int .i64 a), (2, .int .i64 b), (3, .func (.func g) #[] cb.toArray), (8, .int .i64 i), (9, .int .i64 j), (34, .bool q)])
      (fun q m' => Ext m1 [] m' ∧ (q = true → ∃ k x y, j = k + 1 ∧ a ≤ k ∧ l2[k]? = some x ∧ l2[k + 1]? = some y ∧ ltOf cf y x = true) ∧ (q = false → j = a ∨ ∃ k x y, j = k + 1 ∧ a ≤ k ∧ l2[k]? = some x ∧ l2[k + 1]? = some y ∧ ltOf cf y x = false)) ?_ ?_
    · by_cases hj0 : a < j
      rotate_left
      · refine WP.drawQ (fun m' => m' = m1) [] (by kernel_rfl) rfl (by with_reducible repeat (first | exact PanicOk.body | refine PanicOk.then_ ?_ | refine PanicOk.block_ ?_)) (fun hQ => ?_)
        refine RH.pure T_ok hQ [0, 1, 2] (by kernel_rfl) rfl ?_
        refine RH.eqv (v' := .bool false) (congrArg _ (decide_eq_false (by omega))) ?_
        refine RH.pure T_ok hQ [3, 4, 5, 6, 7, 8, 9, 10, 11, 12, 13, 14, 15, 16] (by kernel_rfl) rfl ?_
        refine RH.done (by kernel_rfl) (fun _ => ?_)
        exact QN.cutEnd false (Sub.C1 rfl (Sub.C1 rfl (Sub.C1 rfl (Sub.C1 rfl (Sub.C1 rfl (Sub.C1 rfl (Sub.C1 rfl Sub.nil))))))) ⟨Ext.refl _ _, (fun hh => by cases hh), fun _ => .inl (by omega)⟩
      obtain ⟨k, rfl⟩ : ∃ k, j = k + 1 := ⟨j - 1, by omega⟩
      have hR0 : Cs m1 [] (.slice A n c) l2 := hO.sl (by simp)
      obtain ⟨ad, rfl, _⟩ := hR0.cell k (by omega)
      refine WP.drawQ (fun m' => Ext m1 [] m') [] (by kernel_rfl) (Ext.refl _ _) (by with_reducible repeat (first | exact PanicOk.body | refine PanicOk.then_ ?_ | refine PanicOk.block_ ?_)) (fun hQ => ?_)
      refine RH.pure T_ok hQ [0, 1, 2] (by kernel_rfl) rfl ?_
      refine RH.eqv (v' := .bool true) (congrArg _ (decide_eq_true (by omega))) ?_
      refine RH.pure T_ok hQ [3, 4, 5, 6] (by kernel_rfl) rfl ?_
      refine RH.indexAddr T_ok hQ 7 (k := k + 1) rfl (by kernel_rfl) rfl rfl rfl rfl rfl rfl rfl (by omega) rfl ?_
      refine RH.loadAgg T_ok hQ 8 (cC l2[k + 1]) (fun m' hm' => cS_at (hR0.ext0 hm') (k + 1) (by omega)) rfl (by kernel_rfl) rfl rfl rfl rfl ?_
      refine RH.pure T_ok hQ [9, 10, 11] (by kernel_rfl) rfl ?_
      refine RH.eqv (v' := .int .i64 ((k : Nat) : Int)) (congrArg _ (by rw [wrap_i64_in _ (by omega) (by omega)]; omega)) ?_
      refine RH.indexAddr T_ok hQ 12 (k := k) rfl (by kernel_rfl) rfl rfl rfl rfl rfl rfl rfl (by omega) rfl ?_
      refine RH.loadAgg T_ok hQ 13 (cC l2[k]) (fun m' hm' => cS_at (hR0.ext0 hm') k (by omega)) rfl (by kernel_rfl) rfl rfl rfl rfl ?_
      refine RH.only 14 rfl (by kernel_rfl) (fun _ => ?_)
      refine RL.call (fi := []) (ca := cb) rfl rfl rfl rfl (hC.run m1 l2[k + 1] l2[k] (hC.keep _ _ hK hE)) ?_
      rintro _ m2 ⟨rfl, hE2⟩
      refine ⟨_, rfl, RL.N1 (RH.cont hE2 ?_)⟩
      refine RH.pure T_ok hQ [15] (by kernel_rfl) rfl ?_
      refine RH.eqv (v' := .bool (ltOf cf l2[k + 1] l2[k])) rfl ?_
      refine RH.pure T_ok hQ [16] (by kernel_rfl) rfl ?_
      refine RH.done (by kernel_rfl) (fun _ => ?_)
      have e1 : l2[k]? = some l2[k] := List.getElem?_eq_getElem _
      have e2 : l2[k + 1]? = some l2[k + 1] := List.getElem?_eq_getElem _
      exact QN.cutEnd (ltOf cf l2[k + 1] l2[k]) (Sub.C1 rfl (Sub.C1 rfl (Sub.C1 rfl (Sub.C1 rfl (Sub.C1 rfl (Sub.C1 rfl (Sub.C1 rfl Sub.nil))))))) ⟨hE2, (fun hh => ⟨k, _, _, rfl, by omega, e1, e2, hh⟩), fun hh => .inr ⟨k, _, _, rfl, by omega, e1, e2, hh⟩⟩
    rintro q m2 ⟨hE2, hqt, hqf⟩
    replace hO : CR m2 S A n c l2 := hO.ext hE2 (by simp)
    replace hE := hE.trans hE2 (by simp)
    clear hE2
    refine WP.cond rfl (fun hq => ?_) (fun hq => ?_)
    · obtain ⟨k, x, y, rfl, hak, hx, hy, hlt⟩ := hqt hq
      refine WP.skip ?_; (with_reducible repeat (first | refine QN.B1 ?_ | refine QN.N1 ?_))
      refine WP.S1 ?_
      refine WP.B1 ?_
      obtain ⟨g0, cap0, cur0, hv8, hB8, rfl, hj8, hset⟩ := hO.putK (j := (k + 1) * 2) (k := 2) (by omega) (by omega)
      injection hv8 with hv8 hv8b hv8c
      subst hv8
      have hR : Cs m2 [] (.slice (some ⟨g0, 0, none⟩) n c) l2 := hO.sl (by simp)
      refine WP.drawQ (fun m' => m' = m2) [2, 3, 4, 10, 11, 15, 16, 17] (by kernel_rfl) rfl (by with_reducible repeat (first | exact PanicOk.body | refine PanicOk.then_ ?_ | refine PanicOk.block_ ?_)) (fun hQ => ?_)
      refine RH.pureF T_ok hQ [2, 3, 4] (by kernel_rfl) rfl ?_
      refine RH.eqv (v' := .int .i64 ((k : Nat) : Int)) (congrArg _ (by rw [wrap_i64_in _ (by omega) (by omega)]; omega)) ?_
      refine RH.pureF T_ok hQ [10, 11] (by kernel_rfl) rfl ?_
      refine RH.pure T_ok hQ [0, 1, 5, 6, 7] (by kernel_rfl) rfl ?_
      refine RH.eqv (v' := .int .i64 ((k : Nat) : Int)) (congrArg _ (by rw [wrap_i64_in _ (by omega) (by omega)]; omega)) ?_
      refine RH.indexAddr T_ok hQ 8 (k := k) rfl (by kernel_rfl) rfl rfl rfl rfl rfl rfl rfl (by omega) rfl ?_
      refine RH.loadAgg T_ok hQ 9 (cC l2[k]) (fun m' hm' => by rw [hm']; exact cS_at hR (k) (by omega)) rfl (by kernel_rfl) rfl rfl rfl rfl ?_
      refine RH.indexAddr T_ok hQ 12 (k := k + 1) rfl (by kernel_rfl) rfl rfl rfl rfl rfl rfl rfl (by omega) rfl ?_
      refine RH.loadAgg T_ok hQ 13 (cC l2[k + 1]) (fun m' hm' => by rw [hm']; exact cS_at hR (k + 1) (by omega)) rfl (by kernel_rfl) rfl rfl rfl rfl ?_
      refine RH.indexAddr T_ok hQ 14 (k := k + 1) rfl (by kernel_rfl) rfl rfl rfl rfl rfl rfl rfl (by omega) rfl ?_
      refine RH.eqv (v' := .pointer (some ⟨g0, (k + 1) * 2, none⟩)) (congrArg (fun q => Value.pointer (some q)) (by rw [add_block, Nat.zero_add])) ?_
      refine RH.only 15 rfl (by kernel_rfl) (fun _ => ?_)
      refine RL.storeAgg T_ok (b := g0) (i := (k + 1) * 2) (vs := cC l2[k]) (cs := cur0) hB8 rfl rfl rfl rfl rfl hj8 (cC_one _) rfl ?_
      intro m8 hC8
      have hO8 := hset m8 _ rfl hC8
      rw [csC_set l2 (k + 1) _ (by omega)] at hO8
      refine RL.N1 (RF.cont (by kernel_rfl) ?_)
      refine RF.only 16 rfl (by kernel_rfl) ?_
      refine RL.indexAddr (k := k) T_ok rfl rfl rfl rfl rfl rfl rfl (by omega) rfl ?_
      refine RL.eqv (v' := .pointer (some ⟨g0, (k) * 2, none⟩)) (congrArg (fun q => Value.pointer (some q)) (by rw [add_block, Nat.zero_add])) ?_
      refine RL.N1 (RF.cont (by kernel_rfl) ?_)
      obtain ⟨g1, cap1, cur1, hv9, hB9, hS9, hj9, hset9⟩ := hO8.putK (j := (k) * 2) (k := 2) (by omega) (by omega)
      cases hv9
      refine RF.only 17 rfl (by kernel_rfl) ?_
      refine RL.storeAgg T_ok (b := g0) (i := (k) * 2) (vs := cC l2[k + 1]) (cs := cur1) hB9 rfl rfl rfl rfl rfl hj9 (cC_one _) rfl ?_
      intro m9 hC9
      have hO9 := hset9 m9 _ rfl hC9
      rw [csC_set _ (k) _ (by rw [List.length_set]; omega), ← sw_of (p := k + 1) (q := k) (by omega) (by omega)] at hO9
      have hE9 : Ext m2 [g0] m9 := hC8.ext.trans hC9.ext (fun k hk => .inl hk)
      refine RL.N1 (RF.cont (by kernel_rfl) ?_)
      refine RF.done (by kernel_rfl) ?_
      (with_reducible repeat (first | refine QN.B1 ?_ | refine QN.N1 ?_))
      (with_reducible repeat (first | refine WP.S1 ?_ | refine WP.B1 ?_ | refine WP.R1 ?_))
      refine RL.pure T_ok 2 rfl ?_
      refine RL.eqv (v' := .int .i64 ((k : Nat) : Int)) (congrArg _ (by rw [wrap_i64_in _ (by omega) (by omega)]; omega)) ?_
      refine RL.A1 T_ok rfl ?_
      exact RL.N1 (QN.round (k, sw l2 (k + 1) k) (Sub.C1 rfl (Sub.C1 rfl (Sub.C1 rfl (Sub.C1 rfl (Sub.C1 rfl (Sub.C1 rfl Sub.nil)))))) ⟨hak, by show k ≤ i; omega, hO9, hE.trans hE9 (fun k hk => .inl hk), hSg.trans (Seg.sw ⟨by omega, by omega⟩ ⟨by omega, by omega⟩ (by omega)), hI.step hS hak (by omega) (by omega) hx hy hlt⟩ (by show k < k + 1; omega))
    · have hU : Up (ltOf cf) l2 a (i + 1) := by
        rcases hqf hq with rfl | ⟨k, x, y, rfl, hak, hx, hy, hlt⟩
        · exact hI.done_low
        · exact hI.done hS hx hy hlt
      refine WP.exit ?_; (with_reducible repeat (first | refine QN.tx ?_ | refine QN.bx ?_ | refine QN.block_far rfl ?_ | refine QN.B1 ?_ | refine QN.N1 ?_)); (with_reducible repeat (first | refine WP.S1 ?_ | refine WP.B1 ?_ | refine WP.R1 ?_))
      refine RL.pure T_ok 2 rfl ?_
      refine RL.eqv (v' := .int .i64 ((i + 1 : Nat) : Int)) (congrArg _ (by rw [wrap_i64_in _ (by omega) (by omega)]; rfl)) ?_
      refine RL.A1 T_ok rfl ?_
      exact RL.N1 (QN.round (i + 1, l2) (Sub.C1 rfl (Sub.C1 rfl (Sub.C1 rfl (Sub.C1 rfl (Sub.C1 rfl Sub.nil))))) ⟨by show a + 1 ≤ i + 1; omega, hO, hE, hSg, by show Up (ltOf cf) l2 a (min (i + 1) b); rw [Nat.min_eq_left (by omega)]; exact hU⟩ (by show b - (i + 1) < b - i; omega))
  · replace hc : b ≤ i := by have := of_decide_eq_false hc; simp only at this; omega
    rw [Nat.min_eq_right hc] at hU
    refine WP.exit ?_
    (with_reducible repeat (first | refine QN.tx ?_ | refine QN.bx ?_ | refine QN.block_far rfl ?_ | refine QN.B1 ?_ | refine QN.N1 ?_))
    exact QN.end0 rfl ⟨_, rfl, rfl, hE, l1, hO, hSg, hU⟩
end Go.Proofs.YtmjpcaiehfimgaaGreatDoor
end
section
namespace Go.Proofs.YtmjpcaiehfimgaaGreatDoor
open Go.RowKit Go.Ev Go.Ids Go.Mrg Go.Sort
theorem half_v (x : Nat) : ((x : Nat) : Int).fdiv (2 ^ shAmt .u64 1) = ((x / 2 : Nat) : Int) := by
  have h : shAmt .u64 1 = 1 := by decide
  rw [h, fdiv_pow x 1]
def ltAt (cf : Clk → Clk → Int) (l : List Clk) (p q : Nat) : Bool := match l[p]?, l[q]? with
  | some x, some y => ltOf cf x y
  | _, _ => false
theorem ltAt_eq {cf : Clk → Clk → Int} {l : List Clk} {p q : Nat} (hp : p < l.length) (hq : q < l.length) : ltAt cf l p q = ltOf cf l[p] l[q] := by
  unfold ltAt
  rw [List.getElem?_eq_getElem hp, List.getElem?_eq_getElem hq]
theorem ltAt_get {cf : Clk → Clk → Int} {l : List Clk} {p q : Nat} {r : Bool} (hp : p < l.length) (hq : q < l.length) (h : ltAt cf l p q = r) : ∃ x y, l[p]? = some x ∧ l[q]? = some y ∧ ltOf cf x y = r :=
  ⟨_, _, List.getElem?_eq_getElem hp, List.getElem?_eq_getElem hq, by rw [← ltAt_eq hp hq]; exact h⟩
theorem rot_at {l l' : List Clk} {s md mid : Nat} (h1 : s ≤ md) (h2 : s ≤ mid) (h : Rot l l' md (md - s) (mid - s)) (k : Nat) :
    l'[k]? = if s ≤ k ∧ k < mid then l[k + (md - s)]? else if mid ≤ k ∧ k < mid + md - s then l[k - (mid - s)]? else l[k]? := by
  rw [h k]
  by_cases c1 : s ≤ k ∧ k < mid
  · rw [if_pos c1, if_pos (by omega)]
  · rw [if_neg c1, if_neg (by omega)]
    by_cases c2 : mid ≤ k ∧ k < mid + md - s
    · rw [if_pos c2, if_pos (by omega)]
    · rw [if_neg c2, if_neg (by omega)]
theorem rot_none {l : List Clk} {s md mid : Nat} (h1 : s ≤ md) (h2 : s ≤ mid) (h : s = md ∨ s = mid) (k : Nat) :
    l[k]? = if s ≤ k ∧ k < mid then l[k + (md - s)]? else if mid ≤ k ∧ k < mid + md - s then l[k - (mid - s)]? else l[k]? := by
  by_cases c1 : s ≤ k ∧ k < mid
  · rw [if_pos c1]; congr 1; omega
  · rw [if_neg c1]
    by_cases c2 : mid ≤ k ∧ k < mid + md - s
    · rw [if_pos c2]; congr 1; omega
    · rw [if_neg c2]
set_option maxHeartbeats 2000000 in
theorem merge_c (S : List Nat) (A : Option Addr) (n c : Nat) (g : FuncId) (cb : List Value) (cf : Clk → Clk → Int) (K : World → Prop) (hC : Cmp Tryz.prog S g cb cf K) (hS : SWO (ltOf cf)) (hn : n < 1000000000) :
    ∀ (d : Nat) (m : World) (l : List Clk) (a md b : Nat), b - a ≤ d → K m → CR m S A n c l → a < md → md < b → b ≤ n → Up (ltOf cf) l a md → Up (ltOf cf) l md b →
    FnR Tryz.prog 118 [.slice A n c, .int .i64 a, .int .i64 md, .int .i64 b, .func (.func g) #[] cb.toArray] m fun r m' => r = .tuple #[] ∧ Ext m S m' ∧ ∃ l', CR m' S A n c l' ∧ Seg a b l l' ∧ Up (ltOf cf) l' a b := by
  intro d
  induction d with
  | zero => intro m l a md b hd; omega
  | succ d ih =>
  intro m l a md b hd hK h ham hmb hbn hU1 hU2
  have hlen := h.len
  refine FnE.enter ⟨_, Tryz.func118, by kernel_rfl, by kernel_rfl⟩ Tryz.func118 rfl rfl ?_
  (with_reducible repeat (first | refine WP.S1 ?_ | refine WP.B1 ?_ | refine WP.R1 ?_))
  refine RL.pure T_ok 3 rfl ?_
  refine RL.eqv (v' := .int .i64 ((md - a : Nat) : Int)) (congrArg _ (by rw [wrap_i64_in _ (by omega) (by omega)]; omega)) ?_
  refine RL.pure T_ok 1 rfl ?_
  by_cases c1 : md = a + 1
  · refine RL.eqv (v' := .bool true) (congrArg _ (by rw [beq_iff_eq]; omega)) ?_
    subst c1
    refine RL.N1 ?_; (with_reducible repeat (first | refine QN.B1 ?_ | refine QN.N1 ?_ | refine WP.S1 ?_ | refine WP.B1 ?_ | refine WP.R1 ?_))
    refine WP.condT rfl ?_
    (with_reducible repeat (first | refine WP.S1 ?_ | refine WP.B1 ?_ | refine WP.R1 ?_))
    refine RL.A1 T_ok rfl ?_
    refine RL.N1 ?_; (with_reducible repeat (first | refine QN.B1 ?_ | refine QN.N1 ?_ | refine WP.S1 ?_ | refine WP.B1 ?_ | refine WP.R1 ?_))
    refine RL.A1 T_ok rfl ?_
    refine RL.N1 ?_; (with_reducible repeat (first | refine QN.B1 ?_ | refine QN.N1 ?_))
    refine WP.cut (X := Nat) (fun i => [(0, .slice A n c), (1, .int .i64 a), (2, .int .i64 ((a + 1 : Nat) : Int)), (3, .int .i64 b), (4, .func (.func g) #[] cb.toArray), (10, .int .i64 i)]) (fun i m' => Srch (fun k => !ltAt cf l k a) (a + 1) b i i ∧ CR m' S A n c l ∧ Ext m S m') ?_ ?_
    · refine WP.B1 ?_
      refine (WP.loop (X := Nat × Nat) (fun q => [(0, .slice A n c), (1, .int .i64 a), (2, .int .i64 ((a + 1 : Nat) : Int)), (3, .int .i64 b), (4, .func (.func g) #[] cb.toArray), (10, .int .i64 q.1), (11, .int .i64 q.2)])
        (fun q m' => Srch (fun k => !ltAt cf l k a) (a + 1) b q.1 q.2 ∧ CR m' S A n c l ∧ Ext m S m') (fun q => q.2 - q.1) (a + 1, b)
        (Sub.C1 rfl (Sub.C1 rfl (Sub.C1 rfl (Sub.C1 rfl (Sub.C1 rfl (Sub.C1 rfl (Sub.C1 rfl Sub.nil))))))) ⟨Srch.start _ (by omega), h, Ext.refl _ _⟩ ?_)
      rintro ⟨i, j⟩ m1 ⟨hs, hO, hE⟩
      simp only at hs
      obtain ⟨le1, le2, le3⟩ := hs.le
      (with_reducible repeat (first | refine WP.S1 ?_ | refine WP.B1 ?_ | refine WP.R1 ?_))
      refine RL.A1 T_ok rfl ?_
      refine RL.N1 ?_; (with_reducible repeat (first | refine QN.B1 ?_ | refine QN.N1 ?_ | refine WP.S1 ?_ | refine WP.B1 ?_ | refine WP.R1 ?_))
      refine WP.cond rfl (fun hc => ?_) (fun hc => ?_)
      · replace hc : i < j := by have := of_decide_eq_true hc; simp only at this; omega
        refine WP.skip ?_; (with_reducible repeat (first | refine QN.B1 ?_ | refine QN.N1 ?_ | refine WP.S1 ?_ | refine WP.B1 ?_ | refine WP.R1 ?_))
        refine RL.pure T_ok 3 rfl ?_
        refine RL.eqv (v' := .int .i64 ((i + j : Nat) : Int)) (congrArg _ (by rw [wrap_i64_in _ (by omega) (by omega)]; omega)) ?_
        refine RL.pure T_ok 1 rfl ?_
        refine RL.eqv (v' := .int .u64 ((i + j : Nat) : Int)) (congrArg _ (by rw [wrap_u64_in _ (by omega) (by omega)])) ?_
        refine RL.pure T_ok 1 rfl ?_
        refine RL.eqv (v' := .int .u64 (((i + j) / 2 : Nat) : Int)) (congrArg _ (half_v _)) ?_
        refine RL.pure T_ok 1 rfl ?_
        refine RL.eqv (v' := .int .i64 (((i + j) / 2 : Nat) : Int)) (congrArg _ (by rw [wrap_i64_in _ (by omega) (by omega)])) ?_
        refine RL.A1 T_ok rfl ?_
        refine RL.N1 ?_; (with_reducible repeat (first | refine QN.B1 ?_ | refine QN.N1 ?_))
        have hh1 : i ≤ (i + j) / 2 := by omega
        have hh2 : (i + j) / 2 < j := by omega
        generalize (i + j) / 2 = hh at hh1 hh2
        (with_reducible repeat (first | refine WP.S1 ?_ | refine WP.B1 ?_ | refine WP.R1 ?_))
        have hR0 : Cs m1 [] (.slice A n c) l := hO.sl (by simp)
        obtain ⟨ad, rfl, _⟩ := hR0.cell (hh) (by omega)
        refine WP.drawQ (fun m' => Ext m1 [] m') [] (by kernel_rfl) (Ext.refl _ _) (by with_reducible repeat (first | exact PanicOk.body | refine PanicOk.then_ ?_ | refine PanicOk.block_ ?_)) (fun hQ => ?_)
        refine RH.pure T_ok hQ [0, 1, 2] (by kernel_rfl) rfl ?_
        refine RH.indexAddr T_ok hQ 3 (k := hh) rfl (by kernel_rfl) rfl rfl rfl rfl rfl rfl rfl (by omega) rfl ?_
        refine RH.loadAgg T_ok hQ 4 (cC l[hh]) (fun m' hm' => cS_at (hR0.ext0 hm') (hh) (by omega)) rfl (by kernel_rfl) rfl rfl rfl rfl ?_
        refine RH.pure T_ok hQ [5, 6] (by kernel_rfl) rfl ?_
        refine RH.indexAddr T_ok hQ 7 (k := a) rfl (by kernel_rfl) rfl rfl rfl rfl rfl rfl rfl (by omega) rfl ?_
        refine RH.loadAgg T_ok hQ 8 (cC l[a]) (fun m' hm' => cS_at (hR0.ext0 hm') (a) (by omega)) rfl (by kernel_rfl) rfl rfl rfl rfl ?_
        refine RH.only 9 rfl (by kernel_rfl) (fun _ => ?_)
        refine RL.call (fi := []) (ca := cb) rfl rfl rfl rfl (hC.run m1 l[hh] l[a] (hC.keep _ _ hK hE)) ?_
        rintro _ m2 ⟨rfl, hE2⟩
        refine ⟨_, rfl, RL.N1 (RH.cont hE2 ?_)⟩
        refine RH.pure T_ok hQ [10] (by kernel_rfl) rfl ?_
        refine RH.eqv (v' := .bool (ltOf cf l[hh] l[a])) rfl ?_
        refine RH.done (by kernel_rfl) (fun _ => ?_)
        (with_reducible repeat (first | refine QN.B1 ?_ | refine QN.N1 ?_))
        have hlt := ltAt_eq (cf := cf) (l := l) (p := hh) (q := a) (by omega) (by omega)
        replace hO : CR m2 S (some ad) n c l := hO.ext hE2 (by simp)
        replace hE := hE.trans hE2 (by simp)
        refine WP.cond rfl (fun hp => ?_) (fun hp => ?_)
        · (with_reducible repeat (first | refine WP.S1 ?_ | refine WP.B1 ?_ | refine WP.R1 ?_))
          refine RL.pure T_ok 2 rfl ?_
          refine RL.eqv (v' := .int .i64 ((hh + 1 : Nat) : Int)) (congrArg _ (by rw [wrap_i64_in _ (by omega) (by omega)]; rfl)) ?_
          refine RL.A1 T_ok rfl ?_
          refine RL.N1 ?_
          (with_reducible repeat (first | refine QN.B1 ?_ | refine QN.N1 ?_))
          exact QN.round (hh + 1, j) (Sub.C1 rfl (Sub.C1 rfl (Sub.C1 rfl (Sub.C1 rfl (Sub.C1 rfl (Sub.C1 rfl (Sub.C1 rfl Sub.nil))))))) ⟨hs.up hh1 hh2 (by rw [hlt, hp]; rfl), hO, hE⟩ (by show j - (hh + 1) < j - i; omega)
        · (with_reducible repeat (first | refine WP.S1 ?_ | refine WP.B1 ?_ | refine WP.R1 ?_))
          refine RL.A1 T_ok rfl ?_
          refine RL.N1 ?_
          (with_reducible repeat (first | refine QN.B1 ?_ | refine QN.N1 ?_))
          exact QN.round (i, hh) (Sub.C1 rfl (Sub.C1 rfl (Sub.C1 rfl (Sub.C1 rfl (Sub.C1 rfl (Sub.C1 rfl (Sub.C1 rfl Sub.nil))))))) ⟨hs.down hh1 hh2 (by rw [hlt, hp]; rfl), hO, hE⟩ (by show hh - i < j - i; omega)
      · replace hc : i = j := by have := of_decide_eq_false hc; simp only at this; omega
        subst hc
        refine WP.exit ?_
        (with_reducible repeat (first | refine QN.tx ?_ | refine QN.bx ?_ | refine QN.B1 ?_))
        exact QN.cutEnd i (Sub.C1 rfl (Sub.C1 rfl (Sub.C1 rfl (Sub.C1 rfl (Sub.C1 rfl (Sub.C1 rfl Sub.nil)))))) ⟨hs, hO, hE⟩
    rintro i mS ⟨hs, hOS, hES⟩
    obtain ⟨le1, _, le3⟩ := hs.le
    obtain ⟨x, hx⟩ := some_of (l := l) (i := a) (by omega)
    (with_reducible repeat (first | refine WP.S1 ?_ | refine WP.B1 ?_ | refine WP.R1 ?_))
    refine RL.A1 T_ok rfl ?_
    refine RL.N1 ?_; (with_reducible repeat (first | refine QN.B1 ?_ | refine QN.N1 ?_ | refine WP.S1 ?_ | refine WP.B1 ?_ | refine WP.R1 ?_))
    refine (WP.loop (X := Nat × List Clk) (fun q => [(0, .slice A n c), (1, .int .i64 a), (2, .int .i64 ((a + 1 : Nat) : Int)), (3, .int .i64 b), (4, .func (.func g) #[] cb.toArray), (10, .int .i64 i), (13, .int .i64 q.1)])
      (fun q m' => a ≤ q.1 ∧ q.1 ≤ i - 1 ∧ CR m' S A n c q.2 ∧ Ext m S m' ∧ Seg a b l q.2 ∧ MvU l a q.1 q.2) (fun q => i - q.1) (a, l)
      (Sub.C1 rfl (Sub.C1 rfl (Sub.C1 rfl (Sub.C1 rfl (Sub.C1 rfl (Sub.C1 rfl (Sub.C1 rfl Sub.nil))))))) ⟨Nat.le_refl _, by show a ≤ i - 1; omega, hOS, hES, Seg.refl _ _ _, MvU.start _ _⟩ ?_)
    rintro ⟨k, l1⟩ m1 ⟨hk1, hk2, hO, hE, hSg, hMv⟩
    simp only at hk1 hk2 hO hSg hMv
    have hlen1 := hO.len
    (with_reducible repeat (first | refine WP.S1 ?_ | refine WP.B1 ?_ | refine WP.R1 ?_))
    refine RL.pure T_ok 3 rfl ?_
    refine RL.eqv (v' := .int .i64 ((i - 1 : Nat) : Int)) (congrArg _ (by rw [wrap_i64_in _ (by omega) (by omega)]; omega)) ?_
    refine RL.A1 T_ok rfl ?_
    refine RL.N1 ?_; (with_reducible repeat (first | refine QN.B1 ?_ | refine QN.N1 ?_ | refine WP.S1 ?_ | refine WP.B1 ?_ | refine WP.R1 ?_))
    refine WP.cond rfl (fun hc => ?_) (fun hc => ?_)
    · replace hc : k < i - 1 := by have := of_decide_eq_true hc; simp only at this; omega
      refine WP.skip ?_; (with_reducible repeat (first | refine QN.B1 ?_ | refine QN.N1 ?_))
      refine WP.S1 ?_
      refine WP.B1 ?_
      obtain ⟨g0, cap0, cur0, hv8, hB8, rfl, hj8, hset⟩ := hO.putK (j := (k) * 2) (k := 2) (by omega) (by omega)
      injection hv8 with hv8 hv8b hv8c
      subst hv8
      have hR : Cs m1 [] (.slice (some ⟨g0, 0, none⟩) n c) l1 := hO.sl (by simp)
      refine WP.drawQ (fun m' => m' = m1) [2, 3, 4, 10, 11, 15, 16, 17] (by kernel_rfl) rfl (by with_reducible repeat (first | exact PanicOk.body | refine PanicOk.then_ ?_ | refine PanicOk.block_ ?_)) (fun hQ => ?_)
      refine RH.pureF T_ok hQ [2, 3, 4] (by kernel_rfl) rfl ?_
      refine RH.eqv (v' := .int .i64 ((k + 1 : Nat) : Int)) (congrArg _ (by rw [wrap_i64_in _ (by omega) (by omega)]; omega)) ?_
      refine RH.pureF T_ok hQ [10, 11] (by kernel_rfl) rfl ?_
      refine RH.pure T_ok hQ [0, 1, 5, 6, 7] (by kernel_rfl) rfl ?_
      refine RH.eqv (v' := .int .i64 ((k + 1 : Nat) : Int)) (congrArg _ (by rw [wrap_i64_in _ (by omega) (by omega)]; omega)) ?_
      refine RH.indexAddr T_ok hQ 8 (k := k + 1) rfl (by kernel_rfl) rfl rfl rfl rfl rfl rfl rfl (by omega) rfl ?_
      refine RH.loadAgg T_ok hQ 9 (cC l1[k + 1]) (fun m' hm' => by rw [hm']; exact cS_at hR (k + 1) (by omega)) rfl (by kernel_rfl) rfl rfl rfl rfl ?_
      refine RH.indexAddr T_ok hQ 12 (k := k) rfl (by kernel_rfl) rfl rfl rfl rfl rfl rfl rfl (by omega) rfl ?_
      refine RH.loadAgg T_ok hQ 13 (cC l1[k]) (fun m' hm' => by rw [hm']; exact cS_at hR (k) (by omega)) rfl (by kernel_rfl) rfl rfl rfl rfl ?_
      refine RH.indexAddr T_ok hQ 14 (k := k) rfl (by kernel_rfl) rfl rfl rfl rfl rfl rfl rfl (by omega) rfl ?_
      refine RH.eqv (v' := .pointer (some ⟨g0, (k) * 2, none⟩)) (congrArg (fun q => Value.pointer (some q)) (by rw [add_block, Nat.zero_add])) ?_
      refine RH.only 15 rfl (by kernel_rfl) (fun _ => ?_)
      refine RL.storeAgg T_ok (b := g0) (i := (k) * 2) (vs := cC l1[k + 1]) (cs := cur0) hB8 rfl rfl rfl rfl rfl hj8 (cC_one _) rfl ?_
      intro m8 hC8
      have hO8 := hset m8 _ rfl hC8
      rw [csC_set l1 (k) _ (by omega)] at hO8
      refine RL.N1 (RF.cont (by kernel_rfl) ?_)
      refine RF.only 16 rfl (by kernel_rfl) ?_
      refine RL.indexAddr (k := k + 1) T_ok rfl rfl rfl rfl rfl rfl rfl (by omega) rfl ?_
      refine RL.eqv (v' := .pointer (some ⟨g0, (k + 1) * 2, none⟩)) (congrArg (fun q => Value.pointer (some q)) (by rw [add_block, Nat.zero_add])) ?_
      refine RL.N1 (RF.cont (by kernel_rfl) ?_)
      obtain ⟨g1, cap1, cur1, hv9, hB9, hS9, hj9, hset9⟩ := hO8.putK (j := (k + 1) * 2) (k := 2) (by omega) (by omega)
      cases hv9
      refine RF.only 17 rfl (by kernel_rfl) ?_
      refine RL.storeAgg T_ok (b := g0) (i := (k + 1) * 2) (vs := cC l1[k]) (cs := cur1) hB9 rfl rfl rfl rfl rfl hj9 (cC_one _) rfl ?_
      intro m9 hC9
      have hO9 := hset9 m9 _ rfl hC9
      rw [csC_set _ (k + 1) _ (by rw [List.length_set]; omega), ← sw_of (p := k) (q := k + 1) (by omega) (by omega)] at hO9
      have hE9 : Ext m1 [g0] m9 := hC8.ext.trans hC9.ext (fun k hk => .inl hk)
      refine RL.N1 (RF.cont (by kernel_rfl) ?_)
      refine RF.done (by kernel_rfl) ?_
      (with_reducible repeat (first | refine QN.B1 ?_ | refine QN.N1 ?_))
      (with_reducible repeat (first | refine WP.S1 ?_ | refine WP.B1 ?_ | refine WP.R1 ?_))
      refine RL.pure T_ok 2 rfl ?_
      refine RL.eqv (v' := .int .i64 ((k + 1 : Nat) : Int)) (congrArg _ (by rw [wrap_i64_in _ (by omega) (by omega)]; rfl)) ?_
      refine RL.A1 T_ok rfl ?_
      exact RL.N1 (QN.round (k + 1, sw l1 k (k + 1)) (Sub.C1 rfl (Sub.C1 rfl (Sub.C1 rfl (Sub.C1 rfl (Sub.C1 rfl (Sub.C1 rfl (Sub.C1 rfl Sub.nil))))))) ⟨by show a ≤ k + 1; omega, by show k + 1 ≤ i - 1; omega, hO9, hE.trans hE9 (fun k hk => .inl hk), hSg.trans (Seg.sw ⟨by omega, by omega⟩ ⟨by omega, by omega⟩ (by omega)), hMv.step hk1 (by omega)⟩ (by show i - (k + 1) < i - k; omega))
    · replace hc : k = i - 1 := by have := of_decide_eq_false hc; simp only at this; omega
      subst hc
      refine WP.exit ?_; (with_reducible repeat (first | refine QN.tx ?_ | refine QN.bx ?_ | refine QN.block_far rfl ?_ | refine QN.B1 ?_ | refine QN.N1 ?_)); (with_reducible repeat (first | refine WP.S1 ?_ | refine WP.B1 ?_ | refine WP.R1 ?_))
      refine WP.ret ?_; (with_reducible repeat (first | refine QN.tr ?_ | refine QN.br ?_))
      refine QN.ret0 rfl ⟨_, rfl, rfl, hE, l1, hO, hSg, ins_up hS hx le1 le3 hU2 ?_ ?_ hMv⟩
      · rcases hs.low with h1 | h1
        · exact .inl h1
        · rw [Bool.not_eq_false'] at h1
          obtain ⟨y, x', hy, hx', hlt⟩ := ltAt_get (by omega) (by omega) h1
          rw [hx] at hx'; cases hx'
          exact .inr ⟨y, hy, hlt⟩
      · rcases hs.high with h1 | h1
        · exact .inl h1
        · by_cases hib : i = b
          · exact .inl hib
          · rw [Bool.not_eq_true'] at h1
            obtain ⟨y, x', hy, hx', hlt⟩ := ltAt_get (by omega) (by omega) h1
            rw [hx] at hx'; cases hx'
            exact .inr ⟨y, hy, hlt⟩
  refine RL.eqv (v' := .bool false) (congrArg _ (by rw [beq_eq_false_iff_ne]; omega)) ?_
  refine RL.N1 ?_; (with_reducible repeat (first | refine QN.B1 ?_ | refine QN.N1 ?_ | refine WP.S1 ?_ | refine WP.B1 ?_ | refine WP.R1 ?_))
  refine WP.condF rfl ?_
  refine WP.skip ?_; (with_reducible repeat (first | refine QN.B1 ?_ | refine QN.N1 ?_ | refine WP.S1 ?_ | refine WP.B1 ?_ | refine WP.R1 ?_))
  refine RL.pure T_ok 3 rfl ?_
  refine RL.eqv (v' := .int .i64 ((b - md : Nat) : Int)) (congrArg _ (by rw [wrap_i64_in _ (by omega) (by omega)]; omega)) ?_
  refine RL.pure T_ok 1 rfl ?_
  by_cases c2 : b = md + 1
  · refine RL.eqv (v' := .bool true) (congrArg _ (by rw [beq_iff_eq]; omega)) ?_
    subst c2
    refine RL.N1 ?_; (with_reducible repeat (first | refine QN.B1 ?_ | refine QN.N1 ?_ | refine WP.S1 ?_ | refine WP.B1 ?_ | refine WP.R1 ?_))
    refine WP.condT rfl ?_
    (with_reducible repeat (first | refine WP.S1 ?_ | refine WP.B1 ?_ | refine WP.R1 ?_))
    refine RL.A1 T_ok rfl ?_
    refine RL.N1 ?_; (with_reducible repeat (first | refine QN.B1 ?_ | refine QN.N1 ?_ | refine WP.S1 ?_ | refine WP.B1 ?_ | refine WP.R1 ?_))
    refine RL.A1 T_ok rfl ?_
    refine RL.N1 ?_; (with_reducible repeat (first | refine QN.B1 ?_ | refine QN.N1 ?_))
    refine WP.cut (X := Nat) (fun i => [(0, .slice A n c), (1, .int .i64 a), (2, .int .i64 md), (3, .int .i64 ((md + 1 : Nat) : Int)), (4, .func (.func g) #[] cb.toArray), (14, .int .i64 i)]) (fun i m' => Srch (fun k => ltAt cf l md k) a md i i ∧ CR m' S A n c l ∧ Ext m S m') ?_ ?_
    · refine WP.B1 ?_
      refine (WP.loop (X := Nat × Nat) (fun q => [(0, .slice A n c), (1, .int .i64 a), (2, .int .i64 md), (3, .int .i64 ((md + 1 : Nat) : Int)), (4, .func (.func g) #[] cb.toArray), (14, .int .i64 q.1), (15, .int .i64 q.2)])
        (fun q m' => Srch (fun k => ltAt cf l md k) a md q.1 q.2 ∧ CR m' S A n c l ∧ Ext m S m') (fun q => q.2 - q.1) (a, md)
        (Sub.C1 rfl (Sub.C1 rfl (Sub.C1 rfl (Sub.C1 rfl (Sub.C1 rfl (Sub.C1 rfl (Sub.C1 rfl Sub.nil))))))) ⟨Srch.start _ (by omega), h, Ext.refl _ _⟩ ?_)
      rintro ⟨i, j⟩ m1 ⟨hs, hO, hE⟩
      simp only at hs
      obtain ⟨le1, le2, le3⟩ := hs.le
      (with_reducible repeat (first | refine WP.S1 ?_ | refine WP.B1 ?_ | refine WP.R1 ?_))
      refine RL.A1 T_ok rfl ?_
      refine RL.N1 ?_; (with_reducible repeat (first | refine QN.B1 ?_ | refine QN.N1 ?_ | refine WP.S1 ?_ | refine WP.B1 ?_ | refine WP.R1 ?_))
      refine WP.cond rfl (fun hc => ?_) (fun hc => ?_)
      · replace hc : i < j := by have := of_decide_eq_true hc; simp only at this; omega
        refine WP.skip ?_; (with_reducible repeat (first | refine QN.B1 ?_ | refine QN.N1 ?_ | refine WP.S1 ?_ | refine WP.B1 ?_ | refine WP.R1 ?_))
        refine RL.pure T_ok 3 rfl ?_
        refine RL.eqv (v' := .int .i64 ((i + j : Nat) : Int)) (congrArg _ (by rw [wrap_i64_in _ (by omega) (by omega)]; omega)) ?_
        refine RL.pure T_ok 1 rfl ?_
        refine RL.eqv (v' := .int .u64 ((i + j : Nat) : Int)) (congrArg _ (by rw [wrap_u64_in _ (by omega) (by omega)])) ?_
        refine RL.pure T_ok 1 rfl ?_
        refine RL.eqv (v' := .int .u64 (((i + j) / 2 : Nat) : Int)) (congrArg _ (half_v _)) ?_
        refine RL.pure T_ok 1 rfl ?_
        refine RL.eqv (v' := .int .i64 (((i + j) / 2 : Nat) : Int)) (congrArg _ (by rw [wrap_i64_in _ (by omega) (by omega)])) ?_
        refine RL.A1 T_ok rfl ?_
        refine RL.N1 ?_; (with_reducible repeat (first | refine QN.B1 ?_ | refine QN.N1 ?_))
        have hh1 : i ≤ (i + j) / 2 := by omega
        have hh2 : (i + j) / 2 < j := by omega
        generalize (i + j) / 2 = hh at hh1 hh2
        (with_reducible repeat (first | refine WP.S1 ?_ | refine WP.B1 ?_ | refine WP.R1 ?_))
        have hR0 : Cs m1 [] (.slice A n c) l := hO.sl (by simp)
        obtain ⟨ad, rfl, _⟩ := hR0.cell (md) (by omega)
        refine WP.drawQ (fun m' => Ext m1 [] m') [] (by kernel_rfl) (Ext.refl _ _) (by with_reducible repeat (first | exact PanicOk.body | refine PanicOk.then_ ?_ | refine PanicOk.block_ ?_)) (fun hQ => ?_)
        refine RH.pure T_ok hQ [0, 1, 2] (by kernel_rfl) rfl ?_
        refine RH.indexAddr T_ok hQ 3 (k := md) rfl (by kernel_rfl) rfl rfl rfl rfl rfl rfl rfl (by omega) rfl ?_
        refine RH.loadAgg T_ok hQ 4 (cC l[md]) (fun m' hm' => cS_at (hR0.ext0 hm') (md) (by omega)) rfl (by kernel_rfl) rfl rfl rfl rfl ?_
        refine RH.pure T_ok hQ [5, 6] (by kernel_rfl) rfl ?_
        refine RH.indexAddr T_ok hQ 7 (k := hh) rfl (by kernel_rfl) rfl rfl rfl rfl rfl rfl rfl (by omega) rfl ?_
        refine RH.loadAgg T_ok hQ 8 (cC l[hh]) (fun m' hm' => cS_at (hR0.ext0 hm') (hh) (by omega)) rfl (by kernel_rfl) rfl rfl rfl rfl ?_
        refine RH.only 9 rfl (by kernel_rfl) (fun _ => ?_)
        refine RL.call (fi := []) (ca := cb) rfl rfl rfl rfl (hC.run m1 l[md] l[hh] (hC.keep _ _ hK hE)) ?_
        rintro _ m2 ⟨rfl, hE2⟩
        refine ⟨_, rfl, RL.N1 (RH.cont hE2 ?_)⟩
        refine RH.pure T_ok hQ [10] (by kernel_rfl) rfl ?_
        refine RH.eqv (v' := .bool (ltOf cf l[md] l[hh])) rfl ?_
        refine RH.pure T_ok hQ [11] (by kernel_rfl) rfl ?_
        refine RH.eqv (v' := .bool (!ltOf cf l[md] l[hh])) rfl ?_
        refine RH.done (by kernel_rfl) (fun _ => ?_)
        (with_reducible repeat (first | refine QN.B1 ?_ | refine QN.N1 ?_))
        have hlt := ltAt_eq (cf := cf) (l := l) (p := md) (q := hh) (by omega) (by omega)
        replace hO : CR m2 S (some ad) n c l := hO.ext hE2 (by simp)
        replace hE := hE.trans hE2 (by simp)
        refine WP.cond rfl (fun hp => ?_) (fun hp => ?_)
        · rw [Bool.not_eq_true'] at hp
          (with_reducible repeat (first | refine WP.S1 ?_ | refine WP.B1 ?_ | refine WP.R1 ?_))
          refine RL.pure T_ok 2 rfl ?_
          refine RL.eqv (v' := .int .i64 ((hh + 1 : Nat) : Int)) (congrArg _ (by rw [wrap_i64_in _ (by omega) (by omega)]; rfl)) ?_
          refine RL.A1 T_ok rfl ?_
          refine RL.N1 ?_
          (with_reducible repeat (first | refine QN.B1 ?_ | refine QN.N1 ?_))
          exact QN.round (hh + 1, j) (Sub.C1 rfl (Sub.C1 rfl (Sub.C1 rfl (Sub.C1 rfl (Sub.C1 rfl (Sub.C1 rfl (Sub.C1 rfl Sub.nil))))))) ⟨hs.up hh1 hh2 (by rw [hlt, hp]), hO, hE⟩ (by show j - (hh + 1) < j - i; omega)
        · rw [Bool.not_eq_false'] at hp
          (with_reducible repeat (first | refine WP.S1 ?_ | refine WP.B1 ?_ | refine WP.R1 ?_))
          refine RL.A1 T_ok rfl ?_
          refine RL.N1 ?_
          (with_reducible repeat (first | refine QN.B1 ?_ | refine QN.N1 ?_))
          exact QN.round (i, hh) (Sub.C1 rfl (Sub.C1 rfl (Sub.C1 rfl (Sub.C1 rfl (Sub.C1 rfl (Sub.C1 rfl (Sub.C1 rfl Sub.nil))))))) ⟨hs.down hh1 hh2 (by rw [hlt, hp]), hO, hE⟩ (by show hh - i < j - i; omega)
      · replace hc : i = j := by have := of_decide_eq_false hc; simp only at this; omega
        subst hc
        refine WP.exit ?_
        (with_reducible repeat (first | refine QN.tx ?_ | refine QN.bx ?_ | refine QN.B1 ?_))
        exact QN.cutEnd i (Sub.C1 rfl (Sub.C1 rfl (Sub.C1 rfl (Sub.C1 rfl (Sub.C1 rfl (Sub.C1 rfl Sub.nil)))))) ⟨hs, hO, hE⟩
    rintro i mS ⟨hs, hOS, hES⟩
    obtain ⟨le1, _, le3⟩ := hs.le
    obtain ⟨x, hx⟩ := some_of (l := l) (i := md) (by omega)
    (with_reducible repeat (first | refine WP.S1 ?_ | refine WP.B1 ?_ | refine WP.R1 ?_))
    refine RL.A1 T_ok rfl ?_
    refine RL.N1 ?_; (with_reducible repeat (first | refine QN.B1 ?_ | refine QN.N1 ?_ | refine WP.S1 ?_ | refine WP.B1 ?_ | refine WP.R1 ?_))
    refine (WP.loop (X := Nat × List Clk) (fun q => [(0, .slice A n c), (1, .int .i64 a), (2, .int .i64 md), (3, .int .i64 ((md + 1 : Nat) : Int)), (4, .func (.func g) #[] cb.toArray), (14, .int .i64 i), (17, .int .i64 q.1)])
      (fun q m' => i ≤ q.1 ∧ q.1 ≤ md ∧ CR m' S A n c q.2 ∧ Ext m S m' ∧ Seg a (md + 1) l q.2 ∧ MvD l md q.1 q.2) (fun q => q.1) (md, l)
      (Sub.C1 rfl (Sub.C1 rfl (Sub.C1 rfl (Sub.C1 rfl (Sub.C1 rfl (Sub.C1 rfl (Sub.C1 rfl Sub.nil))))))) ⟨le3, Nat.le_refl _, hOS, hES, Seg.refl _ _ _, MvD.start _ _⟩ ?_)
    rintro ⟨k0, l1⟩ m1 ⟨hk1, hk2, hO, hE, hSg, hMv⟩
    simp only at hk1 hk2 hO hSg hMv
    have hlen1 := hO.len
    (with_reducible repeat (first | refine WP.S1 ?_ | refine WP.B1 ?_ | refine WP.R1 ?_))
    refine RL.A1 T_ok rfl ?_
    refine RL.N1 ?_; (with_reducible repeat (first | refine QN.B1 ?_ | refine QN.N1 ?_ | refine WP.S1 ?_ | refine WP.B1 ?_ | refine WP.R1 ?_))
    refine WP.cond rfl (fun hc => ?_) (fun hc => ?_)
    · replace hc : i < k0 := by have := of_decide_eq_true hc; simp only at this; omega
      obtain ⟨k, rfl⟩ : ∃ k, k0 = k + 1 := ⟨k0 - 1, by omega⟩
      refine WP.skip ?_; (with_reducible repeat (first | refine QN.B1 ?_ | refine QN.N1 ?_))
      refine WP.S1 ?_
      refine WP.B1 ?_
      obtain ⟨g0, cap0, cur0, hv8, hB8, rfl, hj8, hset⟩ := hO.putK (j := (k + 1) * 2) (k := 2) (by omega) (by omega)
      injection hv8 with hv8 hv8b hv8c
      subst hv8
      have hR : Cs m1 [] (.slice (some ⟨g0, 0, none⟩) n c) l1 := hO.sl (by simp)
      refine WP.drawQ (fun m' => m' = m1) [2, 3, 4, 10, 11, 15, 16, 17] (by kernel_rfl) rfl (by with_reducible repeat (first | exact PanicOk.body | refine PanicOk.then_ ?_ | refine PanicOk.block_ ?_)) (fun hQ => ?_)
      refine RH.pureF T_ok hQ [2, 3, 4] (by kernel_rfl) rfl ?_
      refine RH.eqv (v' := .int .i64 ((k : Nat) : Int)) (congrArg _ (by rw [wrap_i64_in _ (by omega) (by omega)]; omega)) ?_
      refine RH.pureF T_ok hQ [10, 11] (by kernel_rfl) rfl ?_
      refine RH.pure T_ok hQ [0, 1, 5, 6, 7] (by kernel_rfl) rfl ?_
      refine RH.eqv (v' := .int .i64 ((k : Nat) : Int)) (congrArg _ (by rw [wrap_i64_in _ (by omega) (by omega)]; omega)) ?_
      refine RH.indexAddr T_ok hQ 8 (k := k) rfl (by kernel_rfl) rfl rfl rfl rfl rfl rfl rfl (by omega) rfl ?_
      refine RH.loadAgg T_ok hQ 9 (cC l1[k]) (fun m' hm' => by rw [hm']; exact cS_at hR (k) (by omega)) rfl (by kernel_rfl) rfl rfl rfl rfl ?_
      refine RH.indexAddr T_ok hQ 12 (k := k + 1) rfl (by kernel_rfl) rfl rfl rfl rfl rfl rfl rfl (by omega) rfl ?_
      refine RH.loadAgg T_ok hQ 13 (cC l1[k + 1]) (fun m' hm' => by rw [hm']; exact cS_at hR (k + 1) (by omega)) rfl (by kernel_rfl) rfl rfl rfl rfl ?_
      refine RH.indexAddr T_ok hQ 14 (k := k + 1) rfl (by kernel_rfl) rfl rfl rfl rfl rfl rfl rfl (by omega) rfl ?_
      refine RH.eqv (v' := .pointer (some ⟨g0, (k + 1) * 2, none⟩)) (congrArg (fun q => Value.pointer (some q)) (by rw [add_block, Nat.zero_add])) ?_
      refine RH.only 15 rfl (by kernel_rfl) (fun _ => ?_)
      refine RL.storeAgg T_ok (b := g0) (i := (k + 1) * 2) (vs := cC l1[k]) (cs := cur0) hB8 rfl rfl rfl rfl rfl hj8 (cC_one _) rfl ?_
      intro m8 hC8
      have hO8 := hset m8 _ rfl hC8
      rw [csC_set l1 (k + 1) _ (by omega)] at hO8
      refine RL.N1 (RF.cont (by kernel_rfl) ?_)
      refine RF.only 16 rfl (by kernel_rfl) ?_
      refine RL.indexAddr (k := k) T_ok rfl rfl rfl rfl rfl rfl rfl (by omega) rfl ?_
      refine RL.eqv (v' := .pointer (some ⟨g0, (k) * 2, none⟩)) (congrArg (fun q => Value.pointer (some q)) (by rw [add_block, Nat.zero_add])) ?_
      refine RL.N1 (RF.cont (by kernel_rfl) ?_)
      obtain ⟨g1, cap1, cur1, hv9, hB9, hS9, hj9, hset9⟩ := hO8.putK (j := (k) * 2) (k := 2) (by omega) (by omega)
      cases hv9
      refine RF.only 17 rfl (by kernel_rfl) ?_
      refine RL.storeAgg T_ok (b := g0) (i := (k) * 2) (vs := cC l1[k + 1]) (cs := cur1) hB9 rfl rfl rfl rfl rfl hj9 (cC_one _) rfl ?_
      intro m9 hC9
      have hO9 := hset9 m9 _ rfl hC9
      rw [csC_set _ (k) _ (by rw [List.length_set]; omega), ← sw_of (p := k + 1) (q := k) (by omega) (by omega)] at hO9
      have hE9 : Ext m1 [g0] m9 := hC8.ext.trans hC9.ext (fun k hk => .inl hk)
      refine RL.N1 (RF.cont (by kernel_rfl) ?_)
      refine RF.done (by kernel_rfl) ?_
      (with_reducible repeat (first | refine QN.B1 ?_ | refine QN.N1 ?_))
      (with_reducible repeat (first | refine WP.S1 ?_ | refine WP.B1 ?_ | refine WP.R1 ?_))
      refine RL.pure T_ok 2 rfl ?_
      refine RL.eqv (v' := .int .i64 ((k : Nat) : Int)) (congrArg _ (by rw [wrap_i64_in _ (by omega) (by omega)]; omega)) ?_
      refine RL.A1 T_ok rfl ?_
      exact RL.N1 (QN.round (k, sw l1 (k + 1) k) (Sub.C1 rfl (Sub.C1 rfl (Sub.C1 rfl (Sub.C1 rfl (Sub.C1 rfl (Sub.C1 rfl (Sub.C1 rfl Sub.nil))))))) ⟨by show i ≤ k; omega, by show k ≤ md; omega, hO9, hE.trans hE9 (fun k hk => .inl hk), hSg.trans (Seg.sw ⟨by omega, by omega⟩ ⟨by omega, by omega⟩ (by omega)), hMv.step (by omega) (by omega)⟩ (by show k < k + 1; omega))
    · replace hc : k0 = i := by have := of_decide_eq_false hc; simp only at this; omega
      subst hc
      refine WP.exit ?_; (with_reducible repeat (first | refine QN.tx ?_ | refine QN.bx ?_ | refine QN.block_far rfl ?_ | refine QN.B1 ?_ | refine QN.N1 ?_)); (with_reducible repeat (first | refine WP.S1 ?_ | refine WP.B1 ?_ | refine WP.R1 ?_))
      refine WP.ret ?_; (with_reducible repeat (first | refine QN.tr ?_ | refine QN.br ?_))
      refine QN.ret0 rfl ⟨_, rfl, rfl, hE, l1, hO, hSg, ins_down hS hx le1 le3 hU1 ?_ ?_ hMv⟩
      · rcases hs.low with h1 | h1
        · exact .inl h1
        · by_cases hia : k0 = a
          · exact .inl hia
          · obtain ⟨x', y, hx', hy, hlt⟩ := ltAt_get (by omega) (by omega) h1
            rw [hx] at hx'; cases hx'
            exact .inr ⟨y, hy, hlt⟩
      · rcases hs.high with h1 | h1
        · exact .inl h1
        · obtain ⟨x', y, hx', hy, hlt⟩ := ltAt_get (by omega) (by omega) h1
          rw [hx] at hx'; cases hx'
          exact .inr ⟨y, hy, hlt⟩
  refine RL.eqv (v' := .bool false) (congrArg _ (by rw [beq_eq_false_iff_ne]; omega)) ?_
  refine RL.N1 ?_; (with_reducible repeat (first | refine QN.B1 ?_ | refine QN.N1 ?_ | refine WP.S1 ?_ | refine WP.B1 ?_ | refine WP.R1 ?_))
  refine WP.condF rfl ?_
  refine WP.skip ?_; (with_reducible repeat (first | refine QN.B1 ?_ | refine QN.N1 ?_ | refine WP.S1 ?_ | refine WP.B1 ?_ | refine WP.R1 ?_))
  refine RL.pure T_ok 3 rfl ?_
  refine RL.eqv (v' := .int .i64 ((a + b : Nat) : Int)) (congrArg _ (by rw [wrap_i64_in _ (by omega) (by omega)]; omega)) ?_
  refine RL.pure T_ok 1 rfl ?_
  refine RL.eqv (v' := .int .u64 ((a + b : Nat) : Int)) (congrArg _ (by rw [wrap_u64_in _ (by omega) (by omega)])) ?_
  refine RL.pure T_ok 1 rfl ?_
  refine RL.eqv (v' := .int .u64 (((a + b) / 2 : Nat) : Int)) (congrArg _ (half_v _)) ?_
  refine RL.pure T_ok 1 rfl ?_
  refine RL.eqv (v' := .int .i64 (((a + b) / 2 : Nat) : Int)) (congrArg _ (by rw [wrap_i64_in _ (by omega) (by omega)])) ?_
  refine RL.A1 T_ok rfl ?_
  refine RL.N1 ?_; (with_reducible repeat (first | refine QN.B1 ?_ | refine QN.N1 ?_))
  obtain ⟨mid, hmid⟩ : ∃ mid, (a + b) / 2 = mid := ⟨_, rfl⟩
  rw [hmid]
  (with_reducible repeat (first | refine WP.S1 ?_ | refine WP.B1 ?_ | refine WP.R1 ?_))
  refine RL.pure T_ok 3 rfl ?_
  refine RL.eqv (v' := .int .i64 ((mid + md : Nat) : Int)) (congrArg _ (by rw [wrap_i64_in _ (by omega) (by omega)]; omega)) ?_
  refine RL.A1 T_ok rfl ?_
  refine RL.N1 ?_; (with_reducible repeat (first | refine QN.B1 ?_ | refine QN.N1 ?_ | refine WP.S1 ?_ | refine WP.B1 ?_ | refine WP.R1 ?_))
  refine RL.A1 T_ok rfl ?_
  refine RL.N1 ?_; (with_reducible repeat (first | refine QN.B1 ?_ | refine QN.N1 ?_))
  obtain ⟨lo, hlo⟩ : ∃ lo, lo = if mid < md then mid + md - b else a := ⟨_, rfl⟩
  obtain ⟨hi, hhi⟩ : ∃ hi, hi = if mid < md then mid else md := ⟨_, rfl⟩
  have hlo1 : a ≤ lo ∧ mid + md ≤ lo + b := by subst hlo; split <;> omega
  have hhi1 : hi ≤ md ∧ hi ≤ mid ∧ lo ≤ hi := by subst hhi; subst hlo; split <;> omega
  refine WP.cut (X := Unit) (fun _ => [(0, .slice A n c), (1, .int .i64 a), (2, .int .i64 md), (3, .int .i64 b), (4, .func (.func g) #[] cb.toArray), (18, .int .i64 mid), (19, .int .i64 ((mid + md : Nat) : Int)), (20, .int .i64 lo), (21, .int .i64 hi)]) (fun _ m' => m' = m) ?_ ?_
  · (with_reducible repeat (first | refine WP.S1 ?_ | refine WP.B1 ?_ | refine WP.R1 ?_))
    refine RL.pure T_ok 3 rfl ?_
    by_cases hm : mid < md
    · rw [if_pos hm] at hlo hhi
      replace hlo := hlo.symm
      replace hhi := hhi.symm
      subst hlo; subst hhi
      refine RL.eqv (v' := .bool true) (congrArg _ (decide_eq_true (by omega))) ?_
      refine RL.N1 ?_; (with_reducible repeat (first | refine QN.B1 ?_ | refine QN.N1 ?_ | refine WP.S1 ?_ | refine WP.B1 ?_ | refine WP.R1 ?_))
      refine WP.condT rfl ?_
      (with_reducible repeat (first | refine WP.S1 ?_ | refine WP.B1 ?_ | refine WP.R1 ?_))
      refine RL.pure T_ok 3 rfl ?_
      refine RL.eqv (v' := .int .i64 ((mid + md - b : Nat) : Int)) (congrArg _ (by rw [wrap_i64_in _ (by omega) (by omega)]; omega)) ?_
      refine RL.A1 T_ok rfl ?_
      refine RL.N1 ?_; (with_reducible repeat (first | refine QN.B1 ?_ | refine QN.N1 ?_ | refine WP.S1 ?_ | refine WP.B1 ?_ | refine WP.R1 ?_))
      refine RL.A1 T_ok rfl ?_
      exact RL.N1 (QN.cutEnd () (Sub.C1 rfl (Sub.C1 rfl (Sub.C1 rfl (Sub.C1 rfl (Sub.C1 rfl (Sub.C1 rfl (Sub.C1 rfl (Sub.C1 rfl (Sub.C1 rfl Sub.nil))))))))) rfl)
    · rw [if_neg hm] at hlo hhi
      replace hlo := hlo.symm
      replace hhi := hhi.symm
      subst hlo; subst hhi
      refine RL.eqv (v' := .bool false) (congrArg _ (decide_eq_false (by omega))) ?_
      refine RL.N1 ?_; (with_reducible repeat (first | refine QN.B1 ?_ | refine QN.N1 ?_ | refine WP.S1 ?_ | refine WP.B1 ?_ | refine WP.R1 ?_))
      refine WP.condF rfl ?_
      (with_reducible repeat (first | refine WP.S1 ?_ | refine WP.B1 ?_ | refine WP.R1 ?_))
      refine RL.A1 T_ok rfl ?_
      refine RL.N1 ?_; (with_reducible repeat (first | refine QN.B1 ?_ | refine QN.N1 ?_ | refine WP.S1 ?_ | refine WP.B1 ?_ | refine WP.R1 ?_))
      refine RL.A1 T_ok rfl ?_
      exact RL.N1 (QN.cutEnd () (Sub.C1 rfl (Sub.C1 rfl (Sub.C1 rfl (Sub.C1 rfl (Sub.C1 rfl (Sub.C1 rfl (Sub.C1 rfl (Sub.C1 rfl (Sub.C1 rfl Sub.nil))))))))) rfl)
  rintro _ mc rfl
  (with_reducible repeat (first | refine WP.S1 ?_ | refine WP.B1 ?_ | refine WP.R1 ?_))
  refine RL.pure T_ok 2 rfl ?_
  refine RL.eqv (v' := .int .i64 ((mid + md - 1 : Nat) : Int)) (congrArg _ (by rw [wrap_i64_in _ (by omega) (by omega)]; omega)) ?_
  refine RL.A1 T_ok rfl ?_
  refine RL.N1 ?_; (with_reducible repeat (first | refine QN.B1 ?_ | refine QN.N1 ?_))
  refine WP.cut (X := Nat) (fun s => [(0, .slice A n c), (1, .int .i64 a), (2, .int .i64 md), (3, .int .i64 b), (4, .func (.func g) #[] cb.toArray), (18, .int .i64 mid), (19, .int .i64 ((mid + md : Nat) : Int)), (20, .int .i64 s)]) (fun s m' => Srch (fun k => ltAt cf l (mid + md - 1 - k) k) lo hi s s ∧ CR m' S A n c l ∧ Ext mc S m') ?_ ?_
  · refine WP.B1 ?_
    refine (WP.loop (X := Nat × Nat) (fun q => [(0, .slice A n c), (1, .int .i64 a), (2, .int .i64 md), (3, .int .i64 b), (4, .func (.func g) #[] cb.toArray), (18, .int .i64 mid), (19, .int .i64 ((mid + md : Nat) : Int)), (20, .int .i64 q.1), (21, .int .i64 q.2), (22, .int .i64 ((mid + md - 1 : Nat) : Int))])
      (fun q m' => Srch (fun k => ltAt cf l (mid + md - 1 - k) k) lo hi q.1 q.2 ∧ CR m' S A n c l ∧ Ext mc S m') (fun q => q.2 - q.1) (lo, hi)
      (Sub.C1 rfl (Sub.C1 rfl (Sub.C1 rfl (Sub.C1 rfl (Sub.C1 rfl (Sub.C1 rfl (Sub.C1 rfl (Sub.C1 rfl (Sub.C1 rfl (Sub.C1 rfl Sub.nil)))))))))) ⟨Srch.start _ hhi1.2.2, h, Ext.refl _ _⟩ ?_)
    rintro ⟨i, j⟩ m1 ⟨hs, hO, hE⟩
    simp only at hs
    obtain ⟨le1, le2, le3⟩ := hs.le
    (with_reducible repeat (first | refine WP.S1 ?_ | refine WP.B1 ?_ | refine WP.R1 ?_))
    refine RL.A1 T_ok rfl ?_
    refine RL.N1 ?_; (with_reducible repeat (first | refine QN.B1 ?_ | refine QN.N1 ?_ | refine WP.S1 ?_ | refine WP.B1 ?_ | refine WP.R1 ?_))
    refine WP.cond rfl (fun hc => ?_) (fun hc => ?_)
    · replace hc : i < j := by have := of_decide_eq_true hc; simp only at this; omega
      refine WP.skip ?_; (with_reducible repeat (first | refine QN.B1 ?_ | refine QN.N1 ?_ | refine WP.S1 ?_ | refine WP.B1 ?_ | refine WP.R1 ?_))
      refine RL.pure T_ok 3 rfl ?_
      refine RL.eqv (v' := .int .i64 ((i + j : Nat) : Int)) (congrArg _ (by rw [wrap_i64_in _ (by omega) (by omega)]; omega)) ?_
      refine RL.pure T_ok 1 rfl ?_
      refine RL.eqv (v' := .int .u64 ((i + j : Nat) : Int)) (congrArg _ (by rw [wrap_u64_in _ (by omega) (by omega)])) ?_
      refine RL.pure T_ok 1 rfl ?_
      refine RL.eqv (v' := .int .u64 (((i + j) / 2 : Nat) : Int)) (congrArg _ (half_v _)) ?_
      refine RL.pure T_ok 1 rfl ?_
      refine RL.eqv (v' := .int .i64 (((i + j) / 2 : Nat) : Int)) (congrArg _ (by rw [wrap_i64_in _ (by omega) (by omega)])) ?_
      refine RL.A1 T_ok rfl ?_
      refine RL.N1 ?_; (with_reducible repeat (first | refine QN.B1 ?_ | refine QN.N1 ?_))
      have hh1 : i ≤ (i + j) / 2 := by omega
      have hh2 : (i + j) / 2 < j := by omega
      generalize (i + j) / 2 = hh at hh1 hh2
      (with_reducible repeat (first | refine WP.S1 ?_ | refine WP.B1 ?_ | refine WP.R1 ?_))
      have hR0 : Cs m1 [] (.slice A n c) l := hO.sl (by simp)
      obtain ⟨ad, rfl, _⟩ := hR0.cell (mid + md - 1 - hh) (by omega)
      refine WP.drawQ (fun m' => Ext m1 [] m') [] (by kernel_rfl) (Ext.refl _ _) (by with_reducible repeat (first | exact PanicOk.body | refine PanicOk.then_ ?_ | refine PanicOk.block_ ?_)) (fun hQ => ?_)
      refine RH.pure T_ok hQ [0, 1, 2, 3, 4] (by kernel_rfl) rfl ?_
      refine RH.eqv (v' := .int .i64 ((mid + md - 1 - hh : Nat) : Int)) (congrArg _ (by rw [wrap_i64_in _ (by omega) (by omega)]; omega)) ?_
      refine RH.indexAddr T_ok hQ 5 (k := mid + md - 1 - hh) rfl (by kernel_rfl) rfl rfl rfl rfl rfl rfl rfl (by omega) rfl ?_
      refine RH.loadAgg T_ok hQ 6 (cC l[mid + md - 1 - hh]) (fun m' hm' => cS_at (hR0.ext0 hm') (mid + md - 1 - hh) (by omega)) rfl (by kernel_rfl) rfl rfl rfl rfl ?_
      refine RH.pure T_ok hQ [7, 8] (by kernel_rfl) rfl ?_
      refine RH.indexAddr T_ok hQ 9 (k := hh) rfl (by kernel_rfl) rfl rfl rfl rfl rfl rfl rfl (by omega) rfl ?_
      refine RH.loadAgg T_ok hQ 10 (cC l[hh]) (fun m' hm' => cS_at (hR0.ext0 hm') (hh) (by omega)) rfl (by kernel_rfl) rfl rfl rfl rfl ?_
      refine RH.only 11 rfl (by kernel_rfl) (fun _ => ?_)
      refine RL.call (fi := []) (ca := cb) rfl rfl rfl rfl (hC.run m1 l[mid + md - 1 - hh] l[hh] (hC.keep _ _ hK hE)) ?_
      rintro _ m2 ⟨rfl, hE2⟩
      refine ⟨_, rfl, RL.N1 (RH.cont hE2 ?_)⟩
      refine RH.pure T_ok hQ [12] (by kernel_rfl) rfl ?_
      refine RH.eqv (v' := .bool (ltOf cf l[mid + md - 1 - hh] l[hh])) rfl ?_
      refine RH.pure T_ok hQ [13] (by kernel_rfl) rfl ?_
      refine RH.eqv (v' := .bool (!ltOf cf l[mid + md - 1 - hh] l[hh])) rfl ?_
      refine RH.done (by kernel_rfl) (fun _ => ?_)
      (with_reducible repeat (first | refine QN.B1 ?_ | refine QN.N1 ?_))
      have hlt := ltAt_eq (cf := cf) (l := l) (p := mid + md - 1 - hh) (q := hh) (by omega) (by omega)
      replace hO : CR m2 S (some ad) n c l := hO.ext hE2 (by simp)
      replace hE := hE.trans hE2 (by simp)
      refine WP.cond rfl (fun hp => ?_) (fun hp => ?_)
      · rw [Bool.not_eq_true'] at hp
        (with_reducible repeat (first | refine WP.S1 ?_ | refine WP.B1 ?_ | refine WP.R1 ?_))
        refine RL.pure T_ok 2 rfl ?_
        refine RL.eqv (v' := .int .i64 ((hh + 1 : Nat) : Int)) (congrArg _ (by rw [wrap_i64_in _ (by omega) (by omega)]; rfl)) ?_
        refine RL.A1 T_ok rfl ?_
        refine RL.N1 ?_
        (with_reducible repeat (first | refine QN.B1 ?_ | refine QN.N1 ?_))
        exact QN.round (hh + 1, j) (Sub.C1 rfl (Sub.C1 rfl (Sub.C1 rfl (Sub.C1 rfl (Sub.C1 rfl (Sub.C1 rfl (Sub.C1 rfl (Sub.C1 rfl (Sub.C1 rfl (Sub.C1 rfl Sub.nil)))))))))) ⟨hs.up hh1 hh2 (by rw [hlt, hp]), hO, hE⟩ (by show j - (hh + 1) < j - i; omega)
      · rw [Bool.not_eq_false'] at hp
        (with_reducible repeat (first | refine WP.S1 ?_ | refine WP.B1 ?_ | refine WP.R1 ?_))
        refine RL.A1 T_ok rfl ?_
        refine RL.N1 ?_
        (with_reducible repeat (first | refine QN.B1 ?_ | refine QN.N1 ?_))
        exact QN.round (i, hh) (Sub.C1 rfl (Sub.C1 rfl (Sub.C1 rfl (Sub.C1 rfl (Sub.C1 rfl (Sub.C1 rfl (Sub.C1 rfl (Sub.C1 rfl (Sub.C1 rfl (Sub.C1 rfl Sub.nil)))))))))) ⟨hs.down hh1 hh2 (by rw [hlt, hp]), hO, hE⟩ (by show hh - i < j - i; omega)
    · replace hc : i = j := by have := of_decide_eq_false hc; simp only at this; omega
      subst hc
      refine WP.exit ?_
      (with_reducible repeat (first | refine QN.tx ?_ | refine QN.bx ?_ | refine QN.B1 ?_))
      exact QN.cutEnd i (Sub.C1 rfl (Sub.C1 rfl (Sub.C1 rfl (Sub.C1 rfl (Sub.C1 rfl (Sub.C1 rfl (Sub.C1 rfl (Sub.C1 rfl Sub.nil)))))))) ⟨hs, hO, hE⟩
  rintro s mS ⟨hs, hO, hE⟩
  obtain ⟨le1, _, le3⟩ := hs.le
  have hfound : Go.Mrg.Found (ltOf cf) l (mid + md) lo hi s := by
    refine ⟨⟨le1, le3⟩, ?_, ?_⟩
    · rcases hs.low with h1 | h1
      · exact .inl h1
      · by_cases hsl : s = lo
        · exact .inl hsl
        · obtain ⟨y, x, hy, hx, hlt⟩ := ltAt_get (by omega) (by omega) h1
          rw [show mid + md - 1 - (s - 1) = mid + md - s by omega] at hy
          exact .inr ⟨x, y, hx, hy, hlt⟩
    · rcases hs.high with h1 | h1
      · exact .inl h1
      · by_cases hsh : s = hi
        · exact .inl hsh
        · obtain ⟨y, x, hy, hx, hlt⟩ := ltAt_get (by omega) (by omega) h1
          exact .inr ⟨x, y, hx, hy, hlt⟩
  (with_reducible repeat (first | refine WP.S1 ?_ | refine WP.B1 ?_ | refine WP.R1 ?_))
  refine RL.pure T_ok 3 rfl ?_
  refine RL.eqv (v' := .int .i64 ((mid + md - s : Nat) : Int)) (congrArg _ (by rw [wrap_i64_in _ (by omega) (by omega)]; omega)) ?_
  refine RL.A1 T_ok rfl ?_
  refine RL.N1 ?_; (with_reducible repeat (first | refine QN.B1 ?_ | refine QN.N1 ?_))
  refine WP.cut (X := List Clk) (fun _ => [(0, .slice A n c), (1, .int .i64 a), (2, .int .i64 md), (3, .int .i64 b), (4, .func (.func g) #[] cb.toArray), (18, .int .i64 mid), (20, .int .i64 s), (24, .int .i64 ((mid + md - s : Nat) : Int))])
    (fun l1 m' => CR m' S A n c l1 ∧ Ext mc S m' ∧ Seg a b l l1 ∧ ∀ k, l1[k]? = if s ≤ k ∧ k < mid then l[k + (md - s)]? else if mid ≤ k ∧ k < mid + md - s then l[k - (mid - s)]? else l[k]?) ?_ ?_
  · (with_reducible repeat (first | refine WP.S1 ?_ | refine WP.B1 ?_ | refine WP.R1 ?_))
    refine RL.pure T_ok 3 rfl ?_
    by_cases r1 : s < md
    · refine RL.eqv (v' := .bool true) (congrArg _ (decide_eq_true (by omega))) ?_
      refine RL.pure T_ok 4 rfl ?_
      by_cases r2 : md < mid + md - s
      · refine RL.eqv (v' := .bool true) (congrArg _ (decide_eq_true (by omega))) ?_
        refine RL.A1 T_ok rfl ?_
        refine RL.N1 ?_; (with_reducible repeat (first | refine QN.B1 ?_ | refine QN.N1 ?_ | refine WP.S1 ?_ | refine WP.B1 ?_ | refine WP.R1 ?_))
        refine WP.condT rfl ?_
        (with_reducible repeat (first | refine WP.S1 ?_ | refine WP.B1 ?_ | refine WP.R1 ?_))
        refine RL.A1 T_ok rfl ?_
        refine RL.call (fi := []) (ca := []) rfl rfl rfl rfl (rotate_c mS S A n c l s md (mid + md - s) _ hO r1 r2 (by omega) hn) ?_
        rintro _ mR ⟨rfl, hER, l1, hOR, hSR, hRR⟩
        refine ⟨_, rfl, ?_⟩
        rw [show mid + md - s - md = mid - s by omega] at hRR
        exact RL.N1 (QN.cutEnd l1 (Sub.C1 rfl (Sub.C1 rfl (Sub.C1 rfl (Sub.C1 rfl (Sub.C1 rfl (Sub.C1 rfl (Sub.C1 rfl (Sub.C1 rfl Sub.nil)))))))) ⟨hOR, hE.trans hER (fun k hk => .inl hk), hSR.mono (by omega) (by omega), rot_at (by omega) (by omega) hRR⟩)
      · refine RL.eqv (v' := .bool false) (congrArg _ (decide_eq_false (by omega))) ?_
        refine RL.A1 T_ok rfl ?_
        refine RL.N1 ?_; (with_reducible repeat (first | refine QN.B1 ?_ | refine QN.N1 ?_ | refine WP.S1 ?_ | refine WP.B1 ?_ | refine WP.R1 ?_))
        refine WP.condF rfl ?_
        refine WP.skip ?_
        exact QN.cutEnd l (Sub.C1 rfl (Sub.C1 rfl (Sub.C1 rfl (Sub.C1 rfl (Sub.C1 rfl (Sub.C1 rfl (Sub.C1 rfl (Sub.C1 rfl Sub.nil)))))))) ⟨hO, hE, Seg.refl _ _ _, rot_none (by omega) (by omega) (.inr (by omega))⟩
    · refine RL.eqv (v' := .bool false) (congrArg _ (decide_eq_false (by omega))) ?_
      refine RL.A1 T_ok rfl ?_
      refine RL.N1 ?_; (with_reducible repeat (first | refine QN.B1 ?_ | refine QN.N1 ?_ | refine WP.S1 ?_ | refine WP.B1 ?_ | refine WP.R1 ?_))
      refine WP.condF rfl ?_
      refine WP.skip ?_
      exact QN.cutEnd l (Sub.C1 rfl (Sub.C1 rfl (Sub.C1 rfl (Sub.C1 rfl (Sub.C1 rfl (Sub.C1 rfl (Sub.C1 rfl (Sub.C1 rfl Sub.nil)))))))) ⟨hO, hE, Seg.refl _ _ _, rot_none (by omega) (by omega) (.inl (by omega))⟩
  rintro l1 m1 ⟨hO1, hE1, hSg1, hr⟩
  obtain ⟨hcross, u1, u2, u3, u4⟩ := merge_cross hS ham hmid.symm hU1 hU2 hlo hhi hfound hr
  refine WP.cut (X := List Clk) (fun _ => [(0, .slice A n c), (1, .int .i64 a), (2, .int .i64 md), (3, .int .i64 b), (4, .func (.func g) #[] cb.toArray), (18, .int .i64 mid), (24, .int .i64 ((mid + md - s : Nat) : Int))])
    (fun l2 m' => CR m' S A n c l2 ∧ Ext mc S m' ∧ Seg a mid l1 l2 ∧ Up (ltOf cf) l2 a mid) ?_ ?_
  · (with_reducible repeat (first | refine WP.S1 ?_ | refine WP.B1 ?_ | refine WP.R1 ?_))
    refine RL.pure T_ok 3 rfl ?_
    by_cases r1 : a < s
    · refine RL.eqv (v' := .bool true) (congrArg _ (decide_eq_true (by omega))) ?_
      refine RL.pure T_ok 4 rfl ?_
      by_cases r2 : s < mid
      · refine RL.eqv (v' := .bool true) (congrArg _ (decide_eq_true (by omega))) ?_
        refine RL.A1 T_ok rfl ?_
        refine RL.N1 ?_; (with_reducible repeat (first | refine QN.B1 ?_ | refine QN.N1 ?_ | refine WP.S1 ?_ | refine WP.B1 ?_ | refine WP.R1 ?_))
        refine WP.condT rfl ?_
        (with_reducible repeat (first | refine WP.S1 ?_ | refine WP.B1 ?_ | refine WP.R1 ?_))
        refine RL.A1 T_ok rfl ?_
        refine RL.call (fi := []) (ca := []) rfl rfl rfl rfl (ih m1 l1 a s mid (by omega) (hC.keep _ _ hK hE1) hO1 r1 r2 (by omega) u1 u2) ?_
        rintro _ mR ⟨rfl, hER, l2, hOR, hSR, hUR⟩
        refine ⟨_, rfl, ?_⟩
        exact RL.N1 (QN.cutEnd l2 (Sub.C1 rfl (Sub.C1 rfl (Sub.C1 rfl (Sub.C1 rfl (Sub.C1 rfl (Sub.C1 rfl (Sub.C1 rfl Sub.nil))))))) ⟨hOR, hE1.trans hER (fun k hk => .inl hk), hSR, hUR⟩)
      · refine RL.eqv (v' := .bool false) (congrArg _ (decide_eq_false (by omega))) ?_
        refine RL.A1 T_ok rfl ?_
        refine RL.N1 ?_; (with_reducible repeat (first | refine QN.B1 ?_ | refine QN.N1 ?_ | refine WP.S1 ?_ | refine WP.B1 ?_ | refine WP.R1 ?_))
        refine WP.condF rfl ?_
        refine WP.skip ?_
        exact QN.cutEnd l1 (Sub.C1 rfl (Sub.C1 rfl (Sub.C1 rfl (Sub.C1 rfl (Sub.C1 rfl (Sub.C1 rfl (Sub.C1 rfl Sub.nil))))))) ⟨hO1, hE1, Seg.refl _ _ _, u1.sub (Nat.le_refl _) (by omega)⟩
    · refine RL.eqv (v' := .bool false) (congrArg _ (decide_eq_false (by omega))) ?_
      refine RL.A1 T_ok rfl ?_
      refine RL.N1 ?_; (with_reducible repeat (first | refine QN.B1 ?_ | refine QN.N1 ?_ | refine WP.S1 ?_ | refine WP.B1 ?_ | refine WP.R1 ?_))
      refine WP.condF rfl ?_
      refine WP.skip ?_
      exact QN.cutEnd l1 (Sub.C1 rfl (Sub.C1 rfl (Sub.C1 rfl (Sub.C1 rfl (Sub.C1 rfl (Sub.C1 rfl (Sub.C1 rfl Sub.nil))))))) ⟨hO1, hE1, Seg.refl _ _ _, u2.sub (by omega) (Nat.le_refl _)⟩
  rintro l2 m2 ⟨hO2, hE2, hSg2, hUp2⟩
  have v3 := u3.of_out hSg2 (.inr (Nat.le_refl _))
  have v4 := u4.of_out hSg2 (.inr (by omega))
  (with_reducible repeat (first | refine WP.S1 ?_ | refine WP.B1 ?_ | refine WP.R1 ?_))
  refine RL.pure T_ok 3 rfl ?_
  by_cases r1 : mid < mid + md - s
  · refine RL.eqv (v' := .bool true) (congrArg _ (decide_eq_true (by omega))) ?_
    refine RL.pure T_ok 4 rfl ?_
    by_cases r2 : mid + md - s < b
    · refine RL.eqv (v' := .bool true) (congrArg _ (decide_eq_true (by omega))) ?_
      refine RL.A1 T_ok rfl ?_
      refine RL.N1 ?_; (with_reducible repeat (first | refine QN.B1 ?_ | refine QN.N1 ?_ | refine WP.S1 ?_ | refine WP.B1 ?_ | refine WP.R1 ?_))
      refine WP.condT rfl ?_
      (with_reducible repeat (first | refine WP.S1 ?_ | refine WP.B1 ?_ | refine WP.R1 ?_))
      refine RL.A1 T_ok rfl ?_
      refine RL.call (fi := []) (ca := []) rfl rfl rfl rfl (ih m2 l2 mid (mid + md - s) b (by omega) (hC.keep _ _ hK hE2) hO2 r1 r2 hbn v3 v4) ?_
      rintro _ m3 ⟨rfl, hE3, l3, hO3, hS3, hU3⟩
      refine ⟨_, rfl, ?_⟩
      obtain ⟨w1, w2⟩ := halves hSg2 hS3 (by omega) (by omega) hUp2 hU3 hcross
      exact RL.N1 (QN.end0 rfl ⟨_, rfl, rfl, hE2.trans hE3 (fun k hk => .inl hk), l3, hO3, hSg1.trans w1, w2⟩)
    · refine RL.eqv (v' := .bool false) (congrArg _ (decide_eq_false (by omega))) ?_
      refine RL.A1 T_ok rfl ?_
      refine RL.N1 ?_; (with_reducible repeat (first | refine QN.B1 ?_ | refine QN.N1 ?_ | refine WP.S1 ?_ | refine WP.B1 ?_ | refine WP.R1 ?_))
      refine WP.condF rfl ?_
      refine WP.skip ?_
      obtain ⟨w1, w2⟩ := halves hSg2 (Seg.refl mid b l2) (by omega) (by omega) hUp2 (v3.sub (Nat.le_refl _) (by omega)) hcross
      exact QN.end0 rfl ⟨_, rfl, rfl, hE2, l2, hO2, hSg1.trans w1, w2⟩
  · refine RL.eqv (v' := .bool false) (congrArg _ (decide_eq_false (by omega))) ?_
    refine RL.A1 T_ok rfl ?_
    refine RL.N1 ?_; (with_reducible repeat (first | refine QN.B1 ?_ | refine QN.N1 ?_ | refine WP.S1 ?_ | refine WP.B1 ?_ | refine WP.R1 ?_))
    refine WP.condF rfl ?_
    refine WP.skip ?_
    obtain ⟨w1, w2⟩ := halves hSg2 (Seg.refl mid b l2) (by omega) (by omega) hUp2 (v4.sub (by omega) (Nat.le_refl _)) hcross
    exact QN.end0 rfl ⟨_, rfl, rfl, hE2, l2, hO2, hSg1.trans w1, w2⟩
end Go.Proofs.YtmjpcaiehfimgaaGreatDoor
end
section
namespace Go.Proofs.YtmjpcaiehfimgaaGreatDoor
open Go.RowKit Go.Ev Go.Ids Go.Mrg Go.Sort
theorem stable_c (S : List Nat) (A : Option Addr) (n c : Nat) (g : FuncId) (cb : List Value) (cf : Clk → Clk → Int) (K : World → Prop) (hC : Cmp Tryz.prog S g cb cf K) (hS : SWO (ltOf cf)) (hn : n < 1000000000)
    (m : World) (l : List Clk) (hK : K m) (h : CR m S A n c l) :
    FnR Tryz.prog 108 [.slice A n c, .int .i64 n, .func (.func g) #[] cb.toArray] m fun r m' => r = .tuple #[] ∧ Ext m S m' ∧ ∃ l', CR m' S A n c l' ∧ l'.Perm l ∧ Up (ltOf cf) l' 0 n := by
  refine FnE.enter ⟨_, Tryz.func108, by kernel_rfl, by kernel_rfl⟩ Tryz.func108 rfl rfl ?_
  (with_reducible repeat (first | refine WP.S1 ?_ | refine WP.B1 ?_ | refine WP.R1 ?_))
  refine RL.A1 T_ok rfl ?_
  refine RL.N1 ?_; (with_reducible repeat (first | refine QN.B1 ?_ | refine QN.N1 ?_ | refine WP.S1 ?_ | refine WP.B1 ?_ | refine WP.R1 ?_))
  refine RL.A1 T_ok rfl ?_
  refine RL.N1 ?_; (with_reducible repeat (first | refine QN.B1 ?_ | refine QN.N1 ?_))
  refine WP.cut (X := Nat × List Clk) (fun q => [(0, .slice A n c), (1, .int .i64 n), (2, .func (.func g) #[] cb.toArray), (6, .int .i64 20), (7, .int .i64 ((q.1 * 20 : Nat) : Int))])
    (fun q m' => CR m' S A n c q.2 ∧ Ext m S m' ∧ Seg 0 n l q.2 ∧ Done (ltOf cf) 20 q.2 q.1 ∧ q.1 * 20 ≤ n ∧ n < q.1 * 20 + 20) ?_ ?_
  · refine WP.B1 ?_
    refine (WP.loop (X := Nat × List Clk) (fun q => [(0, .slice A n c), (1, .int .i64 n), (2, .func (.func g) #[] cb.toArray), (6, .int .i64 20), (7, .int .i64 ((q.1 * 20 : Nat) : Int)), (8, .int .i64 ((q.1 * 20 + 20 : Nat) : Int))])
      (fun q m' => CR m' S A n c q.2 ∧ Ext m S m' ∧ Seg 0 n l q.2 ∧ Done (ltOf cf) 20 q.2 q.1 ∧ q.1 * 20 ≤ n) (fun q => n - q.1) (0, l)
      (Sub.C1 rfl (Sub.C1 rfl (Sub.C1 rfl (Sub.C1 rfl (Sub.C1 rfl (Sub.C1 rfl Sub.nil)))))) ⟨h, Ext.refl _ _, Seg.refl _ _ _, Done.zero _ _ _, by show 0 * 20 ≤ n; omega⟩ ?_)
    rintro ⟨q, l1⟩ m1 ⟨hO, hE, hSg, hD, hq⟩
    simp only at hO hSg hD hq
    (with_reducible repeat (first | refine WP.S1 ?_ | refine WP.B1 ?_ | refine WP.R1 ?_))
    refine RL.pure T_ok 3 rfl ?_
    by_cases hc : q * 20 + 20 ≤ n
    · refine RL.eqv (v' := .bool true) (congrArg _ (decide_eq_true (by simp only; omega))) ?_
      refine RL.N1 ?_; (with_reducible repeat (first | refine QN.B1 ?_ | refine QN.N1 ?_ | refine WP.S1 ?_ | refine WP.B1 ?_ | refine WP.R1 ?_))
      refine WP.condT rfl ?_
      refine WP.skip ?_; (with_reducible repeat (first | refine QN.B1 ?_ | refine QN.N1 ?_ | refine WP.S1 ?_ | refine WP.B1 ?_ | refine WP.R1 ?_))
      refine RL.A1 T_ok rfl ?_
      refine RL.call (fi := []) (ca := []) rfl rfl rfl rfl (insert_c m1 S A n c l1 (q * 20) (q * 20 + 20) g cb cf K hC (hC.keep _ _ hK hE) hS hO (by omega) hc hn) ?_
      rintro _ m2 ⟨rfl, hE2, l2, hO2, hS2, hU2⟩
      refine ⟨_, rfl, ?_⟩
      refine RL.N1 ?_; (with_reducible repeat (first | refine QN.B1 ?_ | refine QN.N1 ?_ | refine WP.S1 ?_ | refine WP.B1 ?_ | refine WP.R1 ?_))
      refine RL.A1 T_ok rfl ?_
      refine RL.N1 ?_; (with_reducible repeat (first | refine QN.B1 ?_ | refine QN.N1 ?_ | refine WP.S1 ?_ | refine WP.B1 ?_ | refine WP.R1 ?_))
      refine RL.pure T_ok 3 rfl ?_
      refine RL.eqv (v' := .int .i64 (((q + 1) * 20 + 20 : Nat) : Int)) (congrArg _ (by rw [wrap_i64_in _ (by simp only; omega) (by simp only; omega)]; simp only; omega)) ?_
      refine RL.sub (e' := [(0, .slice A n c), (1, .int .i64 n), (2, .func (.func g) #[] cb.toArray), (6, .int .i64 20), (7, .int .i64 ((q * 20 + 20 : Nat) : Int)), (22, .int .i64 (((q + 1) * 20 + 20 : Nat) : Int))]) (Sub.C1 rfl (Sub.C1 rfl (Sub.C1 rfl (Sub.C1 rfl (Sub.C1 rfl (Sub.C1 rfl Sub.nil)))))) ?_
      rw [show q * 20 + 20 = (q + 1) * 20 by omega] at hU2 hS2 ⊢
      refine RL.A1 T_ok rfl ?_
      refine RL.N1 ?_
      (with_reducible repeat (first | refine QN.B1 ?_ | refine QN.N1 ?_))
      exact QN.round (q + 1, l2) (Sub.C1 rfl (Sub.C1 rfl (Sub.C1 rfl (Sub.C1 rfl (Sub.C1 rfl (Sub.C1 rfl Sub.nil)))))) ⟨hO2, hE.trans hE2 (fun k hk => .inl hk), hSg.trans (hS2.mono (by omega) (by omega)), hD.next hS2 (by rw [show q * 20 + 20 = (q + 1) * 20 by omega]; exact hU2), by show (q + 1) * 20 ≤ n; omega⟩ (by show n - (q + 1) < n - q; omega)
    · refine RL.eqv (v' := .bool false) (congrArg _ (decide_eq_false (by simp only; omega))) ?_
      refine RL.N1 ?_; (with_reducible repeat (first | refine QN.B1 ?_ | refine QN.N1 ?_ | refine WP.S1 ?_ | refine WP.B1 ?_ | refine WP.R1 ?_))
      refine WP.condF rfl ?_
      refine WP.exit ?_
      (with_reducible repeat (first | refine QN.tx ?_ | refine QN.bx ?_ | refine QN.B1 ?_))
      exact QN.cutEnd (q, l1) (Sub.C1 rfl (Sub.C1 rfl (Sub.C1 rfl (Sub.C1 rfl (Sub.C1 rfl Sub.nil))))) ⟨hO, hE, hSg, hD, hq, by show n < q * 20 + 20; omega⟩
  rintro ⟨q, l1⟩ m1 ⟨hO, hE, hSg, hD, hq, hq2⟩
  simp only at hO hSg hD hq hq2
  (with_reducible repeat (first | refine WP.S1 ?_ | refine WP.B1 ?_ | refine WP.R1 ?_))
  refine RL.A1 T_ok rfl ?_
  refine RL.call (fi := []) (ca := []) rfl rfl rfl rfl (insert_c m1 S A n c l1 (q * 20) n g cb cf K hC (hC.keep _ _ hK hE) hS hO hq (Nat.le_refl _) hn) ?_
  rintro _ m2 ⟨rfl, hE2, l2, hO2, hS2, hU2⟩
  refine ⟨_, rfl, ?_⟩
  have hR2 := hD.last hS2 hU2 hq hq2
  replace hE2 := hE.trans hE2 (fun k hk => .inl hk)
  replace hSg := hSg.trans (hS2.mono (by omega) (Nat.le_refl _))
  clear hO hE hD hq hq2 hS2 hU2
  refine RL.N1 ?_; (with_reducible repeat (first | refine QN.B1 ?_ | refine QN.N1 ?_ | refine WP.S1 ?_ | refine WP.B1 ?_ | refine WP.R1 ?_))
  refine (WP.loop (X := Nat × List Clk) (fun q => [(0, .slice A n c), (1, .int .i64 n), (2, .func (.func g) #[] cb.toArray), (6, .int .i64 q.1)])
    (fun q m' => 1 ≤ q.1 ∧ CR m' S A n c q.2 ∧ Ext m S m' ∧ Seg 0 n l q.2 ∧ Go.Mrg.Rest (ltOf cf) q.1 q.2 n 0) (fun q => n - q.1) (20, l2)
    (Sub.C1 rfl (Sub.C1 rfl (Sub.C1 rfl (Sub.C1 rfl Sub.nil)))) ⟨by show 1 ≤ 20; omega, hO2, hE2, hSg, hR2⟩ ?_)
  clear hO2 hE2 hSg hR2
  rintro ⟨B, l2⟩ m2 ⟨hB1, hO2, hE2, hSg, hR2⟩
  simp only at hB1 hO2 hSg hR2
  (with_reducible repeat (first | refine WP.S1 ?_ | refine WP.B1 ?_ | refine WP.R1 ?_))
  refine RL.pure T_ok 3 rfl ?_
  by_cases hcB : B < n
  rotate_left
  · refine RL.eqv (v' := .bool false) (congrArg _ (decide_eq_false (by simp only; omega))) ?_
    refine RL.N1 ?_; (with_reducible repeat (first | refine QN.B1 ?_ | refine QN.N1 ?_ | refine WP.S1 ?_ | refine WP.B1 ?_ | refine WP.R1 ?_))
    refine WP.condF rfl ?_
    refine WP.exit ?_
    (with_reducible repeat (first | refine QN.tx ?_ | refine QN.bx ?_ | refine QN.block_far rfl ?_ | refine QN.B1 ?_ | refine QN.N1 ?_))
    exact QN.end0 rfl ⟨_, rfl, rfl, hE2, l2, hO2, hSg.perm, hR2.all (by omega)⟩
  refine RL.eqv (v' := .bool true) (congrArg _ (decide_eq_true (by simp only; omega))) ?_
  refine RL.N1 ?_; (with_reducible repeat (first | refine QN.B1 ?_ | refine QN.N1 ?_ | refine WP.S1 ?_ | refine WP.B1 ?_ | refine WP.R1 ?_))
  refine WP.condT rfl ?_
  refine WP.skip ?_; (with_reducible repeat (first | refine QN.B1 ?_ | refine QN.N1 ?_ | refine WP.S1 ?_ | refine WP.B1 ?_ | refine WP.R1 ?_))
  refine RL.pure T_ok 2 rfl ?_
  refine RL.eqv (v' := .int .i64 ((2 * B : Nat) : Int)) (congrArg _ (by rw [wrap_i64_in _ (by simp only; omega) (by simp only; omega)]; simp only; omega)) ?_
  refine RL.A1 T_ok rfl ?_
  refine RL.N1 ?_; (with_reducible repeat (first | refine QN.B1 ?_ | refine QN.N1 ?_))
  refine WP.cut (X := Nat × List Clk) (fun q => [(0, .slice A n c), (1, .int .i64 n), (2, .func (.func g) #[] cb.toArray), (6, .int .i64 B), (7, .int .i64 ((q.1 * (2 * B) : Nat) : Int))])
    (fun q m' => CR m' S A n c q.2 ∧ Ext m S m' ∧ Seg 0 n l q.2 ∧ Done (ltOf cf) (2 * B) q.2 q.1 ∧ Go.Mrg.Rest (ltOf cf) B q.2 n (2 * q.1) ∧ q.1 * (2 * B) ≤ n ∧ n < q.1 * (2 * B) + 2 * B) ?_ ?_
  · refine WP.B1 ?_
    have h07 : ((0 : Nat) * (2 * B) : Nat) = 0 := Nat.zero_mul _
    refine (WP.loop (X := Nat × List Clk) (fun q => [(0, .slice A n c), (1, .int .i64 n), (2, .func (.func g) #[] cb.toArray), (6, .int .i64 B), (7, .int .i64 ((q.1 * (2 * B) : Nat) : Int)), (8, .int .i64 ((q.1 * (2 * B) + 2 * B : Nat) : Int))])
      (fun q m' => CR m' S A n c q.2 ∧ Ext m S m' ∧ Seg 0 n l q.2 ∧ Done (ltOf cf) (2 * B) q.2 q.1 ∧ Go.Mrg.Rest (ltOf cf) B q.2 n (2 * q.1) ∧ q.1 * (2 * B) ≤ n) (fun q => n - q.1 * (2 * B)) (0, l2)
      (Sub.C1 rfl (Sub.C1 rfl (Sub.C1 rfl (Sub.C1 rfl (Sub.C1 (by simp only [h07]; rfl) (Sub.C1 (by simp only [h07, Nat.zero_add]; rfl) Sub.nil)))))) ⟨hO2, hE2, hSg, Done.zero _ _ _, hR2, by show 0 * (2 * B) ≤ n; omega⟩ ?_)
    clear hO2 hE2 hSg hR2
    rintro ⟨q, l3⟩ m3 ⟨hO, hE, hSg, hD, hR, hq⟩
    simp only at hO hSg hD hR hq
    obtain ⟨a, ha⟩ : ∃ a, q * (2 * B) = a := ⟨_, rfl⟩
    have ha1 : (q + 1) * (2 * B) = a + 2 * B := by rw [Nat.succ_mul, ha]
    obtain ⟨t1, t2⟩ := hR.two
    rw [ha] at t1 t2 hq
    refine WP.sub (e' := [(0, .slice A n c), (1, .int .i64 n), (2, .func (.func g) #[] cb.toArray), (6, .int .i64 B), (7, .int .i64 (a : Int)), (8, .int .i64 ((a + 2 * B : Nat) : Int))]) (Sub.C1 rfl (Sub.C1 rfl (Sub.C1 rfl (Sub.C1 rfl (Sub.C1 (by rw [← ha]; rfl) (Sub.C1 (by rw [← ha]; rfl) Sub.nil)))))) ?_
    (with_reducible repeat (first | refine WP.S1 ?_ | refine WP.B1 ?_ | refine WP.R1 ?_))
    refine RL.pure T_ok 3 rfl ?_
    by_cases hc : a + 2 * B ≤ n
    · refine RL.eqv (v' := .bool true) (congrArg _ (decide_eq_true (by omega))) ?_
      refine RL.N1 ?_; (with_reducible repeat (first | refine QN.B1 ?_ | refine QN.N1 ?_ | refine WP.S1 ?_ | refine WP.B1 ?_ | refine WP.R1 ?_))
      refine WP.condT rfl ?_
      refine WP.skip ?_; (with_reducible repeat (first | refine QN.B1 ?_ | refine QN.N1 ?_ | refine WP.S1 ?_ | refine WP.B1 ?_ | refine WP.R1 ?_))
      refine RL.pure T_ok 5 rfl ?_
      refine RL.eqv (v' := .int .i64 ((a + B : Nat) : Int)) (congrArg _ (by rw [wrap_i64_in _ (by omega) (by omega)]; omega)) ?_
      refine RL.A1 T_ok rfl ?_
      rw [Nat.min_eq_left (by omega)] at t1 t2
      refine RL.call (fi := []) (ca := []) rfl rfl rfl rfl (merge_c S A n c g cb cf K hC hS hn (a + 2 * B - a) m3 l3 a (a + B) (a + 2 * B) (Nat.le_refl _) (hC.keep _ _ hK hE) hO (by omega) (by omega) hc t1 (by rw [show a + 2 * B = a + B + B by omega]; exact t2)) ?_
      rintro _ m4 ⟨rfl, hE4, l4, hO4, hS4, hU4⟩
      refine ⟨_, rfl, ?_⟩
      refine RL.N1 ?_; (with_reducible repeat (first | refine QN.B1 ?_ | refine QN.N1 ?_ | refine WP.S1 ?_ | refine WP.B1 ?_ | refine WP.R1 ?_))
      refine RL.A1 T_ok rfl ?_
      refine RL.N1 ?_; (with_reducible repeat (first | refine QN.B1 ?_ | refine QN.N1 ?_ | refine WP.S1 ?_ | refine WP.B1 ?_ | refine WP.R1 ?_))
      refine RL.pure T_ok 3 rfl ?_
      refine RL.eqv (v' := .int .i64 ((2 * B : Nat) : Int)) (congrArg _ (by rw [wrap_i64_in _ (by omega) (by omega)]; omega)) ?_
      refine RL.pure T_ok 1 rfl ?_
      refine RL.eqv (v' := .int .i64 ((a + 2 * B + 2 * B : Nat) : Int)) (congrArg _ (by rw [wrap_i64_in _ (by omega) (by omega)]; omega)) ?_
      refine RL.A1 T_ok rfl ?_
      refine RL.N1 ?_
      (with_reducible repeat (first | refine QN.B1 ?_ | refine QN.N1 ?_))
      rw [← ha] at hS4 hU4
      exact QN.round (q + 1, l4) (Sub.C1 rfl (Sub.C1 rfl (Sub.C1 rfl (Sub.C1 rfl (Sub.C1 (by rw [ha1]; rfl) (Sub.C1 (by rw [ha1]; rfl) Sub.nil)))))) ⟨hO4, hE.trans hE4 (fun k hk => .inl hk), hSg.trans (hS4.mono (by omega) (by rw [ha]; omega)), hD.next hS4 hU4, hR.next hS4, by show (q + 1) * (2 * B) ≤ n; rw [ha1]; exact hc⟩ (by show n - (q + 1) * (2 * B) < n - q * (2 * B); rw [ha1, ha]; omega)
    · refine RL.eqv (v' := .bool false) (congrArg _ (decide_eq_false (by omega))) ?_
      refine RL.N1 ?_; (with_reducible repeat (first | refine QN.B1 ?_ | refine QN.N1 ?_ | refine WP.S1 ?_ | refine WP.B1 ?_ | refine WP.R1 ?_))
      refine WP.condF rfl ?_
      refine WP.exit ?_
      (with_reducible repeat (first | refine QN.tx ?_ | refine QN.bx ?_ | refine QN.B1 ?_))
      exact QN.cutEnd (q, l3) (Sub.C1 rfl (Sub.C1 rfl (Sub.C1 rfl (Sub.C1 rfl (Sub.C1 (by rw [ha]; rfl) Sub.nil))))) ⟨hO, hE, hSg, hD, hR, by show q * (2 * B) ≤ n; omega, by show n < q * (2 * B) + 2 * B; omega⟩
  clear hO2 hE2 hSg hR2
  rintro ⟨q, l3⟩ m3 ⟨hO, hE, hSg, hD, hR, hq, hq2⟩
  simp only at hO hSg hD hR hq hq2
  obtain ⟨a, ha⟩ : ∃ a, q * (2 * B) = a := ⟨_, rfl⟩
  obtain ⟨t1, t2⟩ := hR.two
  rw [ha] at t1 t2
  refine WP.sub (e' := [(0, .slice A n c), (1, .int .i64 n), (2, .func (.func g) #[] cb.toArray), (6, .int .i64 B), (7, .int .i64 (a : Int))]) (Sub.C1 rfl (Sub.C1 rfl (Sub.C1 rfl (Sub.C1 rfl (Sub.C1 (by rw [← ha]; rfl) Sub.nil))))) ?_
  refine WP.cut (X := List Clk) (fun _ => [(0, .slice A n c), (1, .int .i64 n), (2, .func (.func g) #[] cb.toArray), (6, .int .i64 B)]) (fun l4 m' => CR m' S A n c l4 ∧ Ext m S m' ∧ Seg (q * (2 * B)) n l3 l4 ∧ Up (ltOf cf) l4 (q * (2 * B)) n) ?_ ?_
  · (with_reducible repeat (first | refine WP.S1 ?_ | refine WP.B1 ?_ | refine WP.R1 ?_))
    refine RL.pure T_ok 3 rfl ?_
    refine RL.eqv (v' := .int .i64 ((a + B : Nat) : Int)) (congrArg _ (by rw [wrap_i64_in _ (by omega) (by omega)]; omega)) ?_
    refine RL.A1 T_ok rfl ?_
    refine RL.N1 ?_; (with_reducible repeat (first | refine QN.B1 ?_ | refine QN.N1 ?_ | refine WP.S1 ?_ | refine WP.B1 ?_ | refine WP.R1 ?_))
    refine RL.pure T_ok 3 rfl ?_
    by_cases hc : a + B < n
    · refine RL.eqv (v' := .bool true) (congrArg _ (decide_eq_true (by omega))) ?_
      refine RL.N1 ?_; (with_reducible repeat (first | refine QN.B1 ?_ | refine QN.N1 ?_ | refine WP.S1 ?_ | refine WP.B1 ?_ | refine WP.R1 ?_))
      refine WP.condT rfl ?_
      (with_reducible repeat (first | refine WP.S1 ?_ | refine WP.B1 ?_ | refine WP.R1 ?_))
      refine RL.A1 T_ok rfl ?_
      rw [Nat.min_eq_left (by omega)] at t1
      rw [Nat.min_eq_right (by omega)] at t2
      refine RL.call (fi := []) (ca := []) rfl rfl rfl rfl (merge_c S A n c g cb cf K hC hS hn (n - a) m3 l3 a (a + B) n (Nat.le_refl _) (hC.keep _ _ hK hE) hO (by omega) hc (Nat.le_refl _) t1 t2) ?_
      rintro _ m4 ⟨rfl, hE4, l4, hO4, hS4, hU4⟩
      refine ⟨_, rfl, ?_⟩
      exact RL.N1 (QN.cutEnd l4 (Sub.C1 rfl (Sub.C1 rfl (Sub.C1 rfl (Sub.C1 rfl Sub.nil)))) ⟨hO4, hE.trans hE4 (fun k hk => .inl hk), by rw [ha]; exact hS4, by rw [ha]; exact hU4⟩)
    · refine RL.eqv (v' := .bool false) (congrArg _ (decide_eq_false (by omega))) ?_
      refine RL.N1 ?_; (with_reducible repeat (first | refine QN.B1 ?_ | refine QN.N1 ?_ | refine WP.S1 ?_ | refine WP.B1 ?_ | refine WP.R1 ?_))
      refine WP.condF rfl ?_
      refine WP.skip ?_
      rw [Nat.min_eq_right (by omega)] at t1
      exact QN.cutEnd l3 (Sub.C1 rfl (Sub.C1 rfl (Sub.C1 rfl (Sub.C1 rfl Sub.nil)))) ⟨hO, hE, Seg.refl _ _ _, by rw [ha]; exact t1⟩
  rintro l4 m4 ⟨hO4, hE4, hS4, hU4⟩
  (with_reducible repeat (first | refine WP.S1 ?_ | refine WP.B1 ?_ | refine WP.R1 ?_))
  refine RL.pure T_ok 2 rfl ?_
  refine RL.eqv (v' := .int .i64 ((B * 2 : Nat) : Int)) (congrArg _ (by rw [wrap_i64_in _ (by omega) (by omega)]; omega)) ?_
  refine RL.A1 T_ok rfl ?_
  refine RL.N1 ?_
  (with_reducible repeat (first | refine QN.B1 ?_ | refine QN.N1 ?_))
  exact QN.round (B * 2, l4) (Sub.C1 rfl (Sub.C1 rfl (Sub.C1 rfl (Sub.C1 rfl Sub.nil)))) ⟨by show 1 ≤ B * 2; omega, hO4, hE4, hSg.trans (hS4.mono (by omega) (Nat.le_refl _)), by rw [show B * 2 = 2 * B by omega]; exact hD.last hS4 hU4 hq hq2⟩ (by show n - B * 2 < n - B; omega)
theorem sortStable_c (S : List Nat) (v : Value) (g : FuncId) (cb : List Value) (cf : Clk → Clk → Int) (K : World → Prop) (hC : Cmp Tryz.prog S g cb cf K) (hS : SWO (ltOf cf))
    (m : World) (l : List Clk) (hK : K m) (h : Ev.Own m S 46 2 v l.length (l.flatMap cC)) (hn : l.length < 1000000000) :
    FnR Tryz.prog 92 [v, .func (.func g) #[] cb.toArray] m fun r m' => r = .tuple #[] ∧ Ext m S m' ∧ ∃ l' : List Clk, Ev.Own m' S 46 2 v l'.length (l'.flatMap cC) ∧ l'.Perm l ∧ l'.Pairwise (fun x y => ltOf cf y x = false) := by
  obtain ⟨A, c, rfl, _⟩ := h.shape
  refine FnE.enter ⟨_, Tryz.func92, by kernel_rfl, by kernel_rfl⟩ Tryz.func92 rfl rfl ?_
  (with_reducible repeat (first | refine WP.S1 ?_ | refine WP.B1 ?_ | refine WP.R1 ?_))
  refine RL.A1 T_ok rfl ?_
  refine RL.call (fi := []) (ca := []) rfl rfl rfl rfl (stable_c S A l.length c g cb cf K hC hS hn m l hK h) ?_
  rintro _ m2 ⟨rfl, hE2, l2, hO2, hP, hU⟩
  refine ⟨_, rfl, ?_⟩
  refine RL.N1 (QN.end0 rfl ⟨_, rfl, rfl, hE2, l2, by rw [hP.length_eq]; exact hO2, hP, ?_⟩)
  rw [List.pairwise_iff_getElem]
  intro i j hi hj hij
  exact hU i j _ _ (Nat.zero_le _) hij (by rw [← hP.length_eq]; exact hj) (List.getElem?_eq_getElem hi) (List.getElem?_eq_getElem hj)
end Go.Proofs.YtmjpcaiehfimgaaGreatDoor
end
section
namespace Go.Proofs.YtmjpcaiehfimgaaGreatDoor
open Go.RowKit Go.Ev Go.Ids Go.Mrg Go.Sort
theorem eqK_run (x y : Clk) (w : World) : (binOp .neq 46 (cV x) (cV y)).run Tryz.prog w = .ok (.bool (decide (x ≠ y))) w := by
  have hS : Tryz.prog.underlying 46 = some (.struct (Tryz.prog.fieldsOf 46)) := by kernel_rfl
  have hp : Tryz.prog.stoodInHeld 46 = false := by kernel_rfl
  have u37 := Tryz.underlying22
  have a37 := Tryz.isAgg22
  have z37 := Tryz.sizeOf22
  simp only [cV, cC]
  rw [run_neq_struct, show (10000 : Nat) = 9999 + 1 from rfl, run_equalIn_agg w 9999 46 _ _ hS hp]
  simp only [Program.fieldsOf, Tryz.underlying46]
  go_simp
  obtain ⟨a, b⟩ := x
  obtain ⟨a', b'⟩ := y
  by_cases h1 : a = a' <;> by_cases h2 : b = b' <;> simp [h1, h2, Int.natCast_inj]
theorem eqK_guard (x y : Clk) (ox oy : Operand) (w : World) : (eqGuard .neq 46 ox oy (cV x) (cV y)).run Tryz.prog w = .ok () w := run_eqGuard_agg w .neq 46 ox oy _ _ (by kernel_rfl)
theorem clocks_c (m : World) (v u : Value) (xs ys : List Clk) (h : Cs m [] v xs) (h' : Cs m [] u ys) (hl : xs.length < 1000000000) :
    FnR Tryz.prog 38 [v, u] m fun r m' => r = .bool (decide (xs = ys)) ∧ m' = m := by
  obtain ⟨A, c, rfl, _, _⟩ := h.shape
  obtain ⟨B, c', rfl, _, _⟩ := h'.shape
  refine FnE.enter ⟨_, Tryz.func38, by kernel_rfl, by kernel_rfl⟩ Tryz.func38 rfl rfl ?_
  (with_reducible repeat (first | refine WP.S1 ?_ | refine WP.B1 ?_ | refine WP.R1 ?_))
  refine RL.A1 T_ok rfl ?_
  refine RL.N1 ?_; (with_reducible repeat (first | refine QN.B1 ?_ | refine QN.N1 ?_ | refine WP.S1 ?_ | refine WP.B1 ?_ | refine WP.R1 ?_))
  refine RL.pure T_ok 4 rfl ?_
  refine RL.pure T_ok 1 rfl ?_
  refine RL.eqv (v' := .bool (decide (xs.length ≠ ys.length))) (congrArg _ (bne_nat' _ _)) ?_
  refine RL.N1 ?_; (with_reducible repeat (first | refine QN.B1 ?_ | refine QN.N1 ?_ | refine WP.S1 ?_ | refine WP.B1 ?_ | refine WP.R1 ?_))
  refine WP.cond rfl (fun hc => ?_) (fun hc => ?_)
  · have hc : xs.length ≠ ys.length := of_decide_eq_true hc
    (with_reducible repeat (first | refine WP.S1 ?_ | refine WP.B1 ?_ | refine WP.R1 ?_))
    refine RL.A1 T_ok rfl ?_
    refine RL.N1 ?_; (with_reducible repeat (first | refine QN.B1 ?_ | refine QN.N1 ?_ | refine WP.S1 ?_ | refine WP.B1 ?_ | refine WP.R1 ?_))
    refine WP.ret ?_; (with_reducible repeat (first | refine QN.tr ?_ | refine QN.br ?_))
    exact QN.ret1 rfl rfl ⟨_, rfl, by rw [decide_eq_false (fun h => hc (by rw [h]))], rfl⟩
  have hlen : xs.length = ys.length := Classical.not_not.1 (of_decide_eq_false hc)
  refine WP.skip ?_; (with_reducible repeat (first | refine QN.B1 ?_ | refine QN.N1 ?_ | refine WP.S1 ?_ | refine WP.B1 ?_ | refine WP.R1 ?_))
  refine RL.A1 T_ok rfl ?_
  refine RL.N1 ?_; (with_reducible repeat (first | refine QN.B1 ?_ | refine QN.N1 ?_ | refine WP.S1 ?_ | refine WP.B1 ?_ | refine WP.R1 ?_))
  refine WP.loop (X := Nat) (fun i => [(0, .slice A xs.length c), (1, .slice B ys.length c'), (5, .int .i64 i)]) (fun i m' => i ≤ xs.length ∧ xs.take i = ys.take i ∧ m' = m) (fun i => xs.length - i) 0
    (Sub.C1 rfl (Sub.C1 rfl (Sub.C1 rfl Sub.nil))) ⟨by simp, by simp, rfl⟩ ?_
  rintro i m1 ⟨hi, ht, rfl⟩
  (with_reducible repeat (first | refine WP.S1 ?_ | refine WP.B1 ?_ | refine WP.R1 ?_))
  refine RL.A1 T_ok rfl ?_
  refine RL.N1 ?_; (with_reducible repeat (first | refine QN.B1 ?_ | refine QN.N1 ?_ | refine WP.S1 ?_ | refine WP.B1 ?_ | refine WP.R1 ?_))
  refine WP.cond rfl (fun hc => ?_) (fun hc => ?_)
  · have hc : i < xs.length := by have := of_decide_eq_true hc; omega
    have hcb : i < ys.length := by omega
    refine WP.skip ?_; (with_reducible repeat (first | refine QN.B1 ?_ | refine QN.N1 ?_ | refine WP.S1 ?_ | refine WP.B1 ?_ | refine WP.R1 ?_))
    refine WP.drawQ (fun m' => m' = m1) [] (by kernel_rfl) rfl (by with_reducible repeat (first | exact PanicOk.body | refine PanicOk.then_ ?_ | refine PanicOk.block_ ?_)) (fun hQ => ?_)
    refine RH.pure T_ok hQ [0, 1] (by kernel_rfl) rfl ?_
    obtain ⟨ad, rfl, hx⟩ := h.cell i hc
    obtain ⟨bd, rfl, hy⟩ := h'.cell i hcb
    refine RH.indexAddr T_ok hQ 2 (k := i) rfl (by kernel_rfl) rfl rfl rfl rfl rfl rfl rfl hc rfl ?_
    refine RH.loadAgg T_ok hQ 3 (cC xs[i]) (fun m' hm' => by rw [hm']; exact hx) rfl (by kernel_rfl) rfl rfl rfl rfl ?_
    refine RH.pure T_ok hQ [4, 5] (by kernel_rfl) rfl ?_
    refine RH.indexAddr T_ok hQ 6 (k := i) rfl (by kernel_rfl) rfl rfl rfl rfl rfl rfl rfl hcb rfl ?_
    refine RH.loadAgg T_ok hQ 7 (cC ys[i]) (fun m' hm' => by rw [hm']; exact hy) rfl (by kernel_rfl) rfl rfl rfl rfl ?_
    refine RH.binOp (eqK_run xs[i] ys[i]) (eqK_guard xs[i] ys[i] _ _) hQ 8 rfl (by kernel_rfl) rfl rfl rfl rfl ?_
    refine RH.done (by kernel_rfl) (fun _ => ?_)
    (with_reducible repeat (first | refine QN.B1 ?_ | refine QN.N1 ?_))
    by_cases hab : xs[i] = ys[i]
    · refine WP.condF (congrArg (fun q => some (Value.bool q)) (decide_eq_false (not_not_intro hab))) ?_
      refine WP.skip ?_; (with_reducible repeat (first | refine QN.B1 ?_ | refine QN.N1 ?_ | refine WP.S1 ?_ | refine WP.B1 ?_ | refine WP.R1 ?_))
      refine RL.A1 T_ok rfl ?_
      refine RL.N1 (QN.round (i + 1) (Sub.C1 rfl (Sub.C1 rfl (Sub.C1 ?_ Sub.nil))) ⟨by omega, ?_, rfl⟩ (by omega))
      · show some (Value.int .i64 (IntKind.i64.wrap ((i : Int) + 1))) = some (Value.int .i64 ((i + 1 : Nat) : Int))
        rw [wrap_i64_in _ (by omega) (by omega)]; rfl
      · rw [List.take_succ_eq_append_getElem hc, List.take_succ_eq_append_getElem hcb, ht, hab]
    · refine WP.condT (congrArg (fun q => some (Value.bool q)) (decide_eq_true hab)) ?_
      (with_reducible repeat (first | refine WP.S1 ?_ | refine WP.B1 ?_ | refine WP.R1 ?_))
      refine RL.A1 T_ok rfl ?_
      refine RL.N1 ?_; (with_reducible repeat (first | refine QN.B1 ?_ | refine QN.N1 ?_ | refine WP.S1 ?_ | refine WP.B1 ?_ | refine WP.R1 ?_))
      refine WP.ret ?_; (with_reducible repeat (first | refine QN.tr ?_ | refine QN.br ?_))
      refine QN.ret1 rfl rfl ⟨_, rfl, ?_, rfl⟩
      rw [decide_eq_false]
      intro h; subst h; exact hab rfl
  · have hc : i = xs.length := by have := of_decide_eq_false hc; omega
    subst hc
    rw [List.take_length, hlen, List.take_length] at ht
    refine WP.exit ?_; (with_reducible repeat (first | refine QN.tx ?_ | refine QN.bx ?_ | refine QN.block_far rfl ?_ | refine QN.B1 ?_ | refine QN.N1 ?_)); (with_reducible repeat (first | refine WP.S1 ?_ | refine WP.B1 ?_ | refine WP.R1 ?_))
    refine RL.A1 T_ok rfl ?_
    refine RL.N1 ?_; (with_reducible repeat (first | refine QN.B1 ?_ | refine QN.N1 ?_ | refine WP.S1 ?_ | refine WP.B1 ?_ | refine WP.R1 ?_))
    refine WP.ret ?_; (with_reducible repeat (first | refine QN.tr ?_ | refine QN.br ?_))
    exact QN.ret1 rfl rfl ⟨_, rfl, by rw [decide_eq_true ht], rfl⟩
def VMade (m : World) (r : Value) (l : List Clk) (m' : World) : Prop := ∃ S', Ev.Own m' S' 46 2 r l.length (l.flatMap cC) ∧ New m S' m'
theorem VMade.ext {m m' : World} {r : Value} {l : List Clk} (h : VMade m r l m') : Ext m [] m' := by obtain ⟨_, _, h⟩ := h; exact h.1
theorem VMade.cs {m m' : World} {r : Value} {l : List Clk} (h : VMade m r l m') : Cs m' [] r l := by obtain ⟨_, h, _⟩ := h; exact h.sl (by simp)
theorem cloneK_c (m : World) (v : Value) (l : List Clk) (h : Cs m [] v l) (hl : l.length < 1000000000) : FnR Tryz.prog 91 [v] m fun r m' => VMade m r l m' := by
  obtain ⟨A, c, rfl, _, _⟩ := h.shape
  refine FnE.enter ⟨_, Tryz.func91, by kernel_rfl, by kernel_rfl⟩ Tryz.func91 rfl rfl ?_
  (with_reducible repeat (first | refine WP.S1 ?_ | refine WP.B1 ?_ | refine WP.R1 ?_))
  refine RL.A1 T_ok rfl ?_
  refine RL.N1 ?_; (with_reducible repeat (first | refine QN.B1 ?_ | refine QN.N1 ?_ | refine WP.S1 ?_ | refine WP.B1 ?_ | refine WP.R1 ?_))
  refine RL.A1 T_ok rfl ?_
  refine RL.N1 ?_; (with_reducible repeat (first | refine QN.B1 ?_ | refine QN.N1 ?_ | refine WP.S1 ?_ | refine WP.B1 ?_ | refine WP.R1 ?_))
  refine WP.cond rfl (fun hc => ?_) (fun hc => ?_)
  · have hA : A = none := by simpa using hc
    subst hA
    have hl0 : l = [] := by
      rcases l with _ | ⟨x, l⟩
      · rfl
      · obtain ⟨ad, hh, _⟩ := h.cell 0 (by simp)
        cases hh
    subst hl0
    (with_reducible repeat (first | refine WP.S1 ?_ | refine WP.B1 ?_ | refine WP.R1 ?_))
    refine RL.A1 T_ok rfl ?_
    refine RL.N1 ?_; (with_reducible repeat (first | refine QN.B1 ?_ | refine QN.N1 ?_ | refine WP.S1 ?_ | refine WP.B1 ?_ | refine WP.R1 ?_))
    refine WP.ret ?_; (with_reducible repeat (first | refine QN.tr ?_ | refine QN.br ?_))
    exact QN.ret1 rfl rfl ⟨_, rfl, [], Own.empty _ _ _ _, Ext.refl _ _, FpNew.nil _ _⟩
  · refine WP.skip ?_; (with_reducible repeat (first | refine QN.B1 ?_ | refine QN.N1 ?_ | refine WP.S1 ?_ | refine WP.B1 ?_ | refine WP.R1 ?_))
    refine RL.buildSlice0 T_ok rfl rfl (fun b1 m1 hb1 hC1 => ⟨_, rfl, ?_⟩)
    have hE1 : Ext m [] m1 := hC1
    have hSl : Sl m1 [] 2 (.slice A l.length c) (l.flatMap cC) := h.ext0 hE1
    refine RL.A1 T_ok rfl ?_
    refine RL.append T_ok (Own.empty _ _ _ _) (l.flatMap cC) (Src.of_sl hSl) rfl rfl rfl rfl rfl (csC_len l) (csC_one l) (by unfold maxLen; omega) (by show (0 + _) * 16 ≤ _; omega) ?_
    intro v2 m2 S2 hO2 hE2 hF2
    refine ⟨_, rfl, ?_⟩
    rw [Nat.zero_add, List.nil_append] at hO2
    refine RL.A1 T_ok rfl ?_
    refine RL.N1 ?_; (with_reducible repeat (first | refine QN.B1 ?_ | refine QN.N1 ?_ | refine WP.S1 ?_ | refine WP.B1 ?_ | refine WP.R1 ?_))
    refine WP.ret ?_; (with_reducible repeat (first | refine QN.tr ?_ | refine QN.br ?_))
    exact QN.ret1 rfl rfl ⟨_, rfl, S2, hO2, hE1.trans hE2 (by simp), hF2.trans' hE1⟩
theorem keyK_c (m : World) (x : Clk) : FnR Tryz.prog 68 [cV x] m fun r m' => r = .int .u64 x.c ∧ Ext m [] m' := by
  refine FnE.enter ⟨_, Tryz.func68, by kernel_rfl, by kernel_rfl⟩ Tryz.func68 rfl rfl ?_
  (with_reducible repeat (first | refine WP.S1 ?_ | refine WP.B1 ?_ | refine WP.R1 ?_))
  refine RL.box rfl rfl (fun b m1 hb hC => ⟨_, rfl, ?_⟩)
  have hB : Blk m1 b 46 (cC x) := hC.here
  have hE1 : Ext m [] m1 := hC.new (by omega)
  clear hC
  refine RL.A1 T_ok rfl ?_
  refine RL.N1 ?_; (with_reducible repeat (first | refine QN.B1 ?_ | refine QN.N1 ?_ | refine WP.S1 ?_ | refine WP.B1 ?_ | refine WP.R1 ?_))
  refine RL.pure T_ok 1 rfl ?_
  refine RL.load T_ok rfl rfl rfl (hB.cell 0 rfl) rfl ?_
  refine RL.A1 T_ok rfl ?_
  refine RL.N1 ?_; (with_reducible repeat (first | refine QN.B1 ?_ | refine QN.N1 ?_ | refine WP.S1 ?_ | refine WP.B1 ?_ | refine WP.R1 ?_))
  refine WP.ret ?_; (with_reducible repeat (first | refine QN.tr ?_ | refine QN.br ?_))
  exact QN.ret1 rfl rfl ⟨_, rfl, rfl, hE1⟩
def cfK (x y : Clk) : Int := cmpN x.c y.c
theorem ltOf_cfK (x y : Clk) : Go.Proofs.ltOf cfK x y = true ↔ x.c < y.c := by
  unfold Go.Proofs.ltOf cfK cmpN
  rw [decide_eq_true_eq]
  split
  · omega
  · split <;> omega
theorem swoK : SWO (Go.Proofs.ltOf cfK) where
  irrefl x := by
    rw [← Bool.not_eq_true, ltOf_cfK]; omega
  trans x y z := by
    rw [ltOf_cfK, ltOf_cfK, ltOf_cfK]; omega
  ntrans x y z := by
    rw [← Bool.not_eq_true, ← Bool.not_eq_true, ← Bool.not_eq_true, ltOf_cfK, ltOf_cfK, ltOf_cfK]; omega
theorem cmpK_c (m : World) (x y : Clk) (bk : Nat) (hK : Blk m bk 104 [.func (.func 68) #[] #[]]) : FnR Tryz.prog 93 [cV x, cV y, .pointer (some ⟨bk, 0, none⟩)] m fun r m' => r = .int .i64 (cfK x y) ∧ Ext m [] m' := by
  refine FnE.enter ⟨_, Tryz.func93, by kernel_rfl, by kernel_rfl⟩ Tryz.func93 rfl rfl ?_
  (with_reducible repeat (first | refine WP.S1 ?_ | refine WP.B1 ?_ | refine WP.R1 ?_))
  refine RL.box rfl rfl (fun b1 m1 hb1 hC1 => ⟨_, rfl, ?_⟩)
  have hB1 : Blk m1 b1 46 (cC x) := hC1.here
  have hE1 : Ext m [] m1 := hC1.new (by omega)
  clear hC1
  refine RL.box rfl rfl (fun b2 m2 hb2 hC2 => ⟨_, rfl, ?_⟩)
  have hB2 : Blk m2 b2 46 (cC y) := hC2.here
  have hE2 : Ext m1 [] m2 := hC2.new (by omega)
  clear hC2
  replace hB1 := hB1.ext hE2 (by simp)
  replace hE2 := hE1.trans hE2 (by simp)
  replace hK := hK.ext hE2 (by simp)
  refine RL.A1 T_ok rfl ?_
  refine RL.N1 ?_; (with_reducible repeat (first | refine QN.B1 ?_ | refine QN.N1 ?_))
  refine WP.S1 ?_
  have ad0 : ∀ (b : Nat) (j : Nat), (⟨b, 0, none⟩ : Addr).add j = ⟨b, j, none⟩ := fun b j => by rw [add_block, Nat.zero_add]
  refine WP.drawQ (fun m' => Ext m2 [] m') [] (by kernel_rfl) (Ext.refl _ _) (by with_reducible repeat (first | exact PanicOk.body | refine PanicOk.then_ ?_ | refine PanicOk.block_ ?_)) (fun hQ => ?_)
  refine RH.load T_ok hQ 0 (fun m' hm' => (hK.ext hm' (by simp)).cell 0 rfl) rfl (by kernel_rfl) rfl rfl rfl rfl ?_
  refine RH.loadAgg T_ok hQ 1 (cC x) (fun m' hm' j u hu => by rw [ad0]; exact (hB1.ext hm' (by simp)).cell _ hu) rfl (by kernel_rfl) rfl rfl rfl rfl ?_
  refine RH.load T_ok hQ 3 (fun m' hm' => (hK.ext hm' (by simp)).cell 0 rfl) rfl (by kernel_rfl) rfl rfl rfl rfl ?_
  refine RH.loadAgg T_ok hQ 4 (cC y) (fun m' hm' j u hu => by rw [ad0]; exact (hB2.ext hm' (by simp)).cell _ hu) rfl (by kernel_rfl) rfl rfl rfl rfl ?_
  refine RH.only 2 rfl (by kernel_rfl) (fun _ => ?_)
  refine RL.call (fi := []) (ca := []) rfl rfl rfl rfl (keyK_c m2 x) ?_
  rintro _ m3 ⟨rfl, hE3⟩
  refine ⟨_, rfl, RL.N1 (RH.cont hE3 ?_)⟩
  refine RH.only 5 rfl (by kernel_rfl) (fun _ => ?_)
  refine RL.call (fi := []) (ca := []) rfl rfl rfl rfl (keyK_c m3 y) ?_
  rintro _ m4 ⟨rfl, hE4⟩
  replace hE4 := hE3.trans hE4 (by simp)
  refine ⟨_, rfl, RL.N1 (RH.cont hE4 ?_)⟩
  refine RH.only 6 rfl (by kernel_rfl) (fun _ => ?_)
  refine RL.call (fi := []) (ca := []) rfl rfl rfl rfl (compare_c m4 x.c y.c) ?_
  rintro _ m5 ⟨rfl, hm5⟩
  subst hm5
  refine ⟨_, rfl, RL.N1 (RH.cont hE4 ?_)⟩
  refine RH.pure T_ok hQ [7] (by kernel_rfl) rfl ?_
  refine RH.done (by kernel_rfl) (fun _ => ?_)
  (with_reducible repeat (first | refine QN.B1 ?_ | refine QN.N1 ?_))
  refine WP.ret ?_; (with_reducible repeat (first | refine QN.tr ?_ | refine QN.br ?_))
  exact QN.ret1 rfl rfl ⟨_, rfl, rfl, hE2.trans hE4 (by simp)⟩
theorem by_c (m : World) (v : Value) (l : List Clk) (h : Cs m [] v l) (hl : l.length < 1000000000) :
    FnR Tryz.prog 67 [v, .func (.func 68) #[] #[]] m fun r m' => ∃ l', l'.Perm l ∧ l'.Pairwise (fun x y => x.c ≤ y.c) ∧ VMade m r l' m' := by
  refine FnE.enter ⟨_, Tryz.func67, by kernel_rfl, by kernel_rfl⟩ Tryz.func67 rfl rfl ?_
  (with_reducible repeat (first | refine WP.S1 ?_ | refine WP.B1 ?_ | refine WP.R1 ?_))
  refine RL.box rfl rfl (fun b m1 hb hC => ⟨_, rfl, ?_⟩)
  have hB : Blk m1 b 104 [.func (.func 68) #[] #[]] := hC.here
  have hE1 : Ext m [] m1 := hC.new (by omega)
  clear hC
  refine RL.A1 T_ok rfl ?_
  refine RL.N1 ?_; (with_reducible repeat (first | refine QN.B1 ?_ | refine QN.N1 ?_ | refine WP.S1 ?_ | refine WP.B1 ?_ | refine WP.R1 ?_))
  refine RL.A1 T_ok rfl ?_
  refine RL.call (fi := []) (ca := []) rfl rfl rfl rfl (cloneK_c m1 v l (h.ext0 hE1) hl) ?_
  rintro v2 m2 ⟨S2, hO2, hN2⟩
  refine ⟨_, rfl, ?_⟩
  have hbS : b ∉ S2 := fun hh => by have := hN2.ge b hh; have := hB.lt; omega
  replace hB := hB.ext hN2.1 (by simp)
  refine RL.A1 T_ok rfl ?_
  refine RL.N1 ?_; (with_reducible repeat (first | refine QN.B1 ?_ | refine QN.N1 ?_ | refine WP.S1 ?_ | refine WP.B1 ?_ | refine WP.R1 ?_))
  refine RL.A1 T_ok rfl ?_
  refine RL.call (fi := []) (ca := []) rfl rfl rfl rfl (sortStable_c S2 v2 93 [.pointer (some ⟨b, 0, none⟩)] cfK (fun W => Blk W b 104 [.func (.func 68) #[] #[]]) ⟨fun W x y hW => cmpK_c W x y b hW, fun W W' hW hE => hW.ext hE hbS⟩ swoK m2 l hB hO2 hl) ?_
  rintro _ m3 ⟨rfl, hE3, l3, hO3, hP3, hS3⟩
  refine ⟨_, rfl, ?_⟩
  refine RL.N1 ?_; (with_reducible repeat (first | refine QN.B1 ?_ | refine QN.N1 ?_ | refine WP.S1 ?_ | refine WP.B1 ?_ | refine WP.R1 ?_))
  refine RL.A1 T_ok rfl ?_
  refine RL.N1 ?_; (with_reducible repeat (first | refine QN.B1 ?_ | refine QN.N1 ?_ | refine WP.S1 ?_ | refine WP.B1 ?_ | refine WP.R1 ?_))
  refine WP.ret ?_; (with_reducible repeat (first | refine QN.tr ?_ | refine QN.br ?_))
  refine QN.ret1 rfl rfl ⟨_, rfl, l3, hP3, hS3.imp (fun {x y} hxy => ?_), S2, hO3, ?_, hN2.2.trans' hE1⟩
  · rw [← Bool.not_eq_true, ltOf_cfK] at hxy; omega
  · exact (hE1.trans hN2.1 (by simp)).trans hE3 (fun k hk => .inr (by have := hN2.ge k hk; have := hE1.size; omega))
theorem csC_setK (a : List Clk) (y : Clk) (z : Nat) : ((a ++ [y]).flatMap cC).set (a.length * 2 + 1) (.int .u64 z) = (a ++ [{ y with k := z }]).flatMap cC := by
  rw [List.flatMap_append, List.set_append_right _ _ (by rw [csC_len]; omega), csC_len, List.flatMap_append]
  congr 1
  rw [show a.length * 2 + 1 - a.length * 2 = 1 by omega]
  simp [cC]
theorem minK (a b : Nat) : Value.int .u64 (if (b : Int) < (a : Int) then (b : Int) else (a : Int)) = .int .u64 (min a b : Nat) := congrArg _ (by split <;> omega)
theorem maxK (a b : Nat) : Value.int .u64 (if (b : Int) > (a : Int) then (b : Int) else (a : Int)) = .int .u64 (max a b : Nat) := congrArg _ (by split <;> omega)
theorem vclean_c (m : World) (v : Value) (l : List Clk) (h : Cs m [] v l) (hl : l.length < 100000000) : FnR Tryz.prog 35 [v] m fun r m' => VMade m r (vclean l) m' := by
  refine FnE.enter ⟨_, Tryz.func35, by kernel_rfl, by kernel_rfl⟩ Tryz.func35 rfl rfl ?_
  (with_reducible repeat (first | refine WP.S1 ?_ | refine WP.B1 ?_ | refine WP.R1 ?_))
  refine RL.A1 T_ok rfl ?_
  refine RL.N1 ?_; (with_reducible repeat (first | refine QN.B1 ?_ | refine QN.N1 ?_ | refine WP.S1 ?_ | refine WP.B1 ?_ | refine WP.R1 ?_))
  refine RL.A1 T_ok rfl ?_
  refine RL.N1 ?_; (with_reducible repeat (first | refine QN.B1 ?_ | refine QN.N1 ?_ | refine WP.S1 ?_ | refine WP.B1 ?_ | refine WP.R1 ?_))
  refine RL.A1 T_ok rfl ?_
  refine RL.call (fi := []) (ca := []) rfl rfl rfl rfl (by_c m v l h (by omega)) ?_
  rintro v1 m1 ⟨l', hP, hSo, hM⟩
  refine ⟨_, rfl, ?_⟩
  have hE1 := hM.ext
  have hR := hM.cs
  have hl' : l'.length = l.length := hP.length_eq
  obtain ⟨A, c, rfl, _, _⟩ := hR.shape
  clear hM
  refine RL.A1 T_ok rfl ?_
  refine RL.N1 ?_; (with_reducible repeat (first | refine QN.B1 ?_ | refine QN.N1 ?_ | refine WP.S1 ?_ | refine WP.B1 ?_ | refine WP.R1 ?_))
  refine (WP.loop (X := Nat × Value × List Nat × List Clk) (fun q => [(8, .slice A l'.length c), (9, .int .i64 l'.length), (3, q.2.1), (10, .int .i64 q.1)])
    (fun q m' => q.1 ≤ l'.length ∧ Ev.Own m' q.2.2.1 46 2 q.2.1 q.2.2.2.length (q.2.2.2.reverse.flatMap cC) ∧ New m1 q.2.2.1 m' ∧ VSw (l'.take q.1) q.2.2.2 ∧ ∀ y ∈ q.2.2.2, ∀ x ∈ l'.drop q.1, y.c ≤ x.c) (fun q => l'.length - q.1) (0, .slice none 0 0, [], [])
    (Sub.C1 rfl (Sub.C1 rfl (Sub.C1 rfl (Sub.C1 rfl Sub.nil)))) ⟨by simp, Own.empty _ _ _ _, ⟨Ext.refl _ _, FpNew.nil _ _⟩, VSw.nil, (fun _ hh => by cases hh)⟩ ?_)
  rintro ⟨i, ov, S, R⟩ m2 ⟨hi, hO, hN, hV, hle⟩
  simp only at hi hO hN hV hle
  (with_reducible repeat (first | refine WP.S1 ?_ | refine WP.B1 ?_ | refine WP.R1 ?_))
  refine RL.A1 T_ok rfl ?_
  refine RL.N1 ?_; (with_reducible repeat (first | refine QN.B1 ?_ | refine QN.N1 ?_ | refine WP.S1 ?_ | refine WP.B1 ?_ | refine WP.R1 ?_))
  refine WP.cond rfl (fun hc => ?_) (fun hc => ?_)
  · replace hc : i < l'.length := by have := of_decide_eq_true hc; simp only at this; omega
    obtain ⟨ad, rfl, hx⟩ := (hR.ext0 hN.1).cell i hc
    have htake : l'.take (i + 1) = l'.take i ++ [l'[i]] := List.take_succ_eq_append_getElem hc
    have hdrop := List.drop_eq_getElem_cons hc
    have hnext := hV.next (x := l'[i]) (fun y hy => hle y hy _ (by rw [hdrop]; exact zS ..))
    rw [← htake] at hnext
    have hle2 : ∀ y ∈ vsw R l'[i], ∀ x ∈ l'.drop (i + 1), y.c ≤ x.c := fun y hy x hx => by
      have h1 := hnext.2 y hy
      obtain ⟨j, hj, rfl⟩ := List.mem_iff_getElem.1 hx
      rw [List.length_drop] at hj
      rw [List.getElem_drop]
      have := List.pairwise_iff_getElem.1 hSo i (i + 1 + j) hc (by omega) (by omega)
      omega
    have hlR := hV.len
    rw [List.length_take, Nat.min_eq_left hi] at hlR
    generalize l'[i] = x at hx htake hnext hle2
    clear hle
    refine WP.skip ?_; (with_reducible repeat (first | refine QN.B1 ?_ | refine QN.N1 ?_ | refine WP.S1 ?_ | refine WP.B1 ?_ | refine WP.R1 ?_))
    refine RL.indexAddr (k := i) T_ok rfl rfl rfl rfl rfl rfl rfl hc rfl ?_
    refine RL.loadAgg T_ok (cC x) rfl rfl rfl hx rfl ?_
    refine RL.alloc T_ok rfl rfl (fun b m3 hb3 hC3 => ⟨_, rfl, ?_⟩)
    refine RL.storeAgg T_ok (b := b) (i := 0) (vs := cC x) (cs := [.int .u64 0, .int .u64 0]) hC3.blk rfl rfl rfl rfl rfl (by simp) (by simp [cC, Value.oneCell']) rfl ?_
    intro m4 hC4
    have hE4 : Ext m2 [] m4 := (hC3.new (by omega)).trans hC4.ext (fun q hq => .inr (by have h9 : q = b := (by simpa using hq); omega))
    have hB4 : Blk m4 b 46 (cC x) := hC4.blk
    have hbS : b ∉ S := fun hh => by have := hO.lt _ hh; omega
    have hbm : m1.heap.size ≤ b := by have := hN.1.size; omega
    have hO4 := hO.ext hE4 (by simp)
    have hN4 : New m1 S m4 := ⟨hN.1.trans hE4 (by simp), hN.2⟩
    clear hC3 hC4 hO hN hE4 hx
    refine RL.N1 ?_; (with_reducible repeat (first | refine QN.B1 ?_ | refine QN.N1 ?_))
    refine WP.S1 ?_
    refine WP.cut (X := Bool) (fun q => [(8, .slice (some ad) l'.length c), (9, .int .i64 l'.length), (3, ov), (10, .int .i64 i), (5, .pointer (some ⟨b, 0, none⟩)), (26, .bool q)]) (fun q m' => m' = m4 ∧ q = !x.right) ?_ ?_
    · refine WP.R1 ?_
      repeat (first | refine RL.pure T_ok 1 rfl ?_ | refine RL.load T_ok rfl rfl rfl (hB4.cell _ rfl) rfl ?_)
      by_cases h1 : x.c < 1
      · refine RL.eqv (v' := .bool true) (congrArg _ (decide_eq_true (by omega))) ?_
        repeat (first | refine RL.pure T_ok 1 rfl ?_ | refine RL.load T_ok rfl rfl rfl (hB4.cell _ rfl) rfl ?_)
        exact RL.N1 (QN.cutEnd true (Sub.C1 rfl (Sub.C1 rfl (Sub.C1 rfl (Sub.C1 rfl (Sub.C1 rfl (Sub.C1 rfl Sub.nil)))))) ⟨rfl, by rw [eq_comm, Bool.not_eq_true', ← Bool.not_eq_true, cright_iff]; omega⟩)
      · refine RL.eqv (v' := .bool false) (congrArg _ (decide_eq_false (by omega))) ?_
        repeat (first | refine RL.pure T_ok 1 rfl ?_ | refine RL.load T_ok rfl rfl rfl (hB4.cell _ rfl) rfl ?_)
        by_cases h2 : 9007199254740991 < x.c
        · refine RL.eqv (v' := .bool true) (congrArg _ (decide_eq_true (by omega))) ?_
          repeat (first | refine RL.pure T_ok 1 rfl ?_ | refine RL.load T_ok rfl rfl rfl (hB4.cell _ rfl) rfl ?_)
          exact RL.N1 (QN.cutEnd true (Sub.C1 rfl (Sub.C1 rfl (Sub.C1 rfl (Sub.C1 rfl (Sub.C1 rfl (Sub.C1 rfl Sub.nil)))))) ⟨rfl, by rw [eq_comm, Bool.not_eq_true', ← Bool.not_eq_true, cright_iff]; omega⟩)
        · refine RL.eqv (v' := .bool false) (congrArg _ (decide_eq_false (by omega))) ?_
          repeat (first | refine RL.pure T_ok 1 rfl ?_ | refine RL.load T_ok rfl rfl rfl (hB4.cell _ rfl) rfl ?_)
          refine RL.N1 (QN.cutEnd (decide (x.k < 1)) (Sub.C1 rfl (Sub.C1 rfl (Sub.C1 rfl (Sub.C1 rfl (Sub.C1 rfl (Sub.C1 ?_ Sub.nil)))))) ⟨rfl, ?_⟩)
          · show some (Value.bool (decide ((x.k : Int) < 1))) = _
            rw [show (decide ((x.k : Int) < 1)) = decide (x.k < 1) by rw [decide_eq_decide]; omega]
          · rw [Bool.eq_iff_iff, decide_eq_true_eq, Bool.not_eq_true', ← Bool.not_eq_true, cright_iff]; omega
    rintro q mc ⟨rfl, hq⟩
    refine WP.cond rfl (fun hqt => ?_) (fun hqf => ?_)
    · rw [hqt] at hq
      have hnr : ¬ x.right = true := by rw [eq_comm, Bool.not_eq_true'] at hq; rw [hq]; simp
      have hv : vsw R x = R := if_neg hnr
      rw [hv] at hnext hle2
      refine WP.exit ?_; (with_reducible repeat (first | refine QN.tx ?_ | refine QN.bx ?_ | refine QN.block_far rfl ?_ | refine QN.B1 ?_ | refine QN.N1 ?_)); (with_reducible repeat (first | refine WP.S1 ?_ | refine WP.B1 ?_ | refine WP.R1 ?_))
      refine RL.pure T_ok 1 rfl ?_
      refine RL.eqv (v' := .int .i64 ((i + 1 : Nat) : Int)) (congrArg _ (by rw [wrap_i64_in _ (by omega) (by omega)]; rfl)) ?_
      refine RL.A1 T_ok rfl ?_
      exact RL.N1 (QN.round (i + 1, ov, S, R) (Sub.C1 rfl (Sub.C1 rfl (Sub.C1 rfl (Sub.C1 rfl Sub.nil)))) ⟨by show i + 1 ≤ _; omega, hO4, hN4, hnext.1, hle2⟩ (by show _ - (i + 1) < _ - i; omega))
    rw [hqf] at hq
    have hr : x.right = true := by rw [eq_comm, Bool.not_eq_false'] at hq; exact hq
    have hv : vsw R x = vj R x.cut := if_pos hr
    rw [hv] at hnext hle2
    refine WP.skip ?_; (with_reducible repeat (first | refine QN.B1 ?_ | refine QN.N1 ?_ | refine WP.S1 ?_ | refine WP.B1 ?_ | refine WP.R1 ?_))
    refine RL.pure T_ok 1 rfl ?_
    refine RL.load T_ok rfl rfl rfl (hB4.cell 1 rfl) rfl ?_
    refine RL.pure T_ok 1 rfl ?_
    refine RL.eqv (v' := .int .u64 (min x.k 9007199254740991 : Nat)) (minK x.k 9007199254740991) ?_
    refine RL.pure T_ok 1 rfl ?_
    refine RL.store T_ok hB4 (i := 1) (v := .int .u64 (min x.k 9007199254740991 : Nat)) (by simp [cC]) rfl rfl rfl rfl rfl rfl ?_
    intro m5 hC5
    have hB5 : Blk m5 b 46 (cC x.cut) := hC5.blk
    have hE5 : Ext m1 [] m5 := hN4.1.trans hC5.ext (fun k hk => .inr (by have h9 : k = b := (by simpa using hk); omega))
    have hO5 := hO4.ext hC5.ext (fun k hk hh => hbS (by have h9 : k = b := (by simpa using hh); exact h9 ▸ hk))
    have hN5 : New m1 S m5 := ⟨hE5, hN4.2⟩
    clear hC5 hE5 hB4 hO4 hN4
    generalize x.cut = x at hnext hle2 hB5
    obtain ⟨AO, cO, rfl, _⟩ := hO5.shape
    refine RL.N1 ?_; (with_reducible repeat (first | refine QN.B1 ?_ | refine QN.N1 ?_ | refine WP.S1 ?_ | refine WP.B1 ?_ | refine WP.R1 ?_))
    cases R with
    | nil =>
      refine RL.pure T_ok 2 rfl ?_
      refine RL.pure T_ok 1 rfl ?_
      refine RL.eqv (v' := .int .i64 (-1)) (congrArg _ (by simp [wrap_i64])) ?_
      refine RL.A1 T_ok rfl ?_
      refine RL.N1 ?_; (with_reducible repeat (first | refine QN.B1 ?_ | refine QN.N1 ?_))
      refine WP.S1 ?_
      refine WP.drawQ (fun m' => m' = m5) [] (by kernel_rfl) rfl (by with_reducible repeat (first | exact PanicOk.body | refine PanicOk.then_ ?_ | refine PanicOk.block_ ?_)) (fun hQ => ?_)
      refine RH.pure T_ok hQ [0, 1] (by kernel_rfl) rfl ?_
      refine RH.eqv (v' := .bool false) (congrArg _ (by decide)) ?_
      refine RH.pure T_ok hQ [2, 3, 4, 5, 6, 7, 8, 9, 10, 11] (by kernel_rfl) rfl ?_
      refine RH.done (by kernel_rfl) (fun _ => ?_)
      (with_reducible repeat (first | refine QN.B1 ?_ | refine QN.N1 ?_))
      refine WP.condF rfl ?_
      refine WP.skip ?_
      (with_reducible repeat (first | refine QN.B1 ?_ | refine QN.N1 ?_))
      (with_reducible repeat (first | refine WP.S1 ?_ | refine WP.B1 ?_ | refine WP.R1 ?_))
      refine RL.A1 T_ok rfl ?_
      refine RL.loadAgg T_ok (cC x) rfl rfl rfl (fun j u hu => by rw [add_block]; exact hB5.cell _ (by simpa using hu)) rfl ?_
      refine RL.append1 T_ok [.tmp 59] hO5 (us := [cV x]) (cC x) rfl rfl rfl rfl rfl rfl rfl rfl rfl (by simp [cV, cC, Value.cells]) (by simp [cV, Value.cells]) (cC_one x) (by unfold maxLen; simp) (by show (_ + 1) * 16 ≤ _; simp) ?_
      intro v6 m6 S6 hO6 hE6 hF6
      refine ⟨_, rfl, ?_⟩
      have hN6 : New m1 S6 m6 := ⟨hN5.1.trans hE6 (fun k hk => .inr (hN5.ge k hk)), hN5.2.trans hF6 hN5.1.size⟩
      refine RL.A1 T_ok rfl ?_
      refine RL.N1 ?_; (with_reducible repeat (first | refine QN.B1 ?_ | refine QN.N1 ?_ | refine WP.S1 ?_ | refine WP.B1 ?_ | refine WP.R1 ?_))
      refine RL.pure T_ok 1 rfl ?_
      refine RL.eqv (v' := .int .i64 ((i + 1 : Nat) : Int)) (congrArg _ (by rw [wrap_i64_in _ (by omega) (by omega)]; rfl)) ?_
      refine RL.A1 T_ok rfl ?_
      refine RL.N1 (QN.round (i + 1, v6, S6, [x]) (Sub.C1 rfl (Sub.C1 rfl (Sub.C1 rfl (Sub.C1 rfl Sub.nil)))) ⟨by show i + 1 ≤ _; omega, ?_, hN6, hnext.1, hle2⟩ (by show _ - (i + 1) < _ - i; omega))
      simpa using hO6
    | cons y r =>
      have hrl : (y :: r).length = r.length + 1 := rfl
      have hR5 : Cs m5 [] (.slice AO (y :: r).length cO) (r.reverse ++ [y]) := by
        have := hO5.sl (M := []) (by simp)
        rw [List.reverse_cons] at this; exact this
      obtain ⟨ad5, rfl, hy⟩ := hR5.cell r.length (by simp)
      have hyy : (r.reverse ++ [y])[r.length]'(by simp) = y := by simp
      rw [hyy] at hy
      refine RL.pure T_ok 2 rfl ?_
      refine RL.pure T_ok 1 rfl ?_
      refine RL.eqv (v' := .int .i64 r.length) (congrArg _ (by show IntKind.i64.wrap (((r.length + 1 : Nat) : Int) - 1) = r.length; rw [wrap_i64_in _ (by omega) (by omega)]; omega)) ?_
      refine RL.A1 T_ok rfl ?_
      refine RL.N1 ?_; (with_reducible repeat (first | refine QN.B1 ?_ | refine QN.N1 ?_))
      refine WP.S1 ?_
      refine WP.drawQ (fun m' => m' = m5) [] (by kernel_rfl) rfl (by with_reducible repeat (first | exact PanicOk.body | refine PanicOk.then_ ?_ | refine PanicOk.block_ ?_)) (fun hQ => ?_)
      refine RH.pure T_ok hQ [0, 1] (by kernel_rfl) rfl ?_
      refine RH.eqv (v' := .bool true) (congrArg _ (decide_eq_true (by omega))) ?_
      refine RH.pure T_ok hQ [2, 3, 4] (by kernel_rfl) rfl ?_
      refine RH.indexAddr T_ok hQ 5 (k := r.length) rfl (by kernel_rfl) rfl rfl rfl rfl rfl rfl rfl (by omega) rfl ?_
      refine RH.pure T_ok hQ [6] (by kernel_rfl) rfl ?_
      refine RH.load T_ok hQ 7 (fun m' hm' => by rw [hm']; exact hy 0 _ rfl) rfl (by kernel_rfl) rfl rfl rfl rfl ?_
      refine RH.pure T_ok hQ [8] (by kernel_rfl) rfl ?_
      refine RH.load T_ok hQ 9 (fun m' hm' => by rw [hm']; exact hB5.cell 0 rfl) rfl (by kernel_rfl) rfl rfl rfl rfl ?_
      refine RH.pure T_ok hQ [10] (by kernel_rfl) rfl ?_
      by_cases h1 : y.c = x.c
      · have hvj : vj (y :: r) x = { y with k := max y.k x.k } :: r := by rw [vj_cons, if_pos h1]
        rw [hvj] at hnext hle2
        refine RH.eqv (v' := .bool true) (congrArg _ (by rw [deq]; exact decide_eq_true h1)) ?_
        refine RH.pure T_ok hQ [11] (by kernel_rfl) rfl ?_
        refine RH.done (by kernel_rfl) (fun _ => ?_)
        (with_reducible repeat (first | refine QN.B1 ?_ | refine QN.N1 ?_))
        refine WP.condT rfl ?_
        have hO8 : Ev.Own m5 S 46 2 (.slice (some ad5) (y :: r).length cO) (y :: r).length ((r.reverse ++ [y]).flatMap cC) := by
          have := hO5; rw [List.reverse_cons] at this; exact this
        obtain ⟨g, cap, cur, hv8, hB8, rfl, hj8, hset⟩ := hO8.putN (j := r.length * 2 + 1) (by rw [hrl]; omega)
        injection hv8 with hv8 hv8'
        injection hv8 with hv8
        subst hv8
        refine WP.S1 ?_
        refine WP.drawQ (fun m' => m' = m5) [12] (by kernel_rfl) rfl (by with_reducible repeat (first | exact PanicOk.body | refine PanicOk.then_ ?_ | refine PanicOk.block_ ?_)) (fun hQ => ?_)
        refine RH.pure T_ok hQ [0, 1, 2, 3] (by kernel_rfl) rfl ?_
        refine RH.indexAddr T_ok hQ 4 (k := r.length) rfl (by kernel_rfl) rfl rfl rfl rfl rfl rfl rfl (by omega) rfl ?_
        refine RH.pure T_ok hQ [5] (by kernel_rfl) rfl ?_
        refine RH.load T_ok hQ 6 (fun m' hm' => by rw [hm']; exact hy 1 _ rfl) rfl (by kernel_rfl) rfl rfl rfl rfl ?_
        refine RH.pure T_ok hQ [7] (by kernel_rfl) rfl ?_
        refine RH.load T_ok hQ 8 (fun m' hm' => by rw [hm']; exact hB5.cell 1 rfl) rfl (by kernel_rfl) rfl rfl rfl rfl ?_
        refine RH.pure T_ok hQ [9] (by kernel_rfl) rfl ?_
        refine RH.eqv (v' := .int .u64 (max y.k x.k : Nat)) (maxK y.k x.k) ?_
        refine RH.indexAddr T_ok hQ 10 (k := r.length) rfl (by kernel_rfl) rfl rfl rfl rfl rfl rfl rfl (by omega) rfl ?_
        refine RH.eqv (v' := .pointer (some ⟨g, r.length * 2, none⟩)) (congrArg (fun q => Value.pointer (some q)) (by rw [add_block, Nat.zero_add])) ?_
        refine RH.pure T_ok hQ [11] (by kernel_rfl) rfl ?_
        refine RH.only 12 rfl (by kernel_rfl) (fun _ => ?_)
        refine RL.store T_ok hB8 (i := r.length * 2 + 1) (v := .int .u64 (max y.k x.k : Nat)) hj8 rfl rfl rfl rfl rfl rfl ?_
        intro m9 hC9
        have hO9 := hset m9 _ hC9
        rw [show r.length * 2 + 1 = r.reverse.length * 2 + 1 by rw [List.length_reverse], csC_setK, ← List.reverse_cons] at hO9
        have hN9 : New m1 [g] m9 := ⟨hN5.1.trans hC9.ext (fun k hk => .inr (hN5.ge k hk)), hN5.2⟩
        refine RL.N1 (RF.cont (by kernel_rfl) ?_)
        refine RF.done (by kernel_rfl) ?_
        (with_reducible repeat (first | refine QN.B1 ?_ | refine QN.N1 ?_))
        refine WP.exit ?_; (with_reducible repeat (first | refine QN.tx ?_ | refine QN.bx ?_ | refine QN.block_far rfl ?_ | refine QN.B1 ?_ | refine QN.N1 ?_)); (with_reducible repeat (first | refine WP.S1 ?_ | refine WP.B1 ?_ | refine WP.R1 ?_))
        refine RL.pure T_ok 1 rfl ?_
        refine RL.eqv (v' := .int .i64 ((i + 1 : Nat) : Int)) (congrArg _ (by rw [wrap_i64_in _ (by omega) (by omega)]; rfl)) ?_
        refine RL.A1 T_ok rfl ?_
        exact RL.N1 (QN.round (i + 1, _, [g], { y with k := max y.k x.k } :: r) (Sub.C1 rfl (Sub.C1 rfl (Sub.C1 rfl (Sub.C1 rfl Sub.nil)))) ⟨by show i + 1 ≤ _; omega, hO9, hN9, hnext.1, hle2⟩ (by show _ - (i + 1) < _ - i; omega))
      · have hvj : vj (y :: r) x = x :: y :: r := by rw [vj_cons, if_neg h1]
        rw [hvj] at hnext hle2
        refine RH.eqv (v' := .bool false) (congrArg _ (by rw [deq]; exact decide_eq_false h1)) ?_
        refine RH.pure T_ok hQ [11] (by kernel_rfl) rfl ?_
        refine RH.done (by kernel_rfl) (fun _ => ?_)
        (with_reducible repeat (first | refine QN.B1 ?_ | refine QN.N1 ?_))
        refine WP.condF rfl ?_
        refine WP.skip ?_
        (with_reducible repeat (first | refine QN.B1 ?_ | refine QN.N1 ?_))
        (with_reducible repeat (first | refine WP.S1 ?_ | refine WP.B1 ?_ | refine WP.R1 ?_))
        refine RL.A1 T_ok rfl ?_
        refine RL.loadAgg T_ok (cC x) rfl rfl rfl (fun j u hu => by rw [add_block]; exact hB5.cell _ (by simpa using hu)) rfl ?_
        refine RL.append1 T_ok [.tmp 59] hO5 (us := [cV x]) (cC x) rfl rfl rfl rfl rfl rfl rfl rfl rfl (by simp [cV, cC, Value.cells]) (by simp [cV, Value.cells]) (cC_one x) (by unfold maxLen; have := hrl; omega) (by show (_ + 1) * 16 ≤ _; have := hrl; omega) ?_
        intro v6 m6 S6 hO6 hE6 hF6
        refine ⟨_, rfl, ?_⟩
        have hN6 : New m1 S6 m6 := ⟨hN5.1.trans hE6 (fun k hk => .inr (hN5.ge k hk)), hN5.2.trans hF6 hN5.1.size⟩
        refine RL.A1 T_ok rfl ?_
        refine RL.N1 ?_; (with_reducible repeat (first | refine QN.B1 ?_ | refine QN.N1 ?_ | refine WP.S1 ?_ | refine WP.B1 ?_ | refine WP.R1 ?_))
        refine RL.pure T_ok 1 rfl ?_
        refine RL.eqv (v' := .int .i64 ((i + 1 : Nat) : Int)) (congrArg _ (by rw [wrap_i64_in _ (by omega) (by omega)]; rfl)) ?_
        refine RL.A1 T_ok rfl ?_
        refine RL.N1 (QN.round (i + 1, v6, S6, x :: y :: r) (Sub.C1 rfl (Sub.C1 rfl (Sub.C1 rfl (Sub.C1 rfl Sub.nil)))) ⟨by show i + 1 ≤ _; omega, ?_, hN6, hnext.1, hle2⟩ (by show _ - (i + 1) < _ - i; omega))
        show Ev.Own m6 S6 46 2 v6 ((y :: r).length + 1) ((x :: y :: r).reverse.flatMap cC)
        rw [List.reverse_cons, ← csC_app]
        simpa using hO6
  · replace hc : i = l'.length := by have := of_decide_eq_false hc; simp only at this; omega
    subst hc
    rw [List.take_length] at hV
    have he := hV.done hP
    refine WP.exit ?_; (with_reducible repeat (first | refine QN.tx ?_ | refine QN.bx ?_ | refine QN.block_far rfl ?_ | refine QN.B1 ?_ | refine QN.N1 ?_)); (with_reducible repeat (first | refine WP.S1 ?_ | refine WP.B1 ?_ | refine WP.R1 ?_))
    refine RL.A1 T_ok rfl ?_
    refine RL.N1 ?_; (with_reducible repeat (first | refine QN.B1 ?_ | refine QN.N1 ?_ | refine WP.S1 ?_ | refine WP.B1 ?_ | refine WP.R1 ?_))
    refine WP.ret ?_; (with_reducible repeat (first | refine QN.tr ?_ | refine QN.br ?_))
    exact QN.ret1 rfl rfl ⟨_, rfl, S, by rw [← he, List.length_reverse]; exact hO, hE1.trans hN.1 (by simp), hN.2.trans' hE1⟩
end Go.Proofs.YtmjpcaiehfimgaaGreatDoor
end
section
namespace Go.Proofs.YtmjpcaiehfimgaaGreatDoor
open Go.RowKit Go.Ev Go.Ids
theorem cmpN_neg (a b : Nat) : cmpN a b < 0 ↔ a < b := by unfold cmpN; split; omega; split <;> omega
theorem cmpN_zero (a b : Nat) : cmpN a b = 0 ↔ a = b := by unfold cmpN; split; omega; split <;> omega
instance : Inhabited Rng := ⟨⟨0, 0, 0⟩⟩
end Go.Proofs.YtmjpcaiehfimgaaGreatDoor
end
section
namespace Go.Proofs.YtmjpcaiehfimgaaGreatDoor
open Go.RowKit Go.Ev Go.Ids
end Go.Proofs.YtmjpcaiehfimgaaGreatDoor
end
section
namespace Go.Proofs.YtmjpcaiehfimgaaGreatDoor
open Go.RowKit Go.Ev Go.Ids
end Go.Proofs.YtmjpcaiehfimgaaGreatDoor
end
section
namespace Go.Proofs.YtmjpcaiehfimgaaGreatDoor
open Go.RowKit Go.Ev Go.Ids
end Go.Proofs.YtmjpcaiehfimgaaGreatDoor
end
section
namespace Go.Proofs.YtmjpcaiehfimgaaGreatDoor
open Go.RowKit Go.Ev Go.Ids
theorem dle' (a b : Nat) : decide ((a : Int) ≤ (b : Int)) = decide (a ≤ b) := by rw [decide_eq_decide]; omega
def Made (m : World) (r : Value) (l : List Rng) (m' : World) : Prop := ∃ S', Ev.Own m' S' 114 3 r l.length (l.flatMap rC) ∧ New m S' m'
theorem Made.ext {m m' : World} {r : Value} {l : List Rng} (h : Made m r l m') : Ext m [] m' := by obtain ⟨_, _, h⟩ := h; exact h.1
theorem Made.rs {m m' : World} {r : Value} {l : List Rng} (h : Made m r l m') : Rs m' [] r l := by obtain ⟨_, h, _⟩ := h; exact h.sl (by simp)
end Go.Proofs.YtmjpcaiehfimgaaGreatDoor
end
section
namespace Go.Ev
open Go.RowKit
end Go.Ev
namespace Go.Proofs.YtmjpcaiehfimgaaGreatDoor
open Go.RowKit Go.Ev Go.Ids
end Go.Proofs.YtmjpcaiehfimgaaGreatDoor
end
section
namespace Go.Proofs.YtmjpcaiehfimgaaGreatDoor
open Go.RowKit Go.Ev Go.Ids
end Go.Proofs.YtmjpcaiehfimgaaGreatDoor
end
section
namespace Go.Proofs.YtmjpcaiehfimgaaGreatDoor
open Go.RowKit Go.Ev Go.Ids
end Go.Proofs.YtmjpcaiehfimgaaGreatDoor
end
