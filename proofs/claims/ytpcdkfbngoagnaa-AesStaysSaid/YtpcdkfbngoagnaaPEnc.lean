import Derived.Test.YtpcdkfbngoagnaaPKeys
import Derived.Test.YtpcdkfbngoagnaaCx16
namespace Go.Proofs.Ytpcdkfbngoagnaa.Pure
set_option linter.unusedVariables false
set_option linter.unusedSimpArgs false
open Go.RowKit Go.Proofs.Ytpcdkfbngoagnaa.C Go.Proofs.YtpcdkfbngoagnaaW.PrintWords Go.Proofs.YtpcdkfbngoagnaaW.PrintLast Go.Proofs.YtpcdkfbngoagnaaW.PrintMore

theorem byteNat (t : Int) (h0 : 0 ≤ t) (h1 : t < 256) : ∃ n : Nat, t = n ∧ n < 256 := ⟨t.toNat, by omega, by omega⟩
theorem mul_2 : ∀ t < 256, mulN 2 t = mulN t 2 := by decide +kernel
theorem mul_3 : ∀ t < 256, mulN 3 t = mulN t 3 := by decide +kernel
theorem mul_1 : ∀ t < 256, mulN t 1 = t := by decide +kernel
theorem T2 (m : Nat) (t : Int) (h0 : 0 ≤ t) (h1 : t < 256) : charterref03_Times.f (m + 9) 2 t = some (tm t 2) := by
  obtain ⟨n, rfl, hn⟩ := byteNat t h0 h1
  have h := refTimes_go m 2 n (by decide) hn
  have h2 := tm_go n 2 hn (by decide)
  rw [show ((2 : Nat) : Int) = 2 from rfl] at h h2
  rw [h2, Nat.add_comm m 9, h, mul_2 n hn]
theorem T3 (m : Nat) (t : Int) (h0 : 0 ≤ t) (h1 : t < 256) : charterref03_Times.f (m + 9) 3 t = some (tm t 3) := by
  obtain ⟨n, rfl, hn⟩ := byteNat t h0 h1
  have h := refTimes_go m 3 n (by decide) hn
  have h2 := tm_go n 3 hn (by decide)
  rw [show ((3 : Nat) : Int) = 3 from rfl] at h h2
  rw [h2, Nat.add_comm m 9, h, mul_3 n hn]
theorem tm_1 (t : Int) (h0 : 0 ≤ t) (h1 : t < 256) : tm t 1 = t := by
  obtain ⟨n, rfl, hn⟩ := byteNat t h0 h1
  have h2 := tm_go n 1 hn (by decide)
  rw [show ((1 : Nat) : Int) = 1 from rfl] at h2
  rw [h2, mul_1 n hn]
theorem tm_byte (t : Int) (b : Nat) (h0 : 0 ≤ t) (h1 : t < 256) (hb : b < 256) : 0 ≤ tm t b ∧ tm t b < 256 := by
  obtain ⟨n, rfl, hn⟩ := byteNat t h0 h1
  have h2 := tm_go n b hn hb
  have := mulN_lt n b hn
  omega
theorem xor_0 (t : Int) (h0 : 0 ≤ t) (h1 : t < 256) : Go.bits .xor .u8 0 t = t := by
  obtain ⟨n, rfl, hn⟩ := byteNat t h0 h1
  have := xor8 0 n (by decide) hn
  simpa using this
theorem xor_0tm (t : Int) (h0 : 0 ≤ t) (h1 : t < 256) : Go.bits .xor .u8 0 (tm t 2) = tm t 2 := by
  have h := tm_byte t 2 h0 h1 (by decide)
  exact xor_0 _ h.1 h.2
theorem S_byte (a : Int) (h0 : 0 ≤ a) (h1 : a < 256) : 0 ≤ S a ∧ S a < 256 := by
  obtain ⟨n, rfl, hn⟩ := byteNat a h0 h1
  have := sbN_ok n hn
  unfold S
  omega
theorem subs_len : aes_substitutes_L.length = 256 := by decide +kernel

set_option maxRecDepth 100000 in
set_option maxHeartbeats 4000000 in
theorem refEnc_add (k : Nat) (xs : List (List Int)) (s0 s1 s2 s3 s4 s5 s6 s7 s8 s9 s10 s11 s12 s13 s14 s15 k0 k1 k2 k3 k4 k5 k6 k7 k8 k9 k10 k11 k12 k13 k14 k15 : Int) (h : rd_L1 xs 0 = [k0, k1, k2, k3, k4, k5, k6, k7, k8, k9, k10, k11, k12, k13, k14, k15]) (hl : 0 < xs.length) :
    charterref03_Encrypt.l0 (k + 17) aes_substitutes_L xs [s0, s1, s2, s3, s4, s5, s6, s7, s8, s9, s10, s11, s12, s13, s14, s15] 0 = charterref03_Encrypt.l1 k aes_substitutes_L xs [Go.bits .xor .u8 s0 k0, Go.bits .xor .u8 s1 k1, Go.bits .xor .u8 s2 k2, Go.bits .xor .u8 s3 k3, Go.bits .xor .u8 s4 k4, Go.bits .xor .u8 s5 k5, Go.bits .xor .u8 s6 k6, Go.bits .xor .u8 s7 k7, Go.bits .xor .u8 s8 k8, Go.bits .xor .u8 s9 k9, Go.bits .xor .u8 s10 k10, Go.bits .xor .u8 s11 k11, Go.bits .xor .u8 s12 k12, Go.bits .xor .u8 s13 k13, Go.bits .xor .u8 s14 k14, Go.bits .xor .u8 s15 k15] 1 := by
  simp [charterref03_Encrypt.l0, h, rd, wrap64, hl]
set_option maxRecDepth 100000 in
set_option maxHeartbeats 4000000 in
theorem refEnc_turn (k : Nat) (xs : List (List Int)) (i : Int) (s0 s1 s2 s3 s4 s5 s6 s7 s8 s9 s10 s11 s12 s13 s14 s15 : Int) (ps0 : 0 ≤ s0) (qs0 : s0 < 256) (ps1 : 0 ≤ s1) (qs1 : s1 < 256) (ps2 : 0 ≤ s2) (qs2 : s2 < 256) (ps3 : 0 ≤ s3) (qs3 : s3 < 256) (ps4 : 0 ≤ s4) (qs4 : s4 < 256) (ps5 : 0 ≤ s5) (qs5 : s5 < 256) (ps6 : 0 ≤ s6) (qs6 : s6 < 256) (ps7 : 0 ≤ s7) (qs7 : s7 < 256) (ps8 : 0 ≤ s8) (qs8 : s8 < 256) (ps9 : 0 ≤ s9) (qs9 : s9 < 256) (ps10 : 0 ≤ s10) (qs10 : s10 < 256) (ps11 : 0 ≤ s11) (qs11 : s11 < 256) (ps12 : 0 ≤ s12) (qs12 : s12 < 256) (ps13 : 0 ≤ s13) (qs13 : s13 < 256) (ps14 : 0 ≤ s14) (qs14 : s14 < 256) (ps15 : 0 ≤ s15) (qs15 : s15 < 256) :
    charterref03_Encrypt.l2 (k + 25) aes_substitutes_L xs [s0, s1, s2, s3, s4, s5, s6, s7, s8, s9, s10, s11, s12, s13, s14, s15] i [0, 0, 0, 0, 0, 0, 0, 0, 0, 0, 0, 0, 0, 0, 0, 0] 0 = charterref03_Encrypt.l4 k aes_substitutes_L xs [s0, s1, s2, s3, s4, s5, s6, s7, s8, s9, s10, s11, s12, s13, s14, s15] i [S s0, S s5, S s10, S s15, S s4, S s9, S s14, S s3, S s8, S s13, S s2, S s7, S s12, S s1, S s6, S s11] 0 := by
  simp [charterref03_Encrypt.l2, charterref03_Encrypt.l3, rd, wrap64, subs_len, S, ps0, qs0, ps1, qs1, ps2, qs2, ps3, qs3, ps4, qs4, ps5, qs5, ps6, qs6, ps7, qs7, ps8, qs8, ps9, qs9, ps10, qs10, ps11, qs11, ps12, qs12, ps13, qs13, ps14, qs14, ps15, qs15]
set_option maxRecDepth 100000 in
set_option maxHeartbeats 4000000 in
theorem refEnc_mix0 (k : Nat) (xs : List (List Int)) (i : Int) (s0 s1 s2 s3 s4 s5 s6 s7 s8 s9 s10 s11 s12 s13 s14 s15 t0 t1 t2 t3 t4 t5 t6 t7 t8 t9 t10 t11 t12 t13 t14 t15 k0 k1 k2 k3 k4 k5 k6 k7 k8 k9 k10 k11 k12 k13 k14 k15 : Int) (pt0 : 0 ≤ t0) (qt0 : t0 < 256) (pt1 : 0 ≤ t1) (qt1 : t1 < 256) (pt2 : 0 ≤ t2) (qt2 : t2 < 256) (pt3 : 0 ≤ t3) (qt3 : t3 < 256) (h : rd_L1 xs i = [k0, k1, k2, k3, k4, k5, k6, k7, k8, k9, k10, k11, k12, k13, k14, k15]) (hi : 0 ≤ i) (hl : i < (xs.length : Int)) (h10 : i < 10) :
    charterref03_Encrypt.l4 (k + 9 + 6) aes_substitutes_L xs [s0, s1, s2, s3, s4, s5, s6, s7, s8, s9, s10, s11, s12, s13, s14, s15] i [t0, t1, t2, t3, t4, t5, t6, t7, t8, t9, t10, t11, t12, t13, t14, t15] 0 = charterref03_Encrypt.l4 (k + 9) aes_substitutes_L xs [(Go.bits .xor .u8 (Go.bits .xor .u8 (Go.bits .xor .u8 (Go.bits .xor .u8 (tm t0 2) (tm t1 3)) t2) t3) k0), (Go.bits .xor .u8 (Go.bits .xor .u8 (Go.bits .xor .u8 (Go.bits .xor .u8 (tm t1 2) (tm t2 3)) t3) t0) k1), (Go.bits .xor .u8 (Go.bits .xor .u8 (Go.bits .xor .u8 (Go.bits .xor .u8 (tm t2 2) (tm t3 3)) t0) t1) k2), (Go.bits .xor .u8 (Go.bits .xor .u8 (Go.bits .xor .u8 (Go.bits .xor .u8 (tm t3 2) (tm t0 3)) t1) t2) k3), s4, s5, s6, s7, s8, s9, s10, s11, s12, s13, s14, s15] i [t0, t1, t2, t3, t4, t5, t6, t7, t8, t9, t10, t11, t12, t13, t14, t15] 1 := by
  simp [charterref03_Encrypt.l4, charterref03_Encrypt.l5, rd, wrap64, h, hi, hl, h10, T2, T3, pt0, qt0, pt1, qt1, pt2, qt2, pt3, qt3]
set_option maxRecDepth 100000 in
set_option maxHeartbeats 4000000 in
theorem refEnc_mix1 (k : Nat) (xs : List (List Int)) (i : Int) (s0 s1 s2 s3 s4 s5 s6 s7 s8 s9 s10 s11 s12 s13 s14 s15 t0 t1 t2 t3 t4 t5 t6 t7 t8 t9 t10 t11 t12 t13 t14 t15 k0 k1 k2 k3 k4 k5 k6 k7 k8 k9 k10 k11 k12 k13 k14 k15 : Int) (pt4 : 0 ≤ t4) (qt4 : t4 < 256) (pt5 : 0 ≤ t5) (qt5 : t5 < 256) (pt6 : 0 ≤ t6) (qt6 : t6 < 256) (pt7 : 0 ≤ t7) (qt7 : t7 < 256) (h : rd_L1 xs i = [k0, k1, k2, k3, k4, k5, k6, k7, k8, k9, k10, k11, k12, k13, k14, k15]) (hi : 0 ≤ i) (hl : i < (xs.length : Int)) (h10 : i < 10) :
    charterref03_Encrypt.l4 (k + 9 + 6) aes_substitutes_L xs [s0, s1, s2, s3, s4, s5, s6, s7, s8, s9, s10, s11, s12, s13, s14, s15] i [t0, t1, t2, t3, t4, t5, t6, t7, t8, t9, t10, t11, t12, t13, t14, t15] 1 = charterref03_Encrypt.l4 (k + 9) aes_substitutes_L xs [s0, s1, s2, s3, (Go.bits .xor .u8 (Go.bits .xor .u8 (Go.bits .xor .u8 (Go.bits .xor .u8 (tm t4 2) (tm t5 3)) t6) t7) k4), (Go.bits .xor .u8 (Go.bits .xor .u8 (Go.bits .xor .u8 (Go.bits .xor .u8 (tm t5 2) (tm t6 3)) t7) t4) k5), (Go.bits .xor .u8 (Go.bits .xor .u8 (Go.bits .xor .u8 (Go.bits .xor .u8 (tm t6 2) (tm t7 3)) t4) t5) k6), (Go.bits .xor .u8 (Go.bits .xor .u8 (Go.bits .xor .u8 (Go.bits .xor .u8 (tm t7 2) (tm t4 3)) t5) t6) k7), s8, s9, s10, s11, s12, s13, s14, s15] i [t0, t1, t2, t3, t4, t5, t6, t7, t8, t9, t10, t11, t12, t13, t14, t15] 2 := by
  simp [charterref03_Encrypt.l4, charterref03_Encrypt.l5, rd, wrap64, h, hi, hl, h10, T2, T3, pt4, qt4, pt5, qt5, pt6, qt6, pt7, qt7]
set_option maxRecDepth 100000 in
set_option maxHeartbeats 4000000 in
theorem refEnc_mix2 (k : Nat) (xs : List (List Int)) (i : Int) (s0 s1 s2 s3 s4 s5 s6 s7 s8 s9 s10 s11 s12 s13 s14 s15 t0 t1 t2 t3 t4 t5 t6 t7 t8 t9 t10 t11 t12 t13 t14 t15 k0 k1 k2 k3 k4 k5 k6 k7 k8 k9 k10 k11 k12 k13 k14 k15 : Int) (pt8 : 0 ≤ t8) (qt8 : t8 < 256) (pt9 : 0 ≤ t9) (qt9 : t9 < 256) (pt10 : 0 ≤ t10) (qt10 : t10 < 256) (pt11 : 0 ≤ t11) (qt11 : t11 < 256) (h : rd_L1 xs i = [k0, k1, k2, k3, k4, k5, k6, k7, k8, k9, k10, k11, k12, k13, k14, k15]) (hi : 0 ≤ i) (hl : i < (xs.length : Int)) (h10 : i < 10) :
    charterref03_Encrypt.l4 (k + 9 + 6) aes_substitutes_L xs [s0, s1, s2, s3, s4, s5, s6, s7, s8, s9, s10, s11, s12, s13, s14, s15] i [t0, t1, t2, t3, t4, t5, t6, t7, t8, t9, t10, t11, t12, t13, t14, t15] 2 = charterref03_Encrypt.l4 (k + 9) aes_substitutes_L xs [s0, s1, s2, s3, s4, s5, s6, s7, (Go.bits .xor .u8 (Go.bits .xor .u8 (Go.bits .xor .u8 (Go.bits .xor .u8 (tm t8 2) (tm t9 3)) t10) t11) k8), (Go.bits .xor .u8 (Go.bits .xor .u8 (Go.bits .xor .u8 (Go.bits .xor .u8 (tm t9 2) (tm t10 3)) t11) t8) k9), (Go.bits .xor .u8 (Go.bits .xor .u8 (Go.bits .xor .u8 (Go.bits .xor .u8 (tm t10 2) (tm t11 3)) t8) t9) k10), (Go.bits .xor .u8 (Go.bits .xor .u8 (Go.bits .xor .u8 (Go.bits .xor .u8 (tm t11 2) (tm t8 3)) t9) t10) k11), s12, s13, s14, s15] i [t0, t1, t2, t3, t4, t5, t6, t7, t8, t9, t10, t11, t12, t13, t14, t15] 3 := by
  simp [charterref03_Encrypt.l4, charterref03_Encrypt.l5, rd, wrap64, h, hi, hl, h10, T2, T3, pt8, qt8, pt9, qt9, pt10, qt10, pt11, qt11]
set_option maxRecDepth 100000 in
set_option maxHeartbeats 4000000 in
theorem refEnc_mix3 (k : Nat) (xs : List (List Int)) (i : Int) (s0 s1 s2 s3 s4 s5 s6 s7 s8 s9 s10 s11 s12 s13 s14 s15 t0 t1 t2 t3 t4 t5 t6 t7 t8 t9 t10 t11 t12 t13 t14 t15 k0 k1 k2 k3 k4 k5 k6 k7 k8 k9 k10 k11 k12 k13 k14 k15 : Int) (pt12 : 0 ≤ t12) (qt12 : t12 < 256) (pt13 : 0 ≤ t13) (qt13 : t13 < 256) (pt14 : 0 ≤ t14) (qt14 : t14 < 256) (pt15 : 0 ≤ t15) (qt15 : t15 < 256) (h : rd_L1 xs i = [k0, k1, k2, k3, k4, k5, k6, k7, k8, k9, k10, k11, k12, k13, k14, k15]) (hi : 0 ≤ i) (hl : i < (xs.length : Int)) (h10 : i < 10) :
    charterref03_Encrypt.l4 (k + 9 + 6) aes_substitutes_L xs [s0, s1, s2, s3, s4, s5, s6, s7, s8, s9, s10, s11, s12, s13, s14, s15] i [t0, t1, t2, t3, t4, t5, t6, t7, t8, t9, t10, t11, t12, t13, t14, t15] 3 = charterref03_Encrypt.l4 (k + 9) aes_substitutes_L xs [s0, s1, s2, s3, s4, s5, s6, s7, s8, s9, s10, s11, (Go.bits .xor .u8 (Go.bits .xor .u8 (Go.bits .xor .u8 (Go.bits .xor .u8 (tm t12 2) (tm t13 3)) t14) t15) k12), (Go.bits .xor .u8 (Go.bits .xor .u8 (Go.bits .xor .u8 (Go.bits .xor .u8 (tm t13 2) (tm t14 3)) t15) t12) k13), (Go.bits .xor .u8 (Go.bits .xor .u8 (Go.bits .xor .u8 (Go.bits .xor .u8 (tm t14 2) (tm t15 3)) t12) t13) k14), (Go.bits .xor .u8 (Go.bits .xor .u8 (Go.bits .xor .u8 (Go.bits .xor .u8 (tm t15 2) (tm t12 3)) t13) t14) k15)] i [t0, t1, t2, t3, t4, t5, t6, t7, t8, t9, t10, t11, t12, t13, t14, t15] 4 := by
  simp [charterref03_Encrypt.l4, charterref03_Encrypt.l5, rd, wrap64, h, hi, hl, h10, T2, T3, pt12, qt12, pt13, qt13, pt14, qt14, pt15, qt15]
set_option maxRecDepth 100000 in
set_option maxHeartbeats 4000000 in
theorem refEnc_mix (k : Nat) (xs : List (List Int)) (i : Int) (s0 s1 s2 s3 s4 s5 s6 s7 s8 s9 s10 s11 s12 s13 s14 s15 t0 t1 t2 t3 t4 t5 t6 t7 t8 t9 t10 t11 t12 t13 t14 t15 k0 k1 k2 k3 k4 k5 k6 k7 k8 k9 k10 k11 k12 k13 k14 k15 : Int) (pt0 : 0 ≤ t0) (qt0 : t0 < 256) (pt1 : 0 ≤ t1) (qt1 : t1 < 256) (pt2 : 0 ≤ t2) (qt2 : t2 < 256) (pt3 : 0 ≤ t3) (qt3 : t3 < 256) (pt4 : 0 ≤ t4) (qt4 : t4 < 256) (pt5 : 0 ≤ t5) (qt5 : t5 < 256) (pt6 : 0 ≤ t6) (qt6 : t6 < 256) (pt7 : 0 ≤ t7) (qt7 : t7 < 256) (pt8 : 0 ≤ t8) (qt8 : t8 < 256) (pt9 : 0 ≤ t9) (qt9 : t9 < 256) (pt10 : 0 ≤ t10) (qt10 : t10 < 256) (pt11 : 0 ≤ t11) (qt11 : t11 < 256) (pt12 : 0 ≤ t12) (qt12 : t12 < 256) (pt13 : 0 ≤ t13) (qt13 : t13 < 256) (pt14 : 0 ≤ t14) (qt14 : t14 < 256) (pt15 : 0 ≤ t15) (qt15 : t15 < 256) (h : rd_L1 xs i = [k0, k1, k2, k3, k4, k5, k6, k7, k8, k9, k10, k11, k12, k13, k14, k15]) (hi : 0 ≤ i) (hl : i < (xs.length : Int)) (h10 : i < 10) :
    charterref03_Encrypt.l4 (k + 9 + 25) aes_substitutes_L xs [s0, s1, s2, s3, s4, s5, s6, s7, s8, s9, s10, s11, s12, s13, s14, s15] i [t0, t1, t2, t3, t4, t5, t6, t7, t8, t9, t10, t11, t12, t13, t14, t15] 0 = charterref03_Encrypt.l1 (k + 9) aes_substitutes_L xs [(Go.bits .xor .u8 (Go.bits .xor .u8 (Go.bits .xor .u8 (Go.bits .xor .u8 (tm t0 2) (tm t1 3)) t2) t3) k0), (Go.bits .xor .u8 (Go.bits .xor .u8 (Go.bits .xor .u8 (Go.bits .xor .u8 (tm t1 2) (tm t2 3)) t3) t0) k1), (Go.bits .xor .u8 (Go.bits .xor .u8 (Go.bits .xor .u8 (Go.bits .xor .u8 (tm t2 2) (tm t3 3)) t0) t1) k2), (Go.bits .xor .u8 (Go.bits .xor .u8 (Go.bits .xor .u8 (Go.bits .xor .u8 (tm t3 2) (tm t0 3)) t1) t2) k3), (Go.bits .xor .u8 (Go.bits .xor .u8 (Go.bits .xor .u8 (Go.bits .xor .u8 (tm t4 2) (tm t5 3)) t6) t7) k4), (Go.bits .xor .u8 (Go.bits .xor .u8 (Go.bits .xor .u8 (Go.bits .xor .u8 (tm t5 2) (tm t6 3)) t7) t4) k5), (Go.bits .xor .u8 (Go.bits .xor .u8 (Go.bits .xor .u8 (Go.bits .xor .u8 (tm t6 2) (tm t7 3)) t4) t5) k6), (Go.bits .xor .u8 (Go.bits .xor .u8 (Go.bits .xor .u8 (Go.bits .xor .u8 (tm t7 2) (tm t4 3)) t5) t6) k7), (Go.bits .xor .u8 (Go.bits .xor .u8 (Go.bits .xor .u8 (Go.bits .xor .u8 (tm t8 2) (tm t9 3)) t10) t11) k8), (Go.bits .xor .u8 (Go.bits .xor .u8 (Go.bits .xor .u8 (Go.bits .xor .u8 (tm t9 2) (tm t10 3)) t11) t8) k9), (Go.bits .xor .u8 (Go.bits .xor .u8 (Go.bits .xor .u8 (Go.bits .xor .u8 (tm t10 2) (tm t11 3)) t8) t9) k10), (Go.bits .xor .u8 (Go.bits .xor .u8 (Go.bits .xor .u8 (Go.bits .xor .u8 (tm t11 2) (tm t8 3)) t9) t10) k11), (Go.bits .xor .u8 (Go.bits .xor .u8 (Go.bits .xor .u8 (Go.bits .xor .u8 (tm t12 2) (tm t13 3)) t14) t15) k12), (Go.bits .xor .u8 (Go.bits .xor .u8 (Go.bits .xor .u8 (Go.bits .xor .u8 (tm t13 2) (tm t14 3)) t15) t12) k13), (Go.bits .xor .u8 (Go.bits .xor .u8 (Go.bits .xor .u8 (Go.bits .xor .u8 (tm t14 2) (tm t15 3)) t12) t13) k14), (Go.bits .xor .u8 (Go.bits .xor .u8 (Go.bits .xor .u8 (Go.bits .xor .u8 (tm t15 2) (tm t12 3)) t13) t14) k15)] (wrap64 (i + 1)) := by
  rw [show k + 9 + 25 = (k + 19) + 9 + 6 from by omega, refEnc_mix0 (k + 19) xs i s0 s1 s2 s3 s4 s5 s6 s7 s8 s9 s10 s11 s12 s13 s14 s15 t0 t1 t2 t3 t4 t5 t6 t7 t8 t9 t10 t11 t12 t13 t14 t15 k0 k1 k2 k3 k4 k5 k6 k7 k8 k9 k10 k11 k12 k13 k14 k15 pt0 qt0 pt1 qt1 pt2 qt2 pt3 qt3 h hi hl h10]
  rw [show k + 19 + 9 = (k + 13) + 9 + 6 from by omega, refEnc_mix1 (k + 13) xs i (Go.bits .xor .u8 (Go.bits .xor .u8 (Go.bits .xor .u8 (Go.bits .xor .u8 (tm t0 2) (tm t1 3)) t2) t3) k0) (Go.bits .xor .u8 (Go.bits .xor .u8 (Go.bits .xor .u8 (Go.bits .xor .u8 (tm t1 2) (tm t2 3)) t3) t0) k1) (Go.bits .xor .u8 (Go.bits .xor .u8 (Go.bits .xor .u8 (Go.bits .xor .u8 (tm t2 2) (tm t3 3)) t0) t1) k2) (Go.bits .xor .u8 (Go.bits .xor .u8 (Go.bits .xor .u8 (Go.bits .xor .u8 (tm t3 2) (tm t0 3)) t1) t2) k3) s4 s5 s6 s7 s8 s9 s10 s11 s12 s13 s14 s15 t0 t1 t2 t3 t4 t5 t6 t7 t8 t9 t10 t11 t12 t13 t14 t15 k0 k1 k2 k3 k4 k5 k6 k7 k8 k9 k10 k11 k12 k13 k14 k15 pt4 qt4 pt5 qt5 pt6 qt6 pt7 qt7 h hi hl h10]
  rw [show k + 13 + 9 = (k + 7) + 9 + 6 from by omega, refEnc_mix2 (k + 7) xs i (Go.bits .xor .u8 (Go.bits .xor .u8 (Go.bits .xor .u8 (Go.bits .xor .u8 (tm t0 2) (tm t1 3)) t2) t3) k0) (Go.bits .xor .u8 (Go.bits .xor .u8 (Go.bits .xor .u8 (Go.bits .xor .u8 (tm t1 2) (tm t2 3)) t3) t0) k1) (Go.bits .xor .u8 (Go.bits .xor .u8 (Go.bits .xor .u8 (Go.bits .xor .u8 (tm t2 2) (tm t3 3)) t0) t1) k2) (Go.bits .xor .u8 (Go.bits .xor .u8 (Go.bits .xor .u8 (Go.bits .xor .u8 (tm t3 2) (tm t0 3)) t1) t2) k3) (Go.bits .xor .u8 (Go.bits .xor .u8 (Go.bits .xor .u8 (Go.bits .xor .u8 (tm t4 2) (tm t5 3)) t6) t7) k4) (Go.bits .xor .u8 (Go.bits .xor .u8 (Go.bits .xor .u8 (Go.bits .xor .u8 (tm t5 2) (tm t6 3)) t7) t4) k5) (Go.bits .xor .u8 (Go.bits .xor .u8 (Go.bits .xor .u8 (Go.bits .xor .u8 (tm t6 2) (tm t7 3)) t4) t5) k6) (Go.bits .xor .u8 (Go.bits .xor .u8 (Go.bits .xor .u8 (Go.bits .xor .u8 (tm t7 2) (tm t4 3)) t5) t6) k7) s8 s9 s10 s11 s12 s13 s14 s15 t0 t1 t2 t3 t4 t5 t6 t7 t8 t9 t10 t11 t12 t13 t14 t15 k0 k1 k2 k3 k4 k5 k6 k7 k8 k9 k10 k11 k12 k13 k14 k15 pt8 qt8 pt9 qt9 pt10 qt10 pt11 qt11 h hi hl h10]
  rw [show k + 7 + 9 = (k + 1) + 9 + 6 from by omega, refEnc_mix3 (k + 1) xs i (Go.bits .xor .u8 (Go.bits .xor .u8 (Go.bits .xor .u8 (Go.bits .xor .u8 (tm t0 2) (tm t1 3)) t2) t3) k0) (Go.bits .xor .u8 (Go.bits .xor .u8 (Go.bits .xor .u8 (Go.bits .xor .u8 (tm t1 2) (tm t2 3)) t3) t0) k1) (Go.bits .xor .u8 (Go.bits .xor .u8 (Go.bits .xor .u8 (Go.bits .xor .u8 (tm t2 2) (tm t3 3)) t0) t1) k2) (Go.bits .xor .u8 (Go.bits .xor .u8 (Go.bits .xor .u8 (Go.bits .xor .u8 (tm t3 2) (tm t0 3)) t1) t2) k3) (Go.bits .xor .u8 (Go.bits .xor .u8 (Go.bits .xor .u8 (Go.bits .xor .u8 (tm t4 2) (tm t5 3)) t6) t7) k4) (Go.bits .xor .u8 (Go.bits .xor .u8 (Go.bits .xor .u8 (Go.bits .xor .u8 (tm t5 2) (tm t6 3)) t7) t4) k5) (Go.bits .xor .u8 (Go.bits .xor .u8 (Go.bits .xor .u8 (Go.bits .xor .u8 (tm t6 2) (tm t7 3)) t4) t5) k6) (Go.bits .xor .u8 (Go.bits .xor .u8 (Go.bits .xor .u8 (Go.bits .xor .u8 (tm t7 2) (tm t4 3)) t5) t6) k7) (Go.bits .xor .u8 (Go.bits .xor .u8 (Go.bits .xor .u8 (Go.bits .xor .u8 (tm t8 2) (tm t9 3)) t10) t11) k8) (Go.bits .xor .u8 (Go.bits .xor .u8 (Go.bits .xor .u8 (Go.bits .xor .u8 (tm t9 2) (tm t10 3)) t11) t8) k9) (Go.bits .xor .u8 (Go.bits .xor .u8 (Go.bits .xor .u8 (Go.bits .xor .u8 (tm t10 2) (tm t11 3)) t8) t9) k10) (Go.bits .xor .u8 (Go.bits .xor .u8 (Go.bits .xor .u8 (Go.bits .xor .u8 (tm t11 2) (tm t8 3)) t9) t10) k11) s12 s13 s14 s15 t0 t1 t2 t3 t4 t5 t6 t7 t8 t9 t10 t11 t12 t13 t14 t15 k0 k1 k2 k3 k4 k5 k6 k7 k8 k9 k10 k11 k12 k13 k14 k15 pt12 qt12 pt13 qt13 pt14 qt14 pt15 qt15 h hi hl h10]
  rw [show k + 1 + 9 = (k + 9) + 1 from by omega, charterref03_Encrypt.l4, if_neg (by decide)]
set_option maxRecDepth 100000 in
set_option maxHeartbeats 4000000 in
theorem refEnc_last (k : Nat) (xs : List (List Int)) (i : Int) (s0 s1 s2 s3 s4 s5 s6 s7 s8 s9 s10 s11 s12 s13 s14 s15 t0 t1 t2 t3 t4 t5 t6 t7 t8 t9 t10 t11 t12 t13 t14 t15 k0 k1 k2 k3 k4 k5 k6 k7 k8 k9 k10 k11 k12 k13 k14 k15 : Int) (h : rd_L1 xs i = [k0, k1, k2, k3, k4, k5, k6, k7, k8, k9, k10, k11, k12, k13, k14, k15]) (hi : 0 ≤ i) (hl : i < (xs.length : Int)) (h10 : ¬ i < 10) :
    charterref03_Encrypt.l4 (k + 25) aes_substitutes_L xs [s0, s1, s2, s3, s4, s5, s6, s7, s8, s9, s10, s11, s12, s13, s14, s15] i [t0, t1, t2, t3, t4, t5, t6, t7, t8, t9, t10, t11, t12, t13, t14, t15] 0 = charterref03_Encrypt.l1 k aes_substitutes_L xs [(Go.bits .xor .u8 t0 k0), (Go.bits .xor .u8 t1 k1), (Go.bits .xor .u8 t2 k2), (Go.bits .xor .u8 t3 k3), (Go.bits .xor .u8 t4 k4), (Go.bits .xor .u8 t5 k5), (Go.bits .xor .u8 t6 k6), (Go.bits .xor .u8 t7 k7), (Go.bits .xor .u8 t8 k8), (Go.bits .xor .u8 t9 k9), (Go.bits .xor .u8 t10 k10), (Go.bits .xor .u8 t11 k11), (Go.bits .xor .u8 t12 k12), (Go.bits .xor .u8 t13 k13), (Go.bits .xor .u8 t14 k14), (Go.bits .xor .u8 t15 k15)] (wrap64 (i + 1)) := by
  simp [charterref03_Encrypt.l4, charterref03_Encrypt.l5, rd, wrap64, h, hi, hl, h10]
set_option maxRecDepth 100000 in
set_option maxHeartbeats 4000000 in
theorem turn_is (s0 s1 s2 s3 s4 s5 s6 s7 s8 s9 s10 s11 s12 s13 s14 s15 : Int) : partL (turnF [s0, s1, s2, s3, s4, s5, s6, s7, s8, s9, s10, s11, s12, s13, s14, s15]) 16 = [S s0, S s5, S s10, S s15, S s4, S s9, S s14, S s3, S s8, S s13, S s2, S s7, S s12, S s1, S s6, S s11] := by
  simp [partL, turnF, S, List.range, List.range.loop]
set_option maxRecDepth 100000 in
set_option maxHeartbeats 4000000 in
theorem mix_is (ks : List (List Int)) (i : Nat) (t0 t1 t2 t3 t4 t5 t6 t7 t8 t9 t10 t11 t12 t13 t14 t15 k0 k1 k2 k3 k4 k5 k6 k7 k8 k9 k10 k11 k12 k13 k14 k15 : Int) (pt0 : 0 ≤ t0) (qt0 : t0 < 256) (pt1 : 0 ≤ t1) (qt1 : t1 < 256) (pt2 : 0 ≤ t2) (qt2 : t2 < 256) (pt3 : 0 ≤ t3) (qt3 : t3 < 256) (pt4 : 0 ≤ t4) (qt4 : t4 < 256) (pt5 : 0 ≤ t5) (qt5 : t5 < 256) (pt6 : 0 ≤ t6) (qt6 : t6 < 256) (pt7 : 0 ≤ t7) (qt7 : t7 < 256) (pt8 : 0 ≤ t8) (qt8 : t8 < 256) (pt9 : 0 ≤ t9) (qt9 : t9 < 256) (pt10 : 0 ≤ t10) (qt10 : t10 < 256) (pt11 : 0 ≤ t11) (qt11 : t11 < 256) (pt12 : 0 ≤ t12) (qt12 : t12 < 256) (pt13 : 0 ≤ t13) (qt13 : t13 < 256) (pt14 : 0 ≤ t14) (qt14 : t14 < 256) (pt15 : 0 ≤ t15) (qt15 : t15 < 256) (h : ks.getD i [] = [k0, k1, k2, k3, k4, k5, k6, k7, k8, k9, k10, k11, k12, k13, k14, k15]) :
    xorS (partL (mixF [2, 3, 1, 1] [t0, t1, t2, t3, t4, t5, t6, t7, t8, t9, t10, t11, t12, t13, t14, t15]) 16) (ks.getD i []) 16 = [(Go.bits .xor .u8 (Go.bits .xor .u8 (Go.bits .xor .u8 (Go.bits .xor .u8 (tm t0 2) (tm t1 3)) t2) t3) k0), (Go.bits .xor .u8 (Go.bits .xor .u8 (Go.bits .xor .u8 (Go.bits .xor .u8 (tm t1 2) (tm t2 3)) t3) t0) k1), (Go.bits .xor .u8 (Go.bits .xor .u8 (Go.bits .xor .u8 (Go.bits .xor .u8 (tm t2 2) (tm t3 3)) t0) t1) k2), (Go.bits .xor .u8 (Go.bits .xor .u8 (Go.bits .xor .u8 (Go.bits .xor .u8 (tm t3 2) (tm t0 3)) t1) t2) k3), (Go.bits .xor .u8 (Go.bits .xor .u8 (Go.bits .xor .u8 (Go.bits .xor .u8 (tm t4 2) (tm t5 3)) t6) t7) k4), (Go.bits .xor .u8 (Go.bits .xor .u8 (Go.bits .xor .u8 (Go.bits .xor .u8 (tm t5 2) (tm t6 3)) t7) t4) k5), (Go.bits .xor .u8 (Go.bits .xor .u8 (Go.bits .xor .u8 (Go.bits .xor .u8 (tm t6 2) (tm t7 3)) t4) t5) k6), (Go.bits .xor .u8 (Go.bits .xor .u8 (Go.bits .xor .u8 (Go.bits .xor .u8 (tm t7 2) (tm t4 3)) t5) t6) k7), (Go.bits .xor .u8 (Go.bits .xor .u8 (Go.bits .xor .u8 (Go.bits .xor .u8 (tm t8 2) (tm t9 3)) t10) t11) k8), (Go.bits .xor .u8 (Go.bits .xor .u8 (Go.bits .xor .u8 (Go.bits .xor .u8 (tm t9 2) (tm t10 3)) t11) t8) k9), (Go.bits .xor .u8 (Go.bits .xor .u8 (Go.bits .xor .u8 (Go.bits .xor .u8 (tm t10 2) (tm t11 3)) t8) t9) k10), (Go.bits .xor .u8 (Go.bits .xor .u8 (Go.bits .xor .u8 (Go.bits .xor .u8 (tm t11 2) (tm t8 3)) t9) t10) k11), (Go.bits .xor .u8 (Go.bits .xor .u8 (Go.bits .xor .u8 (Go.bits .xor .u8 (tm t12 2) (tm t13 3)) t14) t15) k12), (Go.bits .xor .u8 (Go.bits .xor .u8 (Go.bits .xor .u8 (Go.bits .xor .u8 (tm t13 2) (tm t14 3)) t15) t12) k13), (Go.bits .xor .u8 (Go.bits .xor .u8 (Go.bits .xor .u8 (Go.bits .xor .u8 (tm t14 2) (tm t15 3)) t12) t13) k14), (Go.bits .xor .u8 (Go.bits .xor .u8 (Go.bits .xor .u8 (Go.bits .xor .u8 (tm t15 2) (tm t12 3)) t13) t14) k15)] := by
  rw [h]
  simp [xorS, partL, mixF, accF, List.range, List.range.loop, tm_1, xor_0, pt0, qt0, pt1, qt1, pt2, qt2, pt3, qt3, pt4, qt4, pt5, qt5, pt6, qt6, pt7, qt7, pt8, qt8, pt9, qt9, pt10, qt10, pt11, qt11, pt12, qt12, pt13, qt13, pt14, qt14, pt15, qt15, xor_0tm]
set_option maxRecDepth 100000 in
set_option maxHeartbeats 4000000 in
theorem add_is (s0 s1 s2 s3 s4 s5 s6 s7 s8 s9 s10 s11 s12 s13 s14 s15 k0 k1 k2 k3 k4 k5 k6 k7 k8 k9 k10 k11 k12 k13 k14 k15 : Int) : xorS [s0, s1, s2, s3, s4, s5, s6, s7, s8, s9, s10, s11, s12, s13, s14, s15] [k0, k1, k2, k3, k4, k5, k6, k7, k8, k9, k10, k11, k12, k13, k14, k15] 16 = [Go.bits .xor .u8 s0 k0, Go.bits .xor .u8 s1 k1, Go.bits .xor .u8 s2 k2, Go.bits .xor .u8 s3 k3, Go.bits .xor .u8 s4 k4, Go.bits .xor .u8 s5 k5, Go.bits .xor .u8 s6 k6, Go.bits .xor .u8 s7 k7, Go.bits .xor .u8 s8 k8, Go.bits .xor .u8 s9 k9, Go.bits .xor .u8 s10 k10, Go.bits .xor .u8 s11 k11, Go.bits .xor .u8 s12 k12, Go.bits .xor .u8 s13 k13, Go.bits .xor .u8 s14 k14, Go.bits .xor .u8 s15 k15] := by
  simp [xorS, List.range, List.range.loop]
theorem by16_mk (l : List Int) (hl : l.length = 16) (h : ∀ i, 0 ≤ l.getD i 0 ∧ l.getD i 0 < 256) : By16 l := by
  refine ⟨hl, fun x hx => ?_⟩
  obtain ⟨i, hi, rfl⟩ := List.mem_iff_getElem.mp hx
  have := h i
  rw [List.getD_eq_getElem?_getD, List.getElem?_eq_getElem hi] at this
  exact this
theorem encR_by (ks : List (List Int)) (st : List Int) (h : By16 st) (n : Nat) : By16 (encR ks st n) := by16_mk _ (encR_length ks st h.1 n) (fun i => encR_rng ks st h.1 n i)
theorem turn_by (st : List Int) (h : By16 st) : By16 (partL (turnF st) 16) := by
  obtain ⟨s0, s1, s2, s3, s4, s5, s6, s7, s8, s9, s10, s11, s12, s13, s14, s15, rfl⟩ := len16 st h.1
  rw [turn_is]
  have hb := h.2
  refine ⟨rfl, fun y hy => ?_⟩
  simp only [List.mem_cons, List.not_mem_nil, or_false] at hy
  rcases hy with rfl | rfl | rfl | rfl | rfl | rfl | rfl | rfl | rfl | rfl | rfl | rfl | rfl | rfl | rfl | rfl <;> exact S_byte _ (hb _ (by simp)).1 (hb _ (by simp)).2
theorem refEnc_round (m : Nat) (xs : List (List Int)) (st K : List Int) (i : Nat) (hs : By16 st) (hk : By16 K) (hr : xs.getD i [] = K) (hl : i < xs.length) (h10 : i < 10) :
    charterref03_Encrypt.l1 (m + 9 + 51) aes_substitutes_L xs st i = charterref03_Encrypt.l1 (m + 9) aes_substitutes_L xs (stepE xs i st) ((i + 1 : Nat) : Int) := by
  have hr2 : rd_L1 xs (i : Int) = K := by rw [← hr]; rfl
  have ht := turn_by st hs
  unfold stepE
  rw [if_pos h10]
  obtain ⟨s0, s1, s2, s3, s4, s5, s6, s7, s8, s9, s10, s11, s12, s13, s14, s15, rfl⟩ := len16 st hs.1
  obtain ⟨k0, k1, k2, k3, k4, k5, k6, k7, k8, k9, k10, k11, k12, k13, k14, k15, rfl⟩ := len16 K hk.1
  have hb := hs.2
  rw [show m + 9 + 51 = (m + 9 + 25) + 25 + 1 from by omega, charterref03_Encrypt.l1, if_pos (by omega), if_pos (by decide)]
  rw [show (List.replicate 16 0 : List Int) = [0, 0, 0, 0, 0, 0, 0, 0, 0, 0, 0, 0, 0, 0, 0, 0] from rfl, refEnc_turn _ xs i s0 s1 s2 s3 s4 s5 s6 s7 s8 s9 s10 s11 s12 s13 s14 s15 (hb s0 (by simp)).1 (hb s0 (by simp)).2 (hb s1 (by simp)).1 (hb s1 (by simp)).2 (hb s2 (by simp)).1 (hb s2 (by simp)).2 (hb s3 (by simp)).1 (hb s3 (by simp)).2 (hb s4 (by simp)).1 (hb s4 (by simp)).2 (hb s5 (by simp)).1 (hb s5 (by simp)).2 (hb s6 (by simp)).1 (hb s6 (by simp)).2 (hb s7 (by simp)).1 (hb s7 (by simp)).2 (hb s8 (by simp)).1 (hb s8 (by simp)).2 (hb s9 (by simp)).1 (hb s9 (by simp)).2 (hb s10 (by simp)).1 (hb s10 (by simp)).2 (hb s11 (by simp)).1 (hb s11 (by simp)).2 (hb s12 (by simp)).1 (hb s12 (by simp)).2 (hb s13 (by simp)).1 (hb s13 (by simp)).2 (hb s14 (by simp)).1 (hb s14 (by simp)).2 (hb s15 (by simp)).1 (hb s15 (by simp)).2]
  rw [turn_is] at ht ⊢
  have htb := ht.2
  rw [mix_is xs i (S s0) (S s5) (S s10) (S s15) (S s4) (S s9) (S s14) (S s3) (S s8) (S s13) (S s2) (S s7) (S s12) (S s1) (S s6) (S s11) k0 k1 k2 k3 k4 k5 k6 k7 k8 k9 k10 k11 k12 k13 k14 k15 (htb _ (by simp)).1 (htb _ (by simp)).2 (htb _ (by simp)).1 (htb _ (by simp)).2 (htb _ (by simp)).1 (htb _ (by simp)).2 (htb _ (by simp)).1 (htb _ (by simp)).2 (htb _ (by simp)).1 (htb _ (by simp)).2 (htb _ (by simp)).1 (htb _ (by simp)).2 (htb _ (by simp)).1 (htb _ (by simp)).2 (htb _ (by simp)).1 (htb _ (by simp)).2 (htb _ (by simp)).1 (htb _ (by simp)).2 (htb _ (by simp)).1 (htb _ (by simp)).2 (htb _ (by simp)).1 (htb _ (by simp)).2 (htb _ (by simp)).1 (htb _ (by simp)).2 (htb _ (by simp)).1 (htb _ (by simp)).2 (htb _ (by simp)).1 (htb _ (by simp)).2 (htb _ (by simp)).1 (htb _ (by simp)).2 (htb _ (by simp)).1 (htb _ (by simp)).2 hr]
  rw [refEnc_mix m xs i s0 s1 s2 s3 s4 s5 s6 s7 s8 s9 s10 s11 s12 s13 s14 s15 (S s0) (S s5) (S s10) (S s15) (S s4) (S s9) (S s14) (S s3) (S s8) (S s13) (S s2) (S s7) (S s12) (S s1) (S s6) (S s11) k0 k1 k2 k3 k4 k5 k6 k7 k8 k9 k10 k11 k12 k13 k14 k15 (htb _ (by simp)).1 (htb _ (by simp)).2 (htb _ (by simp)).1 (htb _ (by simp)).2 (htb _ (by simp)).1 (htb _ (by simp)).2 (htb _ (by simp)).1 (htb _ (by simp)).2 (htb _ (by simp)).1 (htb _ (by simp)).2 (htb _ (by simp)).1 (htb _ (by simp)).2 (htb _ (by simp)).1 (htb _ (by simp)).2 (htb _ (by simp)).1 (htb _ (by simp)).2 (htb _ (by simp)).1 (htb _ (by simp)).2 (htb _ (by simp)).1 (htb _ (by simp)).2 (htb _ (by simp)).1 (htb _ (by simp)).2 (htb _ (by simp)).1 (htb _ (by simp)).2 (htb _ (by simp)).1 (htb _ (by simp)).2 (htb _ (by simp)).1 (htb _ (by simp)).2 (htb _ (by simp)).1 (htb _ (by simp)).2 (htb _ (by simp)).1 (htb _ (by simp)).2 hr2 (by omega) (by omega) (by omega), wrap_succ i (by omega)]
theorem refEnc_end (m : Nat) (xs : List (List Int)) (st K : List Int) (hs : By16 st) (hk : By16 K) (hr : xs.getD 10 [] = K) (hl : 10 < xs.length) :
    charterref03_Encrypt.l1 (m + 1 + 51) aes_substitutes_L xs st 10 = some (stepE xs 10 st) := by
  have hr2 : rd_L1 xs 10 = K := by rw [← hr]; rfl
  unfold stepE
  rw [if_neg (by decide)]
  obtain ⟨s0, s1, s2, s3, s4, s5, s6, s7, s8, s9, s10, s11, s12, s13, s14, s15, rfl⟩ := len16 st hs.1
  obtain ⟨k0, k1, k2, k3, k4, k5, k6, k7, k8, k9, k10, k11, k12, k13, k14, k15, rfl⟩ := len16 K hk.1
  have hb := hs.2
  rw [show m + 1 + 51 = (m + 1 + 25) + 25 + 1 from by omega, charterref03_Encrypt.l1, if_pos (by decide), if_pos (by decide)]
  rw [show (List.replicate 16 0 : List Int) = [0, 0, 0, 0, 0, 0, 0, 0, 0, 0, 0, 0, 0, 0, 0, 0] from rfl, refEnc_turn _ xs 10 s0 s1 s2 s3 s4 s5 s6 s7 s8 s9 s10 s11 s12 s13 s14 s15 (hb s0 (by simp)).1 (hb s0 (by simp)).2 (hb s1 (by simp)).1 (hb s1 (by simp)).2 (hb s2 (by simp)).1 (hb s2 (by simp)).2 (hb s3 (by simp)).1 (hb s3 (by simp)).2 (hb s4 (by simp)).1 (hb s4 (by simp)).2 (hb s5 (by simp)).1 (hb s5 (by simp)).2 (hb s6 (by simp)).1 (hb s6 (by simp)).2 (hb s7 (by simp)).1 (hb s7 (by simp)).2 (hb s8 (by simp)).1 (hb s8 (by simp)).2 (hb s9 (by simp)).1 (hb s9 (by simp)).2 (hb s10 (by simp)).1 (hb s10 (by simp)).2 (hb s11 (by simp)).1 (hb s11 (by simp)).2 (hb s12 (by simp)).1 (hb s12 (by simp)).2 (hb s13 (by simp)).1 (hb s13 (by simp)).2 (hb s14 (by simp)).1 (hb s14 (by simp)).2 (hb s15 (by simp)).1 (hb s15 (by simp)).2]
  rw [turn_is, hr, add_is]
  rw [refEnc_last (m + 1) xs 10 s0 s1 s2 s3 s4 s5 s6 s7 s8 s9 s10 s11 s12 s13 s14 s15 (S s0) (S s5) (S s10) (S s15) (S s4) (S s9) (S s14) (S s3) (S s8) (S s13) (S s2) (S s7) (S s12) (S s1) (S s6) (S s11) k0 k1 k2 k3 k4 k5 k6 k7 k8 k9 k10 k11 k12 k13 k14 k15 hr2 (by decide) (by omega) (by decide), charterref03_Encrypt.l1, if_neg (by decide +kernel)]
theorem refEnc_l1 (m : Nat) (ks : List (List Int)) (st : List Int) (hs : By16 st) (hk : ∀ i, i < 11 → By16 (ks.getD i [])) (hl : ks.length = 11) (n : Nat) : ∀ i, i + n = 10 →
    charterref03_Encrypt.l1 (m + 9 + 52 + 51 * n) aes_substitutes_L ks (encR ks st i) ((i + 1 : Nat) : Int) = some (encR ks st 10) := by
  induction n with
  | zero =>
    intro i hi
    obtain rfl : i = 10 := by omega
    rw [show m + 9 + 52 + 51 * 0 = (m + 9 + 51) + 1 from by omega, charterref03_Encrypt.l1, if_neg (by decide)]
  | succ n ih =>
    intro i hi
    have he := encR_by ks st hs i
    by_cases h9 : i = 9
    · subst h9
      obtain rfl : n = 0 := by omega
      have h := refEnc_end (m + 9 + 51) ks (encR ks st 9) _ he (hk 10 (by omega)) rfl (by omega)
      rw [show m + 9 + 52 + 51 * (0 + 1) = m + 9 + 51 + 1 + 51 from by omega]
      exact h
    · have h := refEnc_round (m + 52 + 51 * n) ks (encR ks st i) _ (i + 1) he (hk (i + 1) (by omega)) rfl (by omega) (by omega)
      rw [show m + 9 + 52 + 51 * (n + 1) = m + 52 + 51 * n + 9 + 51 from by omega, h, show m + 52 + 51 * n + 9 = m + 9 + 52 + 51 * n from by omega]
      exact ih (i + 1) (by omega)
theorem by16_nil : ∀ x ∈ ([] : List Int), 0 ≤ x ∧ x < 256 := by intro x hx; cases hx
theorem keys_by (l : List Int) (h : By16 l) (i : Nat) (hi : i < 11) : By16 ((kgo 10 [l] l 1).getD i []) := by
  have hl : (kgo 10 [l] l 1).length = 11 := kgo_length 10 [l] l 1
  rw [List.getD_eq_getElem?_getD, List.getElem?_eq_getElem (by omega)]
  exact kgo_by 10 [l] l 1 (by intro x hx; simp only [List.mem_singleton] at hx; subst hx; exact h) _ (List.getElem_mem _)
theorem keys_okK (l : List Int) (h : By16 l) : okK (kgo 10 [l] l 1) = true := by
  have hl : (kgo 10 [l] l 1).length = 11 := kgo_length 10 [l] l 1
  simp only [okK, hl, decide_true, Bool.true_and, List.all_eq_true, decide_eq_true_eq]
  intro x hx
  exact (kgo_by 10 [l] l 1 (by intro x hx; simp only [List.mem_singleton] at hx; subst hx; exact h) x hx).1
theorem aesEnc_ok (m : Nat) (key st : List Int) (hk : By16 key) (hs : By16 st) : aes_Encrypt.f (m + 181) key st = some (encR (kgo 10 [key] key 1) st 10, none) := by
  unfold aes_Encrypt.f
  rw [aesKeys_ok m key hk]
  simp only [Option.bind_some, Option.isNone_none, if_true]
  rw [if_pos hs.1, if_pos (keys_okK key hk)]
theorem refEnc_ok (m : Nat) (key st : List Int) (hk : By16 key) (hs : By16 st) : charterref03_Encrypt.f (m + 600) aes_substitutes_L key st = some (encR (kgo 10 [key] key 1) st 10) := by
  unfold charterref03_Encrypt.f
  have hK := refKeys_ok (m + 401) key hk
  rw [show 9 + (m + 401) + 190 = m + 600 from by omega] at hK
  rw [hK]
  simp only [Option.bind_some, List.nil_append, List.length_nil]
  rw [if_pos (by have := hs.1; omega)]
  have hl : (kgo 10 [key] key 1).length = 11 := kgo_length 10 [key] key 1
  have hk0 := keys_by key hk 0 (by decide)
  obtain ⟨K0, hK0⟩ : ∃ K0, K0 = (kgo 10 [key] key 1).getD 0 [] := ⟨_, rfl⟩
  have h1 := refEnc_l1 (m + 600 - 17 - 571) (kgo 10 [key] key 1) st hs (fun i hi => keys_by key hk i hi) hl 10 0 rfl
  rw [show m + 600 - 17 - 571 + 9 + 52 + 51 * 10 = m + 583 from by omega, show ((0 + 1 : Nat) : Int) = 1 from rfl] at h1
  rw [encR, ← hK0] at h1
  rw [← hK0] at hk0
  have hr2 : rd_L1 (kgo 10 [key] key 1) 0 = K0 := by rw [hK0]; rfl
  obtain ⟨a0, a1, a2, a3, a4, a5, a6, a7, a8, a9, a10, a11, a12, a13, a14, a15, rfl⟩ := len16 st hs.1
  obtain ⟨k0, k1, k2, k3, k4, k5, k6, k7, k8, k9, k10, k11, k12, k13, k14, k15, hKK⟩ := len16 K0 hk0.1
  rw [hKK] at hr2 h1
  rw [add_is] at h1
  rw [show m + 600 = m + 583 + 17 from by omega, refEnc_add (m + 583) _ a0 a1 a2 a3 a4 a5 a6 a7 a8 a9 a10 a11 a12 a13 a14 a15 k0 k1 k2 k3 k4 k5 k6 k7 k8 k9 k10 k11 k12 k13 k14 k15 hr2 (by omega)]
  exact h1
end Go.Proofs.Ytpcdkfbngoagnaa.Pure
