/- The walk of NetPlays. -/
import Derived.Test.YtihhbphlhckakaaNetDo0
import Derived.Test.YtihhbphlhckakaaNetDo1
import Derived.Test.YtihhbphlhckakaaNetDo2
import Derived.Test.YtihhbphlhckakaaNetDo3
import Derived.Test.YtihhbphlhckakaaNetDo4
import Derived.Test.YtihhbphlhckakaaNetDo5
import Derived.Test.YtihhbphlhckakaaNetDo6
namespace Go.Proofs.Ytihhbphlhckakaa
open Go Go.RowKit Go.Lib

theorem does_all (g : Nat) (F : List Nat) (L : List Lr) (a : Option Addr) (c d : Nat) (k bit fr to : Int) (xa : Option Addr) (xc : Nat) (bs : List UInt8) (w : World) (h : NetW w g F L) (ho : OwnR w a c L) (hl : L.length ≤ 256) (hz : ∀ x ∈ L, x.2.2.length ≤ 100)
    (hd : ∀ j, j ∈ blk a → j ∉ F) (hs : Sees w xa bs) (hsm : ∀ w', Mod F w w' → Sees w' xa bs) (hb : bs.length ≤ 100) (hmx : bit ≤ 9223372036854775807) :
    Calls Try.prog 16 #[.pointer (some ⟨g, 0, none⟩), .slice a L.length c, .agg #[.int .u8 (d : Int), .int .i64 k, .int .i64 bit, .int .i64 fr, .int .i64 to, .slice xa bs.length xc]] w fun e w' => Did w g F a e w' := by
  have hr : ∀ r : Nat, d % 7 = r → ((d : Int)).tmod 7 = (r : Int) := fun r h => by rw [← h]; rfl
  have hc : d % 7 = 0 ∨ d % 7 = 1 ∨ d % 7 = 2 ∨ d % 7 = 3 ∨ d % 7 = 4 ∨ d % 7 = 5 ∨ d % 7 = 6 := by omega
  rcases hc with e | e | e | e | e | e | e
  · exact does_send g F L a c d k bit fr to xa xc bs w h ho hl hz hd hs hb hmx (hr _ e)
  · exact does_take g F L a c d k bit fr to xa xc bs w h ho hl hz hd hs hb hmx (hr _ e)
  · exact does_drop g F L a c d k bit fr to xa xc bs w h ho hl hz hd hs hb hmx (hr _ e)
  · exact does_double g F L a c d k bit fr to xa xc bs w h ho hl hz hd hs hb hmx (hr _ e)
  · exact does_hold g F L a c d k bit fr to xa xc bs w h ho hl hz hd hs hb hmx (hr _ e)
  · exact does_spoil g F L a c d k bit fr to xa xc bs w h ho hl hz hd hs hb hmx (hr _ e)
  · exact does_many g F L a c d k bit fr to xa xc bs w h ho hl hz hd hs hsm hb hmx (hr _ e)

set_option maxRecDepth 100000 in
set_option maxHeartbeats 4000000 in
theorem netPlays_any (ao : Option Addr) (len cap : Nat) (l : List Ac) (w : World) (hl : l.length = len) (hs : SeesA w ao l) (hlen : len ≤ 9223372036854775807) :
    Calls Try.prog 4 #[.slice ao len cap] w fun e w' => e = .returned (.bool true) ∧ Mod [] w w' := by
  have HS := Lib.hid hs
  have hg := great18_any ao len cap l w hl hs hlen
  subst hl
  have HG := Lib.hid hg
  clear hs hg
  go_enter Try.func4, Try.ntmps4
  go_wp2_with fail
  refine HG.out.mono ?_
  rintro e w0 ⟨b, rfl, m0, hb⟩
  cases b with
  | true =>
    have M0 := Lib.hid m0
    clear m0 hb
    go_wp2_with fail
    refine (wakes18_any _).mono ?_
    rintro e wz ⟨rfl, mz⟩
    have MZ := Lib.hid (M0.out.trans' mz)
    clear mz
    go_wp2
    go_ret
    exact ⟨rfl, MZ.out⟩
  | false =>
    have hb1 := (hb rfl).1
    have HB := Lib.hid (hb rfl).2
    have M0 := Lib.hid m0
    clear m0 hb
    go_wp2_with fail
    refine (new_any _).mono ?_
    rintro e w1 ⟨g, rfl, h1, m1, z1⟩
    have H1 := Lib.hid h1
    have M1 := Lib.hid (M0.out.trans' m1)
    have Z1 : Hid (w.heap.size ≤ g) := Nat.le_trans M0.out.size z1
    clear h1 m1 z1
    go_wp2_with fail
    go_loopw [4, 5] (fun row i wr => ∃ (k : Nat) (a : Option Addr) (c : Nat) (L : List Lr) (F : List Nat), k ≤ l.length ∧ i = .int .i64 (k : Int) ∧ row = .slice a L.length c ∧ OwnR wr a c L ∧ NetW wr g F L ∧ L.length ≤ 256 ∧ (∀ x ∈ L, x.2.2.length ≤ 100) ∧
      (∀ j, j ∈ blk a → j ∉ F) ∧ (∀ j, j ∈ blk a → w.heap.size ≤ j) ∧ (∀ j, j ∈ F → w.heap.size ≤ j) ∧ Mod [] w wr) (fun _ i _ => l.length - (intOf i).toNat)
    case atStart => exact ⟨0, none, 0, [], [g], Nat.zero_le _, rfl, rfl, Own.nil0 _ _ _, H1.out, by simp, by simp, by simp [blk], by simp [blk], fun j hj => by simp at hj; subst hj; exact Z1.out, M1.out⟩
    case round =>
      obtain ⟨k, a, c, L, F, hk, rfl, rfl, hown, hnet, hll, hlz, hd, ha, hF, hm⟩ := hrel
      have HO := Lib.hid hown
      have HN := Lib.hid hnet
      have HZ := Lib.hid hlz
      have HD := Lib.hid hd
      have HA := Lib.hid ha
      have HF := Lib.hid hF
      have M := Lib.hid hm
      clear hown hnet hlz hd ha hF hm
      by_cases hlt : k < l.length
      · obtain ⟨b, off, rfl, p0, p1, p2, p3, p4, p5, ps, h9, h10⟩ := (HS.out.mod0 M.out) k hlt
        have hsw : Sees w l[k].2.2.2.2.2.1 l[k].2.2.2.2.2.2.2 := by
          obtain ⟨_, _, _, _, _, _, _, _, _, hsw, _, _⟩ := HS.out k hlt
          exact hsw
        have hbl := HB.out _ (List.getElem_mem hlt)
        obtain ⟨⟨d, kk, bit, fr, to, xa, xc, bs⟩, hx⟩ : ∃ x, l[k] = x := ⟨_, rfl⟩
        rw [hx] at p0 p1 p2 p3 p4 p5 ps h9 h10 hbl hsw
        dsimp only at p0 p1 p2 p3 p4 p5 ps h9 h10 hbl hsw
        clear hx
        have hsm : ∀ w', Mod F wr w' → Sees w' xa bs := fun w' hm' => hsw.mod0 (M.out.only2 hm' HF.out)
        have HSM := Lib.hid hsm
        have PS := Lib.hid ps
        clear hsm ps hsw
        go_wp2_with fail
        refine (does_all g F L a c d kk bit fr to xa xc bs _ HN.out HO.out hll HZ.out HD.out PS.out HSM.out hbl h10).mono ?_
        rintro e w2 ⟨a2, c2, L2, F2, rfl, n2, o2, l2, z2, m2, f2, d2, s2⟩
        have N2 := Lib.hid n2
        have O2 := Lib.hid o2
        have Z2 := Lib.hid z2
        have D2 := Lib.hid d2
        have A2 : Hid (∀ j, j ∈ blk a2 → w.heap.size ≤ j) := fun j hj => (s2 j hj).elim (HA.out j) (fun h => Nat.le_trans M.out.size h)
        have F2' : Hid (∀ j, j ∈ F2 → w.heap.size ≤ j) := fun j hj => (f2 j hj).elim (HF.out j) (fun h => Nat.le_trans M.out.size h)
        have M2 := Lib.hid (M.out.only2 m2 HF.out)
        clear n2 o2 z2 d2 s2 f2 m2 p0 p1 p2 p3 p4 p5 PS HSM HO HN HZ HD HA HF M
        go_wp2_with fail
        refine (same18_any g F2 L2 a2 c2 _ N2.out O2.out l2 (fun x hx => Nat.le_trans (Z2.out x hx) (by omega))).mono ?_
        rintro e w3 ⟨rfl, m3⟩
        have N3 := Lib.hid (N2.out.mod0 m3)
        have O3 := Lib.hid (Own.mod0 O2.out m3)
        have M3 := Lib.hid (M2.out.trans' m3)
        clear m3 N2 O2 M2
        go_wp2
        go_roundw
        case rel => exact ⟨k + 1, a2, c2, L2, F2, by omega, by go_num, rfl, O3.out, N3.out, l2, Z2.out, D2.out, A2.out, F2'.out, M3.out⟩
        case measure => simp [intOf]; omega
      · have hke : k = l.length := by omega
        subst hke
        go_wp2_with fail
        refine (wakes18_any _).mono ?_
        rintro e wz ⟨rfl, mz⟩
        have MZ := Lib.hid (M.out.trans' mz)
        clear mz
        go_wp2
        go_ret
        exact ⟨rfl, MZ.out⟩
end Go.Proofs.Ytihhbphlhckakaa
