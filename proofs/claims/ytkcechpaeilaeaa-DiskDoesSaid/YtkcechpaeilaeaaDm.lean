/- The device as data, and how it lies in memory. -/
import Derived.Test.YtkcechpaeilaeaaProg
import Derived.Test.YtkcechpaeilaeaaRng
namespace Go.Proofs.Ytkcechpaeilaeaa
open Go.RowKit

structure DM where
  st : List (List Int)
  ws : List (Nat × List Int)
  off : Bool
  armed : Bool
  left : Int
  ops : Int

def wcell (x : Nat × List Int) : List Value := .int .i64 (x.1 : Int) :: u8s x.2
def wcells (ws : List (Nat × List Int)) : List Value := ws.flatMap wcell
def scells (st : List (List Int)) : List Value := st.flatMap u8s

/-- The place of the last write of a page. -/
def lastI (p : Nat) : List (Nat × List Int) → Option Nat
  | [] => none
  | x :: r => match lastI p r with
    | some i => some (i + 1)
    | none => if x.1 = p then some 0 else none

/-- What the map of the device has at a key. -/
def showsAt (ws : List (Nat × List Int)) (k : Int) : Option Value := if 0 ≤ k then (lastI k.toNat ws).map (fun i : Nat => Value.int .i64 (i : Int)) else none

structure DM.Ok (M : DM) : Prop where
  pos : 0 < M.st.length
  most : M.st.length ≤ 2048
  st : ∀ b ∈ M.st, b.length = 256
  ws : ∀ x ∈ M.ws, x.1 < M.st.length ∧ x.2.length = 256
  few : M.ws.length ≤ 1073741824
  left0 : 0 ≤ M.left
  left1 : M.left ≤ 9223372036854775807
  ops0 : 0 ≤ M.ops
  ops1 : M.ops ≤ 1073741824

structure DiskP (w : World) (d : Nat) (M : DM) (F : Nat → Prop) (S cS m : Nat) (wv : Value) (spare : List Value) (L : List (Int × Value)) : Prop where
  blk : Blk w d [.slice (some ⟨S, 0, none⟩) M.st.length cS, wv, .map (some m), .bool M.off, .bool M.armed, .int .i64 M.left, .int .i64 M.ops] 61
  stb : Blk w S (scells M.st ++ spare) 68
  cap : M.st.length ≤ cS
  map : IMap w m L
  shows : ∀ k : Int, mget L k = showsAt M.ws k
  waits : w.ownsRow 0 70 257 wv M.ws.length (wcells M.ws)
  fd : F d
  fS : F S
  fm : F m
  fw : ∀ k, wv.ownBlock = some k → F k
  lt : ∀ k, F k → k < w.heap.size

/-- The device M lies at block d, and has no block outside F. -/
def DiskAt (w : World) (d : Nat) (M : DM) (F : Nat → Prop) : Prop := M.Ok ∧ ∃ S cS m wv spare L, DiskP w d M F S cS m wv spare L

theorem ownsRow_keep {w w' : World} {base : Nat} {e : TypeId} {size n : Nat} {v : Value} {xs : List Value} (h : w.ownsRow base e size v n xs) (hb : ∀ k, v.ownBlock = some k → k < w.heap.size → w'.heap[k]? = w.heap[k]?) : w'.ownsRow base e size v n xs := by
  obtain ⟨h1, h2⟩ := h
  refine ⟨h1, ?_⟩
  rcases h2 with h2 | ⟨g, cap, cur, rfl, hg, hh, r⟩
  · exact .inl h2
  · exact .inr ⟨g, cap, cur, rfl, hg, (hb g rfl (blk_lt hh)).trans hh, r⟩
theorem ownsRow_typed {w : World} {base : Nat} {e : TypeId} {size n : Nat} {v : Value} {xs : List Value} (h : w.ownsRow base e size v n xs) {k : Nat} (hk : v.ownBlock = some k) : ∃ cells, w.heap[k]? = some (.cells cells e (0, 0)) := by
  rcases h.2 with ⟨rfl, _⟩ | ⟨g, cap, cur, rfl, hg, hh, r⟩
  · simp [Value.ownBlock] at hk
  · have : g = k := by simpa [Value.ownBlock] using hk
    subst this
    exact ⟨cur, hh⟩

section
variable {w : World} {d : Nat} {M : DM} {F : Nat → Prop} {S cS m : Nat} {wv : Value} {spare : List Value} {L : List (Int × Value)}
theorem DiskP.c0 (h : DiskP w d M F S cS m wv spare L) : w.cell? ⟨d, 0, none⟩ = some (.slice (some ⟨S, 0, none⟩) M.st.length cS) := by rw [Blk.cell h.blk]; rfl
theorem DiskP.c1 (h : DiskP w d M F S cS m wv spare L) : w.cell? ⟨d, 1, none⟩ = some wv := by rw [Blk.cell h.blk]; rfl
theorem DiskP.c2 (h : DiskP w d M F S cS m wv spare L) : w.cell? ⟨d, 2, none⟩ = some (.map (some m)) := by rw [Blk.cell h.blk]; rfl
theorem DiskP.c3 (h : DiskP w d M F S cS m wv spare L) : w.cell? ⟨d, 3, none⟩ = some (.bool M.off) := by rw [Blk.cell h.blk]; rfl
theorem DiskP.c4 (h : DiskP w d M F S cS m wv spare L) : w.cell? ⟨d, 4, none⟩ = some (.bool M.armed) := by rw [Blk.cell h.blk]; rfl
theorem DiskP.c5 (h : DiskP w d M F S cS m wv spare L) : w.cell? ⟨d, 5, none⟩ = some (.int .i64 M.left) := by rw [Blk.cell h.blk]; rfl
theorem DiskP.c6 (h : DiskP w d M F S cS m wv spare L) : w.cell? ⟨d, 6, none⟩ = some (.int .i64 M.ops) := by rw [Blk.cell h.blk]; rfl
theorem DiskP.fr (h : DiskP w d M F S cS m wv spare L) (i : Nat) : w.frozen? ⟨d, i, none⟩ = false := Blk.free h.blk i
theorem DiskP.d_ne_S (h : DiskP w d M F S cS m wv spare L) : d ≠ S := by
  rintro rfl; have a := h.blk; have b := h.stb; unfold Blk at a b; rw [a] at b; injection b with b; injection b with _ b; cases b
theorem DiskP.m_ne {k : Nat} {cs : Array Value} {t : TypeId} {fr : Nat × Nat} (h : DiskP w d M F S cS m wv spare L) (hk : w.heap[k]? = some (.cells cs t fr)) : m ≠ k := by
  rintro rfl; obtain ⟨t, clk, hb, -⟩ := h.map; rw [hb] at hk; injection hk with hk; cases hk
theorem DiskP.w_ne {k : Nat} {cs : Array Value} {t : TypeId} {fr : Nat × Nat} (h : DiskP w d M F S cS m wv spare L) (hk : w.heap[k]? = some (.cells cs t fr)) (ht : t ≠ 70) : wv.ownBlock ≠ some k := by
  intro e; obtain ⟨c, hc⟩ := ownsRow_typed h.waits e; rw [hk] at hc; injection hc with hc; injection hc with _ hc; exact ht hc
/-- The device stays while none of its blocks is written. -/
theorem DiskP.keep {w' : World} (h : DiskP w d M F S cS m wv spare L) {X : Nat → Prop} (hk : Kp X w w') (hX : ∀ k, F k → ¬ X k) : DiskP w' d M F S cS m wv spare L where
  blk := hk.keeps h.blk (hX _ h.fd)
  stb := hk.keeps h.stb (hX _ h.fS)
  cap := h.cap
  map := h.map.keep (hk.block _ h.map.lt (hX _ h.fm))
  shows := h.shows
  waits := ownsRow_keep h.waits (fun k hk' hl => hk.block k hl (hX _ (h.fw k hk')))
  fd := h.fd
  fS := h.fS
  fm := h.fm
  fw := h.fw
  lt := fun k hk' => Nat.lt_of_lt_of_le (h.lt k hk') hk.size
/-- A field of the device is written. -/
theorem DiskP.field {w' : World} (h : DiskP w d M F S cS m wv spare L) {M' : DM} (hk : Kp (· = d) w w') (hst : M'.st = M.st) (hws : M'.ws = M.ws)
    (hb : Blk w' d [.slice (some ⟨S, 0, none⟩) M.st.length cS, wv, .map (some m), .bool M'.off, .bool M'.armed, .int .i64 M'.left, .int .i64 M'.ops] 61) : DiskP w' d M' F S cS m wv spare L where
  blk := by rw [hst]; exact hb
  stb := by rw [hst]; exact hk.keeps h.stb (fun e => h.d_ne_S e.symm)
  cap := by rw [hst]; exact h.cap
  map := h.map.keep (hk.block _ h.map.lt (h.m_ne h.blk))
  shows := by rw [hws]; exact h.shows
  waits := by rw [hws]; exact ownsRow_keep h.waits (fun k hk' hl => hk.block k hl (fun e => h.w_ne h.blk (by decide) (by rw [hk', e])))
  fd := h.fd
  fS := h.fS
  fm := h.fm
  fw := h.fw
  lt := fun k hk' => Nat.lt_of_lt_of_le (h.lt k hk') hk.size
end
theorem DiskAt.keep {w w' : World} {d : Nat} {M : DM} {F : Nat → Prop} (h : DiskAt w d M F) {X : Nat → Prop} (hk : Kp X w w') (hX : ∀ k, F k → ¬ X k) : DiskAt w' d M F := by
  obtain ⟨hok, S, cS, m, wv, spare, L, hp⟩ := h
  exact ⟨hok, S, cS, m, wv, spare, L, hp.keep hk hX⟩
theorem DiskAt.lt {w : World} {d : Nat} {M : DM} {F : Nat → Prop} (h : DiskAt w d M F) : ∀ k, F k → k < w.heap.size := by
  obtain ⟨hok, S, cS, m, wv, spare, L, hp⟩ := h
  exact hp.lt
theorem DiskAt.own {w : World} {d : Nat} {M : DM} {F : Nat → Prop} (h : DiskAt w d M F) : F d := by
  obtain ⟨hok, S, cS, m, wv, spare, L, hp⟩ := h
  exact hp.fd
theorem ret_int {k : IntKind} {a b : Int} (h : a = b) : Ending.returned (.int k a) = .returned (.int k b) := by rw [h]
theorem ret_bool {a b : Bool} (h : a = b) : Ending.returned (.bool a) = .returned (.bool b) := by rw [h]
end Go.Proofs.Ytkcechpaeilaeaa
