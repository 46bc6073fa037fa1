/-
  Own work: part 9 of the texts that the proof of the given statement leans on.
-/
import Derived.Test.YtdkfcdncamimmaaGreatDoorZParseBookCardP01
namespace Go.Di
end Go.Di
namespace Go.Di
/-! ### Marks -/
theorem size_one (n:Int):(bytesOf [n]).size = 1:=rfl
theorem mark_loopT:∀ (n:Nat) (k:Int) (out:ByteArray),k ≤ n → 0 ≤ k → out.size + n ≤ 4000000000 → ∃ b,whileO S_laws_markText_0 (k,out,()) = some (b,()) ∧ b.size ≤ out.size + n
  | n,k,out,h1,h0,hs => by
    by_cases hk:0 < k
    · have hn:0 < n:=by omega
      have hq:k.tdiv 10 ≤ ((n / 10:Nat):Int) ∧ 0 ≤ k.tdiv 10:=by
        rw [Int.tdiv_eq_ediv_of_nonneg h0]; omega
      have hw:IntKind.i64.wrap (k.tdiv 10) = k.tdiv 10:=wrap_i64 (by omega) (by omega)
      have hg:guardO (Nat.ble ((bytesOf ([IntKind.u8.wrap (IntKind.i64.wrap (48 + (k.tmod 10)))]:List Int)).size + out.size) 4611686018427387904) = some ():=by
        have:Nat.ble ((bytesOf ([IntKind.u8.wrap (IntKind.i64.wrap (48 + (k.tmod 10)))]:List Int)).size + out.size) 4611686018427387904 = true:=Nat.ble_eq_true_of_le (by rw [size_one]; omega)
        rw [this]; rfl
      have hlt:n / 10 < n:=by omega
      have hsz:((bytesOf ([IntKind.u8.wrap (IntKind.i64.wrap (48 + (k.tmod 10)))]:List Int)) ++ out).size = 1 + out.size:=by rw [ByteArray.size_append,size_one]
      obtain ⟨b,e,hb⟩:=mark_loopT (n / 10) (k.tdiv 10) ((bytesOf ([IntKind.u8.wrap (IntKind.i64.wrap (48 + (k.tmod 10)))]:List Int)) ++ out) hq.1 hq.2 (by rw [hsz]; omega)
      refine ⟨b,?_,by rw [hsz] at hb; omega⟩
      rw [← e]
      refine whileO_inl ?_
      have hd:decide (k > 0) = true:=decide_eq_true hk
      simp only [S_laws_markText_0,hd,cond_true,hg,Option.bind_some,hw]
    · have hd:decide (k > 0) = false:=decide_eq_false hk
      exact ⟨out,whileO_inr (by simp only [S_laws_markText_0,hd,cond_false]),by omega⟩
theorem mark_text {k:Int} (h0:0 ≤ k) (h1:k ≤ 3000000000):∃ b,M_laws_markText k = some b:=by
  unfold M_laws_markText L_laws_markText_0
  cases decide (k ≤ 0) with
  | true => exact ⟨_,rfl⟩
  | false =>
    obtain ⟨b,e,hb⟩:=mark_loopT k.toNat k ⟨#[]⟩ (by omega) h0 (by show 0 + k.toNat ≤ 4000000000; omega)
    have hb:b.size ≤ 0 + k.toNat:=hb
    simp only [cond_false,e,Option.bind_some]
    have:Nat.ble ((⟨#[109]⟩:ByteArray).size + b.size) 4611686018427387904 = true:=Nat.ble_eq_true_of_le (by show 1 + b.size ≤ _; omega)
    rw [this]; exact ⟨_,rfl⟩
def wS (s:Sta):Nat:=4 + s.x.mag.length + s.x.den.length + s.y.mag.length + s.y.den.length
noncomputable def mkS (k:Int) (s:Sta):Sta :=
  ⟨(M_laws_markText k).getD ⟨#[]⟩,⟨((k + 1).tmod 3) == 0,upto (k + 2) s.x.mag.length,upto (k + 2 + s.x.mag.length) s.x.den.length⟩,
    ⟨((k + 2 + s.x.mag.length + s.x.den.length).tmod 3) == 0,upto (k + 2 + s.x.mag.length + s.x.den.length + 1) s.y.mag.length,upto (k + 2 + s.x.mag.length + s.x.den.length + 1 + s.y.mag.length) s.y.den.length⟩,
    ((k + 2 + s.x.mag.length + s.x.den.length + 1 + s.y.mag.length + s.y.den.length).tmod 3) == 0⟩
theorem mark_stas {a:List Sta} (ha:lfit Sta.fit a) (hw:ws wS a ≤ 1000000000) {k:Int} (h0:0 ≤ k) (h1:k ≤ 1000000000):M_laws_markStationS_md a k = some (k + (ws wS a:Nat),marks mkS wS k a):=by
  unfold M_laws_markStationS_md L_laws_markStationS_md_0
  rw [mark_loop (mk:=mkS) (w:=wS) (B:=2000000000) h0 (by omega) (fun i K c hi q0 q1 hl hc => ?_) (fun K c hl => by simp [S_laws_markStationS_md_0,hl])]
  · rfl
  · have hlt:=lt_of_get hc
    have hf:=ha.2 _ (List.getElem_mem hi)
    have f1:=hf.1.1
    have f2:=hf.1.2
    have f3:=hf.2.1
    have f4:=hf.2.2
    obtain ⟨b,hb⟩:=mark_text (k:=K) q0 (by omega)
    generalize hx:a[i] = x at *
    have e1:IntKind.i64.wrap (K + 1) = K + 1:=wrap_i64 (by omega) (by omega)
    have e2:IntKind.i64.wrap (K + 1 + 1) = K + 2:=by rw [wrap_i64 (by omega) (by omega)]; omega
    have e5:IntKind.i64.wrap (K + 2 + (x.x.mag.length:Int) + (x.x.den.length:Int) + 1) = K + 2 + (x.x.mag.length:Int) + (x.x.den.length:Int) + 1:=wrap_i64 (by omega) (by omega)
    have e6:IntKind.i64.wrap (K + 2 + (x.x.mag.length:Int) + (x.x.den.length:Int) + 1 + (x.y.mag.length:Int) + (x.y.den.length:Int) + 1) = K + 2 + (x.x.mag.length:Int) + (x.x.den.length:Int) + 1 + (x.y.mag.length:Int) + (x.y.den.length:Int) + 1:=wrap_i64 (by omega) (by omega)
    simp only [S_laws_markStationS_md_0,dlt hlt,cond_true,hb,get_int hc,Option.bind_some,Int.toNat_natCast,hc,idx_set hlt,get_set hlt,List.set_set,e1,e2,
      mark_ints f1 (show 0 ≤ K + 2 by omega) (by omega),mark_ints f2 (show 0 ≤ K + 2 + (x.x.mag.length:Int) by omega) (by omega),e5,
      mark_ints f3 (show 0 ≤ K + 2 + (x.x.mag.length:Int) + (x.x.den.length:Int) + 1 by omega) (by omega),
      mark_ints f4 (show 0 ≤ K + 2 + (x.x.mag.length:Int) + (x.x.den.length:Int) + 1 + (x.y.mag.length:Int) by omega) (by omega),e6,succ_wrap hi ha.1,mkS,Option.getD_some]
    congr 3
    unfold wS; omega
theorem held_stas {a:List Sta} (ha:lfit Sta.fit a) (hw:ws wS a ≤ 1000000000) {k:Int} (h0:0 ≤ k) (h1:k ≤ 1000000000):M_laws_heldStationS (marks mkS wS k a) k = some (k + (ws wS a:Nat)):=by
  unfold M_laws_heldStationS L_laws_heldStationS_0
  rw [held_loop (mk:=mkS) (w:=wS) (B:=2000000000) h0 (by omega) (fun i K c hi q0 q1 hl hc => ?_) (fun K c hl => by simp [S_laws_heldStationS_0,hl])]
  · rfl
  · have hlt:=lt_of_get hc
    have hf:=ha.2 _ (List.getElem_mem hi)
    have f1:=hf.1.1
    have f2:=hf.1.2
    have f3:=hf.2.1
    have f4:=hf.2.2
    obtain ⟨b,hb⟩:=mark_text (k:=K) q0 (by omega)
    generalize hx:a[i] = x at *
    have e1:IntKind.i64.wrap (K + 1) = K + 1:=wrap_i64 (by omega) (by omega)
    have e2:IntKind.i64.wrap (K + 1 + 1) = K + 2:=by rw [wrap_i64 (by omega) (by omega)]; omega
    have e5:IntKind.i64.wrap (K + 2 + (x.x.mag.length:Int) + (x.x.den.length:Int) + 1) = K + 2 + (x.x.mag.length:Int) + (x.x.den.length:Int) + 1:=wrap_i64 (by omega) (by omega)
    have e6:IntKind.i64.wrap (K + 2 + (x.x.mag.length:Int) + (x.x.den.length:Int) + 1 + (x.y.mag.length:Int) + (x.y.den.length:Int) + 1) = K + 2 + (x.x.mag.length:Int) + (x.x.den.length:Int) + 1 + (x.y.mag.length:Int) + (x.y.den.length:Int) + 1:=wrap_i64 (by omega) (by omega)
    simp only [S_laws_heldStationS_0,dlt hlt,cond_true,get_int hc,Option.bind_some,hb,e1,e2,e5,e6,mkS,Option.getD_some,strEq_self,beq_self_eq_true,Bool.not_true,cond_false,
      held_ints f1 (show 0 ≤ K + 2 by omega) (by omega),held_ints f2 (show 0 ≤ K + 2 + (x.x.mag.length:Int) by omega) (by omega),
      held_ints f3 (show 0 ≤ K + 2 + (x.x.mag.length:Int) + (x.x.den.length:Int) + 1 by omega) (by omega),
      held_ints f4 (show 0 ≤ K + 2 + (x.x.mag.length:Int) + (x.x.den.length:Int) + 1 + (x.y.mag.length:Int) by omega) (by omega),succ_wrap hi ha.1,
      dneg (show 0 ≤ K + 2 + (x.x.mag.length:Int) by omega),dneg (show 0 ≤ K + 2 + (x.x.mag.length:Int) + (x.x.den.length:Int) by omega),
      dneg (show 0 ≤ K + 2 + (x.x.mag.length:Int) + (x.x.den.length:Int) + 1 + (x.y.mag.length:Int) by omega),
      dneg (show 0 ≤ K + 2 + (x.x.mag.length:Int) + (x.x.den.length:Int) + 1 + (x.y.mag.length:Int) + (x.y.den.length:Int) by omega)]
    congr 4
    unfold wS; omega
theorem mark_net {n:Net} (ha:lfit Sta.fit n.stations) (hw:ws wS n.stations ≤ 1000000000) {k:Int} (h0:0 ≤ k) (h1:k ≤ 1000000000):M_laws_markNetwork_md n k = some (k + (ws wS n.stations:Nat),marks mkS wS k n.stations):=by
  unfold M_laws_markNetwork_md
  rw [mark_stas ha hw h0 h1]; rfl
theorem held_net {a:List Sta} {p:Bool} (ha:lfit Sta.fit a) (hw:ws wS a ≤ 1000000000) {k:Int} (h0:0 ≤ k) (h1:k ≤ 1000000000):M_laws_heldNetwork ⟨p,marks mkS wS k a⟩ k = some (k + (ws wS a:Nat)):=by
  unfold M_laws_heldNetwork
  simp only [held_stas ha hw h0 h1,Option.bind_some]
  rw [dneg (by omega)]; rfl
structure Sfit (l:List Sta):Prop where
  fit:lfit Sta.fit l
  few:ws wS l ≤ 1000000000
/-! ### Lists whose first elements are changed -/
/-! ### Copies -/
/-! ### Sums -/
/-! ### Shifted networks -/
/-! ### Moved networks -/
end Go.Di
namespace Go.Di
def bl (l:List UInt8):ByteArray:=⟨l.toArray⟩
theorem bl_size (l:List UInt8):(bl l).size = l.length:=by simp [bl,ByteArray.size]
theorem bl_list (s:ByteArray):bl s.data.toList = s:=by cases s; simp [bl]
theorem bl_app (a b:List UInt8):bl a ++ bl b = bl (a ++ b):=by
  apply ByteArray.ext
  simp [bl]
theorem bl_data (l:List UInt8):(bl l).data.toList = l:=by simp [bl]
theorem bl_bytes (xs:List Int):bytesOf xs = bl (xs.map fun n => UInt8.ofNat n.toNat):=rfl
theorem sz_app (a b:ByteArray):(a ++ b).size = a.size + b.size:=ByteArray.size_append
theorem grd {n:Nat} (h:n ≤ 4611686018427387904) {α:Type} (f:Unit → Option α):((guardO (Nat.ble n 4611686018427387904)).bind f) = f ():=by
  rw [show Nat.ble n 4611686018427387904 = true by simpa using h]; rfl
noncomputable def dcB (u:Nat):ByteArray:=bl (Lib.decDigits u)
theorem dcB_size (u:Nat):(dcB u).size = Lib.nDigits u:=by rw [dcB,bl_size,Lib.decDigits_length]
theorem nDigits_le:∀ (k u:Nat),u < 10 ^ (k + 1) → Lib.nDigits u ≤ k + 1
  | 0,u,h => Nat.le_of_eq (Lib.nDigits_small (by simpa using h))
  | k + 1,u,h => by
    by_cases h1:u < 10
    · rw [Lib.nDigits_small h1]; omega
    · rw [Lib.nDigits_big h1]
      have:=nDigits_le k (u / 10) (by rw [Nat.div_lt_iff_lt_mul (by omega)]; rw [Nat.pow_succ] at h; exact h)
      omega
theorem dcB_le {u:Nat} (h:u < 1000000000):(dcB u).size ≤ 9:=by rw [dcB_size]; exact nDigits_le 8 u (by omega)
theorem dig_byte {d:Nat} (h:d < 10):bytesOf [IntKind.u8.wrap (IntKind.i64.wrap (48 + (d:Int)))] = bl [UInt8.ofNat (48 + d)]:=by
  rw [wrap_i64 (by omega) (by omega)]
  have:IntKind.u8.wrap (48 + (d:Int)) = 48 + (d:Int):=by
    simp only [IntKind.wrap,IntKind.bits,IntKind.signed]
    simp
    omega
  rw [this,bl_bytes]
  simp only [List.map_cons,List.map_nil]
  congr 1
theorem dcB_small {u:Nat} (h:u < 10):dcB u = bl [UInt8.ofNat (48 + u)]:=by rw [dcB,Lib.decDigits,dif_pos h]
theorem dcB_big {u:Nat} (h:¬ u < 10):dcB u = dcB (u / 10) ++ bl [UInt8.ofNat (48 + u % 10)]:=by rw [dcB,Lib.decDigits,dif_neg h,dcB,bl_app]
theorem spec_fmtInt {u:Nat} (h:u < 1000000000000000000):M_spec_FormatInt (u:Int) = some (dcB u):=by
  have key:∀ (k u:Nat) (s:ByteArray),u < 10 ^ (k + 1) → k + 1 + s.size ≤ 1000 → u < 1000000000000000000 →
      ((L_spec_FormatInt_0 (u:Int) s).bind fun (n1,s,_) =>
        (guardO (Nat.ble (((bytesOf ([IntKind.u8.wrap (IntKind.i64.wrap (48 + n1))]:List Int)).size) + s.size) 4611686018427387904)).bind fun _ =>
        some ((bytesOf ([IntKind.u8.wrap (IntKind.i64.wrap (48 + n1))]:List Int)) ++ s)) = some (dcB u ++ s):=by
    intro k
    induction k with
    | zero =>
      intro u s hu hs hb
      have hu:u < 10:=by simpa using hu
      unfold L_spec_FormatInt_0
      rw [whileO_inr (r:=((u:Int),s,())) (by simp only [S_spec_FormatInt_0]; rw [show decide ((u:Int) > 9) = false by simp; omega]; rfl)]
      simp only [Option.bind_some]
      rw [grd (by rw [size_one]; omega),dig_byte hu,dcB_small hu]
    | succ k ih =>
      intro u s hu hs hb
      by_cases h1:u < 10
      · exact ih u s (Nat.lt_of_lt_of_le h1 (by rw [Nat.pow_succ]; have:=Nat.pow_pos (n:=k) (show 0 < 10 by decide); omega)) (by omega) hb
      · have hd:((u:Int).tmod 10) = ((u % 10:Nat):Int):=by rw [Int.tmod_eq_emod_of_nonneg (by omega)]; rfl
        have hq:((u:Int).tdiv 10) = ((u / 10:Nat):Int):=by rw [Int.tdiv_eq_ediv_of_nonneg (by omega)]; rfl
        have hstep:S_spec_FormatInt_0 ((u:Int),s,()) = some (.inl (((u / 10:Nat):Int),bl [UInt8.ofNat (48 + u % 10)] ++ s,())):=by
          simp only [S_spec_FormatInt_0]
          rw [show decide ((u:Int) > 9) = true by simp; omega,cond_true,grd (by rw [size_one]; omega),hd,hq,dig_byte (Nat.mod_lt _ (by omega)),wrap_i64 (by omega) (by omega)]
        unfold L_spec_FormatInt_0
        rw [whileO_inl hstep]
        refine (ih (u / 10) (bl [UInt8.ofNat (48 + u % 10)] ++ s) (by rw [Nat.div_lt_iff_lt_mul (by omega)]; rw [Nat.pow_succ] at hu; exact hu) (by rw [sz_app,bl_size]; simp; omega) (by omega)).trans ?_
        rw [dcB_big h1,ByteArray.append_assoc]
  unfold M_spec_FormatInt
  rw [show decide ((u:Int) < 0) = false by simp,cond_false]
  refine (key 17 u (⟨#[]⟩:ByteArray) (by omega) (by decide) h).trans ?_
  congr 1
  exact ByteArray.append_empty
theorem impl_itoa {u:Nat} (h:u < 1000000000000000000):M_strconv_Itoa (u:Int) = some (dcB u):=by
  unfold M_strconv_Itoa
  rw [show (decide (-9223372036854775808 ≤ (u:Int)) && decide ((u:Int) ≤ 9223372036854775807)) = true by simp; omega]
  simp only [guardO_true,Option.bind_some]
  congr 1
def pad9 (s:ByteArray):ByteArray:=bl (List.replicate (9 - s.size) 48) ++ s
theorem pad9_size {s:ByteArray} (h:s.size ≤ 9):(pad9 s).size = 9:=by rw [pad9,sz_app,bl_size,List.length_replicate]; omega
theorem repeatL_one (b:UInt8):∀ c,Lib.repeatL [b] c = List.replicate c b
  | 0 => rfl
  | c + 1 => by rw [Lib.repeatL,repeatL_one b c]; rfl
theorem impl_pad {s:ByteArray} (h:s.size ≤ 9):M_impl_PadZeros s 9 = some (pad9 s):=by
  unfold M_impl_PadZeros
  by_cases h9:s.size = 9
  · rw [show decide ((s.size:Int) ≥ 9) = true by simp; omega,cond_true,pad9,h9]
    congr 1
  · rw [show decide ((s.size:Int) ≥ 9) = false by simp; omega,cond_false,show decide ((9:Int) > 2000) = false by decide,cond_false,wrap_i64 (by omega) (by omega)]
    have hc:((9:Int) - s.size) = ((9 - s.size:Nat):Int):=by omega
    rw [hc]
    unfold M_strings_Repeat
    rw [Int.toNat_natCast,show (decide (0 ≤ (((9 - s.size:Nat):Int))) && decide ((((9 - s.size:Nat):Int)) ≤ 9223372036854775807) && Nat.ble ((⟨#[48]⟩:ByteArray).size * (9 - s.size)) 140737488355328) = true by
      have:(⟨#[48]⟩:ByteArray).size = 1:=rfl
      rw [this]; simp; omega]
    simp only [guardO_true,Option.bind_some]
    have hr:(⟨(Lib.repeatL (⟨#[48]⟩:ByteArray).data.toList (9 - s.size)).toArray⟩:ByteArray) = bl (List.replicate (9 - s.size) 48):=by
      show bl (Lib.repeatL [48] (9 - s.size)) = _
      rw [repeatL_one]
    rw [hr,grd (by rw [bl_size,List.length_replicate]; omega),pad9]
theorem spec_pad {s:ByteArray} (h:s.size ≤ 9):M_spec_PadZeros s 9 = some (pad9 s):=by
  unfold M_spec_PadZeros L_spec_PadZeros_0
  rw [show decide ((9:Int) > 2000) = false by decide,cond_false]
  have key:∀ (k:Nat) (s:ByteArray),s.size + k = 9 → whileO S_spec_PadZeros_0 (s,9,()) = some (bl (List.replicate k 48) ++ s,()):=by
    intro k
    induction k with
    | zero =>
      intro s hs
      rw [whileO_inr (r:=(s,())) (by simp only [S_spec_PadZeros_0]; rw [show decide ((s.size:Int) < 9) = false by simp; omega]; rfl)]
      congr 2
    | succ k ih =>
      intro s hs
      have hstep:S_spec_PadZeros_0 (s,9,()) = some (.inl (bl [48] ++ s,9,())):=by
        simp only [S_spec_PadZeros_0]
        rw [show decide ((s.size:Int) < 9) = true by simp; omega,cond_true,grd (by have:(⟨#[48]⟩:ByteArray).size = 1:=rfl; rw [this]; omega)]
        rfl
      rw [whileO_inl hstep,ih (bl [48] ++ s) (by rw [sz_app,bl_size]; simp; omega),← ByteArray.append_assoc,bl_app,List.replicate_succ']
  rw [key (9 - s.size) s (by omega)]
  rfl
noncomputable def lims (a:List Int):Nat → ByteArray → ByteArray
  | 0,s => s
  | k + 1,s => lims a k (s ++ pad9 (dcB (a.getD k 0).toNat))
theorem lims_size {a:List Int} (h:Dig a):∀ (k:Nat) (s:ByteArray),k ≤ a.length → (lims a k s).size = s.size + 9 * k
  | 0,s,_ => rfl
  | k + 1,s,hk => by
    have h1:=h a[k] (List.getElem_mem _)
    have e:a.getD k 0 = a[k]:=by rw [List.getD_eq_getElem?_getD,List.getElem?_eq_getElem (by omega)]; rfl
    rw [lims,lims_size h k _ (by omega),sz_app,pad9_size (dcB_le (by rw [e]; omega))]; omega
noncomputable def natB (a:List Int):ByteArray:=match a.getLast? with
  | none => bl [48]
  | some d => lims a (a.length - 1) (dcB d.toNat)
theorem natB_size {a:List Int} (h:Dig a):(natB a).size ≤ 9 * a.length + 1:=by
  unfold natB
  cases hl:a.getLast? with
  | none => simp [bl_size]
  | some d =>
    simp only
    have hd:=h d (List.mem_of_getLast? hl)
    have:=dcB_le (u:=d.toNat) (by omega)
    rw [lims_size h _ _ (by omega)]
    have:a ≠ []:=by rintro rfl; cases hl
    have:=List.length_pos_iff.2 this
    omega
theorem loop_lims {S:List Int × ByteArray × Int × Unit → Option ((List Int × ByteArray × Int × Unit) ⊕ (ByteArray × Unit))} {a:List Int} (hd:Dig a)
    (h1:∀ (k:Nat) (s:ByteArray),k < a.length → s.size ≤ 1000000000 → S (a,s,(k:Int),()) = some (.inl (a,s ++ pad9 (dcB (a.getD k 0).toNat),(k:Int) - 1,())))
    (h0:∀ s,S (a,s,-1,()) = some (.inr (s,()))):∀ (k:Nat) (s:ByteArray),k ≤ a.length → s.size + 9 * k ≤ 1000000000 → whileO S (a,s,(k:Int) - 1,()) = some (lims a k s,())
  | 0,s,_,_ => whileO_inr (h0 s)
  | k + 1,s,hk,hs => by
    have e:(((k + 1:Nat):Int) - 1) = (k:Int):=by omega
    rw [e,whileO_inl (h1 k s (by omega) (by omega)),loop_lims hd h1 h0 k _ (by omega) ?_,lims]
    have hk1:=hd a[k] (List.getElem_mem _)
    have e1:a.getD k 0 = a[k]:=by rw [List.getD_eq_getElem?_getD,List.getElem?_eq_getElem (by omega)]; rfl
    rw [sz_app,pad9_size (dcB_le (by rw [e1]; omega))]; omega
theorem limb_at {a:List Int} (hd:Dig a) {k:Nat} (hk:k < a.length):∃ u:Nat,u < 1000000000 ∧ idx a (k:Int) = some (u:Int) ∧ a.getD k 0 = (u:Int):=by
  have h:=hd a[k] (List.getElem_mem _)
  refine ⟨a[k].toNat,by omega,?_,?_⟩
  · rw [idx_at hk]; congr 1; omega
  · rw [List.getD_eq_getElem?_getD,List.getElem?_eq_getElem hk]; show a[k] = _; omega
theorem impl_loopF {a:List Int} (hd:Dig a) (hl:a.length ≤ 1000) (k:Nat) (s:ByteArray) (hk:k ≤ a.length) (hs:s.size ≤ 1000000):L_impl_formatNat_0 a s ((k:Int) - 1) = some (lims a k s,()):=by
  unfold L_impl_formatNat_0
  refine loop_lims hd (fun k s hk hs => ?_) (fun s => rfl) k s hk (by omega)
  obtain ⟨u,hu,e1,e2⟩:=limb_at hd hk
  simp only [S_impl_formatNat_0]
  rw [show decide ((k:Int) ≥ 0) = true by simp,cond_true,e1,e2,Option.bind_some,impl_itoa (by omega),Option.bind_some,impl_pad (dcB_le hu),Option.bind_some,grd (by rw [pad9_size (dcB_le hu)]; omega),wrap_i64 (by omega) (by omega),Int.toNat_natCast]
theorem spec_loopF {a:List Int} (hd:Dig a) (hl:a.length ≤ 1000) (k:Nat) (s:ByteArray) (hk:k ≤ a.length) (hs:s.size ≤ 1000000):L_spec_FormatNat_0 a s ((k:Int) - 1) = some (lims a k s,()):=by
  unfold L_spec_FormatNat_0
  refine loop_lims hd (fun k s hk hs => ?_) (fun s => rfl) k s hk (by omega)
  obtain ⟨u,hu,e1,e2⟩:=limb_at hd hk
  simp only [S_spec_FormatNat_0]
  rw [show decide ((k:Int) ≥ 0) = true by simp,cond_true,e1,e2,Option.bind_some,spec_fmtInt (by omega),Option.bind_some,spec_pad (dcB_le hu),Option.bind_some,grd (by rw [pad9_size (dcB_le hu)]; omega),wrap_i64 (by omega) (by omega),Int.toNat_natCast]
theorem natB_cons {a:List Int} (hn:a ≠ []):natB a = lims a (a.length - 1) (dcB (a.getLast hn).toNat):=by
  unfold natB
  rw [List.getLast?_eq_some_getLast hn]
theorem impl_natF {a:List Int} (h:NatOk a):M_impl_formatNat a = some (natB a):=by
  have hl:=h.2
  unfold M_impl_formatNat
  by_cases hn:a = []
  · subst hn; rfl
  · have hp:0 < a.length:=List.length_pos_iff.2 hn
    have hd:=h.1.1 _ (List.getLast_mem hn)
    rw [show ((a.length:Int) == 0) = false by simp [hn],cond_false,last_idx hn (by omega),Option.bind_some]
    obtain ⟨u,hu⟩:∃ u:Nat,a.getLast hn = (u:Int):=⟨(a.getLast hn).toNat,by omega⟩
    rw [natB_cons hn,hu,impl_itoa (by omega),Option.bind_some,wrap_i64 (by omega) (by omega),show ((a.length:Int) - 2) = ((a.length - 1:Nat):Int) - 1 by omega,
      impl_loopF h.1.1 (by omega) _ _ (by omega) (by have:=dcB_le (u:=u) (by omega); omega)]
    rfl
theorem spec_natF {a:List Int} (h:NatOk a):M_spec_FormatNat a = some (natB a):=by
  have hl:=h.2
  unfold M_spec_FormatNat
  rw [spec_natOk (by omega),(pB_iff).2 h,Option.bind_some,Bool.not_true,cond_false]
  by_cases hn:a = []
  · subst hn; rfl
  · have hp:0 < a.length:=List.length_pos_iff.2 hn
    have hd:=h.1.1 _ (List.getLast_mem hn)
    rw [show ((a.length:Int) == 0) = false by simp [hn],cond_false,last_idx hn (by omega),Option.bind_some]
    obtain ⟨u,hu⟩:∃ u:Nat,a.getLast hn = (u:Int):=⟨(a.getLast hn).toNat,by omega⟩
    rw [natB_cons hn,hu,spec_fmtInt (by omega),Option.bind_some,wrap_i64 (by omega) (by omega),show ((a.length:Int) - 2) = ((a.length - 1:Nat):Int) - 1 by omega,
      spec_loopF h.1.1 (by omega) _ _ (by omega) (by have:=dcB_le (u:=u) (by omega); omega)]
    rfl
end Go.Di
namespace Go.Di
def splitL (c:UInt8):List UInt8 → List (List UInt8)
  | [] => [[]]
  | b :: r => if b = c then [] :: splitL c r else match splitL c r with
    | [] => [[b]]
    | x :: xs => (b :: x) :: xs
theorem splitL_ne (c:UInt8) (l:List UInt8):splitL c l ≠ []:=by
  cases l with
  | nil => simp [splitL]
  | cons b r =>
    unfold splitL
    split
    · simp
    · split <;> simp
def ahead (p:List UInt8):List (List UInt8) → List (List UInt8)
  | [] => [p]
  | x :: xs => (p ++ x) :: xs
theorem ahead_hit {c b:UInt8} {r p:List UInt8} (h:b = c):ahead p (splitL c (b :: r)) = p :: splitL c r:=by
  rw [splitL,if_pos h]; simp [ahead]
theorem ahead_miss {c b:UInt8} {r p:List UInt8} (h:b ≠ c):ahead p (splitL c (b :: r)) = ahead (p ++ [b]) (splitL c r):=by
  rw [splitL,if_neg h]
  cases hs:splitL c r with
  | nil => exact absurd hs (splitL_ne c r)
  | cons x xs => simp [ahead]
theorem ahead_nil {l:List (List UInt8)} (h:l ≠ []):ahead [] l = l:=by
  cases l with
  | nil => exact absurd rfl h
  | cons x xs => simp [ahead]
theorem ext_bl (s:ByteArray) (a b:Nat):s.extract a b = bl ((s.data.toList.drop a).take (b - a)):=by
  apply ByteArray.ext
  rw [ByteArray.data_extract]
  apply Array.toList_inj.1
  rw [Array.toList_extract,bl_data,List.extract_eq_take_drop]
theorem str_at {s:ByteArray} {i:Nat} (h:i < s.data.toList.length):strAt s (i:Int) = some ((s.data.toList[i].toNat:Int)):=by
  have h':i < s.data.size:=by simpa using h
  unfold strAt
  rw [if_pos (by omega),Int.toNat_natCast,Array.getElem?_eq_getElem h']
  simp
section
variable {s by_:ByteArray} {c:UInt8}
abbrev SpS:=ByteArray × ByteArray × Int × Int × (List ByteArray) × Unit
theorem split_loop {S:SpS → Option (SpS ⊕ (ByteArray × Int × (List ByteArray) × Unit))} (hlen:s.size ≤ 1048576)
    (hit:∀ (i f:Nat) (out:List ByteArray),(hi:i < s.data.toList.length) → f ≤ i → out.length ≤ i → s.data.toList[i] = c → S (s,by_,(f:Int),(i:Int),out,()) = some (.inl (s,by_,((i + 1:Nat):Int),((i + 1:Nat):Int),out ++ [s.extract f i],())))
    (miss:∀ (i f:Nat) (out:List ByteArray),(hi:i < s.data.toList.length) → f ≤ i → out.length ≤ i → s.data.toList[i] ≠ c → S (s,by_,(f:Int),(i:Int),out,()) = some (.inl (s,by_,(f:Int),((i + 1:Nat):Int),out,())))
    (fin:∀ (f:Nat) (out:List ByteArray),S (s,by_,(f:Int),(s.data.toList.length:Int),out,()) = some (.inr (s,(f:Int),out,()))) :
    ∀ (m i f:Nat) (out:List ByteArray),i + m = s.data.toList.length → f ≤ i → out.length ≤ i → ∃ (f':Nat) (out':List ByteArray),whileO S (s,by_,(f:Int),(i:Int),out,()) = some (s,(f':Int),out',()) ∧ f' ≤ s.data.toList.length ∧ out'.length ≤ s.data.toList.length ∧
      out' ++ [s.extract f' s.data.toList.length] = out ++ (ahead ((s.data.toList.drop f).take (i - f)) (splitL c (s.data.toList.drop i))).map bl:=by
  intro m
  induction m with
  | zero =>
    intro i f out him hf ho
    have hi:i = s.data.toList.length:=by omega
    subst hi
    refine ⟨f,out,whileO_inr (fin f out),hf,ho,?_⟩
    rw [List.drop_length]
    simp [splitL,ahead,ext_bl]
  | succ m ih =>
    intro i f out him hf ho
    have hi:i < s.data.toList.length:=by omega
    rw [List.drop_eq_getElem_cons hi]
    by_cases hc:s.data.toList[i] = c
    · obtain ⟨f',out',e1,e2,e2',e3⟩:=ih (i + 1) (i + 1) (out ++ [s.extract f i]) (by omega) (Nat.le_refl _) (by simp; omega)
      refine ⟨f',out',by rw [whileO_inl (hit i f out hi hf ho hc)]; exact e1,e2,e2',?_⟩
      rw [e3,ahead_hit hc,Nat.sub_self,List.take_zero,ahead_nil (splitL_ne _ _),List.map_cons,← ext_bl]
      simp
    · obtain ⟨f',out',e1,e2,e2',e3⟩:=ih (i + 1) f out (by omega) (by omega) (by omega)
      refine ⟨f',out',by rw [whileO_inl (miss i f out hi hf ho hc)]; exact e1,e2,e2',?_⟩
      rw [e3,ahead_miss hc]
      congr 3
      have:i + 1 - f = (i - f) + 1:=by omega
      rw [this,List.take_succ_eq_append_getElem (by rw [List.length_drop]; omega)]
      congr 1
      simp
      congr 1
      omega
theorem inside_okn {n a b:Nat} (h1:a ≤ b) (h2:b ≤ n):inside n ((a:Int),(b:Int)) = true:=by
  unfold inside; simp; omega
theorem room_b {n:Nat} (h:n ≤ 2000000):guardO (Nat.ble (n + 1) maxNew) = some ():=by
  have:Nat.ble (n + 1) maxNew = true:=by
    rw [Nat.ble_eq]
    have:maxNew = 68719476736:=rfl
    omega
  rw [this]; rfl
theorem byte_ne {a b:UInt8} (h:a ≠ b):((a.toNat:Int) == (b.toNat:Int)) = false:=by
  have:a.toNat ≠ b.toNat:=fun e => h (UInt8.toNat_inj.1 e)
  simp; omega
theorem size_list (s:ByteArray):s.data.toList.length = s.size:=rfl
theorem fin_split {L:Option (ByteArray × Int × (List ByteArray) × Unit)} {f':Nat} {out' ws:List ByteArray} (hs:s.size ≤ 1048576) (h:L = some (s,(f':Int),out',())) (h1:f' ≤ s.data.toList.length) (h2:out'.length ≤ s.data.toList.length)
    (h3:out' ++ [s.extract f' s.data.toList.length] = ws) :
    (L.bind fun (s1,from_,out,_) =>
    (guardO (inside s1.size (from_,(s1.size:Int)))).bind fun _ =>
    (guardO (Nat.ble (out.length + 1) maxNew)).bind fun _ =>
    some (out ++ ([s1.extract from_.toNat ((s1.size:Int).toNat)]:List ByteArray))) = some ws:=by
  rw [size_list] at h1 h2 h3
  rw [h]
  simp only [Option.bind_some]
  rw [inside_okn h1 (Nat.le_refl _),guardO_true,room_b (by omega)]
  simp only [Option.bind_some,Int.toNat_natCast]
  rw [h3]
theorem impl_split (hs:s.size ≤ 1048576):M_impl_SplitAny s (bl [c]) = some ((splitL c s.data.toList).map bl):=by
  have hc:(bl [c]).data.toList = [c]:=bl_data _
  have hib:∀ b:UInt8,M_strings_IndexByte (bl [c]) (b.toNat:Int) = some (if b = c then 0 else -1):=fun b => by
    unfold M_strings_IndexByte
    rw [hc,Int.toNat_natCast]
    have:b.toNat.toUInt8 = b:=by simp
    rw [this]
    unfold Lib.indexByte Lib.indexByte
    by_cases h:b = c
    · subst h; simp
    · rw [if_neg h,if_neg (by simpa using fun e => h e.symm)]; simp
  have hit:∀ (i f:Nat) (out:List ByteArray),(hi:i < s.data.toList.length) → f ≤ i → out.length ≤ i → s.data.toList[i] = c → S_impl_SplitAny_0 (s,bl [c],(f:Int),(i:Int),out,()) = some (.inl (s,bl [c],((i + 1:Nat):Int),((i + 1:Nat):Int),out ++ [s.extract f i],())):=fun i f out hi hf ho h => by
    have hi':i < s.size:=by rw [← size_list]; exact hi
    simp only [S_impl_SplitAny_0,show decide ((i:Int) < (s.size:Int)) = true by simp; omega,cond_true,str_at hi,Option.bind_some,hib,h,if_true]
    rw [show decide ((0:Int) ≥ 0) = true by decide,cond_true,inside_okn hf (by omega),guardO_true,room_b (by omega),wrap_i64 (by omega) (by omega)]
    rfl
  have miss:∀ (i f:Nat) (out:List ByteArray),(hi:i < s.data.toList.length) → f ≤ i → out.length ≤ i → s.data.toList[i] ≠ c → S_impl_SplitAny_0 (s,bl [c],(f:Int),(i:Int),out,()) = some (.inl (s,bl [c],(f:Int),((i + 1:Nat):Int),out,())):=fun i f out hi hf ho h => by
    have hi':i < s.size:=by rw [← size_list]; exact hi
    simp only [S_impl_SplitAny_0,show decide ((i:Int) < (s.size:Int)) = true by simp; omega,cond_true,str_at hi,Option.bind_some,hib,h,if_false]
    rw [show decide ((-1:Int) ≥ 0) = false by decide,cond_false,wrap_i64 (by omega) (by omega)]
    rfl
  have fin:∀ (f:Nat) (out:List ByteArray),S_impl_SplitAny_0 (s,bl [c],(f:Int),(s.data.toList.length:Int),out,()) = some (.inr (s,(f:Int),out,())):=fun f out => by
    simp only [S_impl_SplitAny_0]
    rw [show decide ((s.data.toList.length:Int) < (s.size:Int)) = false by rw [size_list]; simp]
    rfl
  obtain ⟨f',out',e1,e2,e2',e3⟩:=split_loop hs hit miss fin s.data.toList.length 0 0 [] (by omega) (Nat.le_refl _) (Nat.le_refl _)
  unfold M_impl_SplitAny L_impl_SplitAny_0
  refine fin_split hs e1 e2 e2' (e3.trans ?_)
  simp [ahead_nil (splitL_ne _ _)]
theorem spec_split (hs:s.size ≤ 1048576):M_spec_SplitAny s (bl [c]) = some ((splitL c s.data.toList).map bl):=by
  have hz:(bl [c]).size = 1:=bl_size _
  have hat:strAt (bl [c]) 0 = some (c.toNat:Int):=rfl
  have hit:∀ (i f:Nat) (out:List ByteArray),(hi:i < s.data.toList.length) → f ≤ i → out.length ≤ i → s.data.toList[i] = c → S_spec_SplitAny_0 (s,bl [c],(f:Int),(i:Int),out,()) = some (.inl (s,bl [c],((i + 1:Nat):Int),((i + 1:Nat):Int),out ++ [s.extract f i],())):=fun i f out hi hf ho h => by
    have hi':i < s.size:=by rw [← size_list]; exact hi
    have hin:L_spec_SplitAny_1 s (bl [c]) (f:Int) (i:Int) 0 out = some (s,bl [c],((i + 1:Nat):Int),(i:Int),out ++ [s.extract f i],()):=by
      unfold L_spec_SplitAny_1
      refine whileO_inr ?_
      simp only [S_spec_SplitAny_1]
      rw [show decide ((0:Int) < ((bl [c]).size:Int)) = true by rw [hz]; decide,cond_true,str_at hi,Option.bind_some,hat,Option.bind_some,h,show ((c.toNat:Int) == (c.toNat:Int)) = true by simp,cond_true,
        inside_okn hf (by omega),guardO_true,Option.bind_some,room_b (by omega),Option.bind_some,wrap_i64 (by omega) (by omega)]
      rfl
    simp only [S_spec_SplitAny_0,show decide ((i:Int) < (s.size:Int)) = true by simp; omega,cond_true,hin,Option.bind_some]
    rw [wrap_i64 (by omega) (by omega)]
    rfl
  have miss:∀ (i f:Nat) (out:List ByteArray),(hi:i < s.data.toList.length) → f ≤ i → out.length ≤ i → s.data.toList[i] ≠ c → S_spec_SplitAny_0 (s,bl [c],(f:Int),(i:Int),out,()) = some (.inl (s,bl [c],(f:Int),((i + 1:Nat):Int),out,())):=fun i f out hi hf ho h => by
    have hi':i < s.size:=by rw [← size_list]; exact hi
    have hin:L_spec_SplitAny_1 s (bl [c]) (f:Int) (i:Int) 0 out = some (s,bl [c],(f:Int),(i:Int),out,()):=by
      unfold L_spec_SplitAny_1
      have h1:S_spec_SplitAny_1 (s,bl [c],(f:Int),(i:Int),0,out,()) = some (.inl (s,bl [c],(f:Int),(i:Int),1,out,())):=by
        simp only [S_spec_SplitAny_1]
        rw [show decide ((0:Int) < ((bl [c]).size:Int)) = true by rw [hz]; decide,cond_true,str_at hi,Option.bind_some,hat,Option.bind_some,byte_ne h,cond_false]
        rfl
      rw [whileO_inl h1]
      refine whileO_inr ?_
      simp only [S_spec_SplitAny_1]
      rw [show decide ((1:Int) < ((bl [c]).size:Int)) = false by rw [hz]; decide]
      rfl
    simp only [S_spec_SplitAny_0,show decide ((i:Int) < (s.size:Int)) = true by simp; omega,cond_true,hin,Option.bind_some]
    rw [wrap_i64 (by omega) (by omega)]
    rfl
  have fin:∀ (f:Nat) (out:List ByteArray),S_spec_SplitAny_0 (s,bl [c],(f:Int),(s.data.toList.length:Int),out,()) = some (.inr (s,(f:Int),out,())):=fun f out => by
    simp only [S_spec_SplitAny_0]
    rw [show decide ((s.data.toList.length:Int) < (s.size:Int)) = false by rw [size_list]; simp]
    rfl
  obtain ⟨f',out',e1,e2,e2',e3⟩:=split_loop hs hit miss fin s.data.toList.length 0 0 [] (by omega) (Nat.le_refl _) (Nat.le_refl _)
  unfold M_spec_SplitAny L_spec_SplitAny_0
  refine fin_split hs e1 e2 e2' (e3.trans ?_)
  simp [ahead_nil (splitL_ne _ _)]
end
end Go.Di
namespace Go.Di
theorem spec_signq {q:Rat} (h:Fit q):M_spec_RatSign (rq q) = some (cond (decide (q.num < 0)) (-1) (cond (decide (q.num ≠ 0)) 1 0)):=by
  unfold M_spec_RatSign
  have hf:(rq q).fit:=ro_fit h.ok
  rw [spec_ratOk hf,good_rq h,Option.bind_some]
  show cond (!true) _ (cond (((dg q.num.natAbs).length:Int) == 0) _ (cond (decide (q.num < 0)) _ _)) = _
  rw [dg_len0]
  by_cases h0:q.num = 0
  · rw [decide_eq_true (show q.num.natAbs = 0 by omega),decide_eq_false (show ¬ q.num < 0 by omega),decide_eq_false (show ¬ q.num ≠ 0 by omega)]; rfl
  · rw [decide_eq_false (show ¬ q.num.natAbs = 0 by omega),decide_eq_true h0]
    cases decide (q.num < 0) <;> rfl
noncomputable def posB (r:Rt):Bool:=pB (∃ q:Rat,Fit q ∧ r = rq q ∧ 0 < q.num)
theorem posB_rq {q:Rat} (h:Fit q):posB (rq q) = decide (0 < q.num):=by
  unfold posB
  rw [← pB_dec]
  refine pB_congr ⟨?_,fun h0 => ⟨q,h,rfl,h0⟩⟩
  rintro ⟨p,_,h1,h2⟩
  rw [rq_inj h1]; exact h2
theorem posB_good {r:Rt} (h:¬ Good r):posB r = false:=by
  unfold posB
  rw [pB_not]
  rintro ⟨q,h1,h2,_⟩
  exact h ⟨q,h1,h2⟩
theorem spec_pos {r:Rt} (hf:r.fit):∃ s:Int,M_spec_RatSign r = some s ∧ decide (s > 0) = posB r:=by
  by_cases hg:Good r
  · obtain ⟨q,h1,rfl⟩:=hg
    rw [spec_signq h1,posB_rq h1]
    refine ⟨_,rfl,?_⟩
    by_cases h2:q.num < 0
    · rw [decide_eq_true h2,decide_eq_false (show ¬ 0 < q.num by omega)]; rfl
    · rw [decide_eq_false h2]
      by_cases h3:q.num = 0
      · rw [decide_eq_false (show ¬ q.num ≠ 0 by omega),decide_eq_false (show ¬ 0 < q.num by omega)]; rfl
      · rw [decide_eq_true h3,decide_eq_true (show 0 < q.num by omega)]; rfl
  · unfold M_spec_RatSign
    rw [spec_ratOk hf,pB_not.2 hg,posB_good hg]; exact ⟨0,rfl,rfl⟩
theorem impl_posq {q:Rat} (h1:Fit q):∃ s:Int,M_impl_sign (rq q) = some s ∧ decide (s > 0) = posB (rq q) ∧ decide (s ≤ 0) = !posB (rq q):=by
  rw [impl_signq,posB_rq h1]
  refine ⟨_,rfl,?_⟩
  by_cases h2:q.num < 0
  · rw [decide_eq_true h2,decide_eq_false (show ¬ 0 < q.num by omega)]; exact ⟨rfl,rfl⟩
  · rw [decide_eq_false h2]
    by_cases h3:q.num = 0
    · rw [decide_eq_false (show ¬ q.num ≠ 0 by omega),decide_eq_false (show ¬ 0 < q.num by omega)]; exact ⟨rfl,rfl⟩
    · rw [decide_eq_true h3,decide_eq_true (show 0 < q.num by omega)]; exact ⟨rfl,rfl⟩
noncomputable def endB (o:Obs):Bool:=pB (Good o.value) && ((!(o.kind == 7) || posB o.value) && posB o.variance)
theorem spec_end {o:Obs} (h:o.fit):((M_spec_RatOk o.value).bind fun r5 =>
      cond r5
        (cond (o.kind != 7)
          ((M_spec_RatSign o.variance).bind fun r6 =>
          some (decide (r6 > 0)))
          ((M_spec_RatSign o.value).bind fun r6 =>
          cond (decide (r6 > 0))
            ((M_spec_RatSign o.variance).bind fun r7 =>
            some (decide (r7 > 0)))
            (some false)))
        (some false)) = some (endB o):=by
  obtain ⟨s,h1,h2⟩:=spec_pos h.1
  obtain ⟨t,h3,h4⟩:=spec_pos h.2
  unfold endB
  rw [spec_ratOk h.1,h1,h3]
  simp only [Option.bind_some,h2,h4]
  rw [show (o.kind != 7) = !(o.kind == 7) from rfl]
  cases pB (Good o.value) <;> cases (o.kind == 7) <;> cases posB o.value <;> cases posB o.variance <;> rfl
theorem impl_end {o:Obs} (h:o.fit):((M_impl_RatOk o.value).bind fun r1 =>
      cond (!r1)
        (some false)
        (cond (o.kind == 7)
          ((M_impl_sign o.value).bind fun r2 =>
          cond (decide (r2 ≤ 0))
            (some false)
            ((M_impl_RatOk o.variance).bind fun r3 =>
            cond r3
              ((M_impl_sign o.variance).bind fun r4 =>
              some (decide (r4 > 0)))
              (some false)))
          ((M_impl_RatOk o.variance).bind fun r2 =>
          cond r2
            ((M_impl_sign o.variance).bind fun r3 =>
            some (decide (r3 > 0)))
            (some false)))) = some (endB o):=by
  have hv:((M_impl_RatOk o.variance).bind fun r3 => cond r3 ((M_impl_sign o.variance).bind fun r4 => some (decide (r4 > 0))) (some false)) = some (posB o.variance):=by
    rw [impl_ratOk h.2,Option.bind_some]
    by_cases hg:Good o.variance
    · rw [pB_iff.2 hg,cond_true]
      obtain ⟨q,h1,h2⟩:=hg
      rw [h2]
      obtain ⟨s,k1,k2,_⟩:=impl_posq h1
      rw [k1,Option.bind_some,k2]
    · rw [pB_not.2 hg,posB_good hg]; rfl
  unfold endB
  rw [hv,impl_ratOk h.1,Option.bind_some]
  by_cases hg:Good o.value
  · rw [pB_iff.2 hg]
    simp only [Bool.not_true,cond_false,Bool.true_and]
    obtain ⟨q,h1,h2⟩:=hg
    rw [h2]
    obtain ⟨s,k1,_,k3⟩:=impl_posq h1
    rw [k1,Option.bind_some,k3]
    cases (o.kind == 7) <;> cases posB (rq q) <;> cases posB o.variance <;> rfl
  · rw [pB_not.2 hg]; rfl
def betB (k:Int):Bool:=k == 2 || (decide (k ≥ 5) && decide (k ≤ 8))
theorem spec_bet (k:Int):M_spec_IsBetween k = some (betB k):=by
  unfold M_spec_IsBetween M_spec_l01In betB
  cases (k == 2) <;> cases decide (k ≥ 5) <;> rfl
theorem impl_bet (k:Int):M_impl_IsBetween k = some (betB k):=by
  unfold M_impl_IsBetween betB
  cases (k == 2) <;> cases decide (k ≥ 5) <;> rfl
def fitsB (k:Int) (plane:Bool):Bool:=cond plane (inB k 3 8) (inB k 1 2)
theorem spec_fits (k:Int) (plane:Bool):M_spec_l11Fits k plane = some (fitsB k plane):=by
  unfold M_spec_l11Fits fitsB
  rw [spec_in,spec_in]
  cases plane <;> rfl
noncomputable def obsB (n:Net) (o:Obs):Bool :=
  fitsB o.kind n.plane && ((decide (0 ≤ o.frm) && decide (o.frm < n.stations.length)) && (cond (betB o.kind) ((decide (0 ≤ o.to) && decide (o.to < n.stations.length)) && !(o.to == o.frm)) (o.to == 0) && endB o))
theorem inB_len {x:Int} {n:Nat} (h:n ≤ 1048576):inB x 0 (IntKind.i64.wrap ((n:Int) - 1)) = (decide (0 ≤ x) && decide (x < n)):=by
  rw [wrap_i64 (by omega) (by omega)]
  unfold inB
  rw [Bool.eq_iff_iff]; simp; omega
theorem spec_obsOk {n:Net} {o:Obs} (hn:n.stations.length ≤ 1048576) (h:o.fit):M_spec_l11Ok n o = some (obsB n o):=by
  have he:=spec_end h
  unfold M_spec_l11Ok obsB
  simp only [spec_fits,spec_in,spec_bet,Option.bind_some,inB_len hn,he]
  rw [show (o.to != 0) = !(o.to == 0) from rfl]
  cases fitsB o.kind n.plane <;> cases (decide (0 ≤ o.frm) && decide (o.frm < n.stations.length)) <;> cases betB o.kind <;> cases (decide (0 ≤ o.to) && decide (o.to < n.stations.length)) <;> cases (o.to == o.frm) <;> cases (o.to == 0) <;> cases endB o <;> rfl
theorem impl_obsFits {n:Net} {o:Obs} (h:o.fit):M_impl_observationFits n o = some (obsB n o):=by
  have he:=impl_end h
  unfold M_impl_observationFits obsB
  simp only [impl_bet,Option.bind_some,he]
  rw [show (o.to != 0) = !(o.to == 0) from rfl]
  have hk:fitsB o.kind n.plane = (decide (o.kind ≥ 1) && (decide (o.kind ≤ 8) && !(n.plane == decide (o.kind ≤ 2)))):=by
    unfold fitsB inB
    cases n.plane with
    | true => rw [Bool.eq_iff_iff]; simp; omega
    | false => rw [Bool.eq_iff_iff]; simp; omega
  rw [hk,lt_not o.kind 1,gt_not o.kind 8,ge_le o.kind 1,lt_not o.frm 0,lt_not o.to 0]
  have g1:decide (o.frm ≥ (n.stations.length:Int)) = !decide (o.frm < (n.stations.length:Int)):=by rw [Bool.eq_iff_iff]; simp
  have g2:decide (o.to ≥ (n.stations.length:Int)) = !decide (o.to < (n.stations.length:Int)):=by rw [Bool.eq_iff_iff]; simp
  rw [g1,g2]
  cases decide (1 ≤ o.kind) <;> cases decide (o.kind ≤ 8) <;> cases (n.plane == decide (o.kind ≤ 2)) <;> cases decide (0 ≤ o.frm) <;> cases decide (o.frm < (n.stations.length:Int)) <;> cases betB o.kind <;> cases decide (0 ≤ o.to) <;> cases decide (o.to < (n.stations.length:Int)) <;> cases (o.to == o.frm) <;> cases (o.to == 0) <;> cases endB o <;> rfl
theorem spec_obsOk' {n:Net} {o:Obs} (hn:lfit Sta.fitN n.stations) (h:o.fit):M_spec_ObservationOk n o = some (netB n && obsB n o):=by
  unfold M_spec_ObservationOk
  exact bind_and (spec_netOk hn) (by rw [spec_obsOk hn.1 h]; rfl)
theorem impl_obsOk' {n:Net} {o:Obs} (hn:lfit Sta.fitN n.stations) (h:o.fit):M_impl_ObservationOk n o = some (netB n && obsB n o):=by
  unfold M_impl_ObservationOk
  exact bind_and (impl_netOk (fitN_fit hn)) (by rw [impl_obsFits h]; rfl)
end Go.Di
namespace Go.Di
def oneB (a:List Int):Bool:=match a with
  | [x] => x == 1
  | _ => false
theorem impl_one (a:List Int):M_impl_isOne a = some (oneB a):=by
  unfold M_impl_isOne
  match a with
  | [] => rfl
  | [x] => rfl
  | x :: y :: r => rw [show (((x :: y :: r).length:Int) == 1) = false by simp; omega]; rfl
theorem spec_one (a:List Int):M_spec_l04One a = some (oneB a):=impl_one a
noncomputable def numB (neg:Bool) (mag:List Int):ByteArray:=cond neg ((⟨#[45]⟩:ByteArray) ++ natB mag) (natB mag)
theorem numB_size {neg:Bool} {mag:List Int} (h:NatOk mag):(numB neg mag).size ≤ 600:=by
  have h1:=natB_size h.1.1
  have h2:=h.2
  have h3:(⟨#[45]⟩:ByteArray).size = 1:=rfl
  cases neg with
  | true => show ((⟨#[45]⟩:ByteArray) ++ natB mag).size ≤ 600; rw [sz_app]; omega
  | false => show (natB mag).size ≤ 600; omega
theorem impl_bigF {neg:Bool} {mag:List Int} (h:NatOk mag):M_impl_formatBig ⟨neg,mag⟩ = some (numB neg mag):=by
  have h1:=natB_size h.1.1
  have h2:=h.2
  unfold M_impl_formatBig
  cases neg with
  | false => show ((M_impl_formatNat mag).bind fun r => some r) = _; rw [impl_natF h]; rfl
  | true =>
    show ((M_impl_formatNat mag).bind fun r => (guardO (Nat.ble (((⟨#[45]⟩:ByteArray).size) + r.size) 4611686018427387904)).bind fun _ => some ((⟨#[45]⟩:ByteArray) ++ r)) = _
    rw [impl_natF h,Option.bind_some,grd (by have:(⟨#[45]⟩:ByteArray).size = 1:=rfl; rw [this]; omega)]
    rfl
theorem spec_bigF {neg:Bool} {mag:List Int} (h:NatOk mag) (hn:mag ≠ [] ∨ neg = false):M_spec_FormatBigInt ⟨neg,mag⟩ = some (numB neg mag):=by
  have h1:=natB_size h.1.1
  have h2:=h.2
  have hok:M_spec_BigIntOk ⟨neg,mag⟩ = some true:=by
    unfold M_spec_BigIntOk
    rw [spec_natOk (show mag.length ≤ 1048576 by omega),pB_iff.2 h,Option.bind_some,cond_true]
    rcases hn with hn | rfl
    · show cond (!neg) (some true) (some (decide ((mag.length:Int) > 0))) = _
      rw [show decide ((mag.length:Int) > 0) = true by simpa using List.length_pos_iff.2 hn]
      cases neg <;> rfl
    · rfl
  unfold M_spec_FormatBigInt
  rw [hok,Option.bind_some,Bool.not_true,cond_false]
  cases neg with
  | false => show ((M_spec_FormatNat mag).bind fun r => some r) = _; rw [spec_natF h]; rfl
  | true =>
    show ((M_spec_FormatNat mag).bind fun r => (guardO (Nat.ble (((⟨#[45]⟩:ByteArray).size) + r.size) 4611686018427387904)).bind fun _ => some ((⟨#[45]⟩:ByteArray) ++ r)) = _
    rw [spec_natF h,Option.bind_some,grd (by have:(⟨#[45]⟩:ByteArray).size = 1:=rfl; rw [this]; omega)]
    rfl
noncomputable def ratB (r:Rt):ByteArray:=cond (oneB r.den) (numB r.neg r.mag) ((numB r.neg r.mag ++ (⟨#[47]⟩:ByteArray)) ++ natB r.den)
theorem ratB_size {r:Rt} (h:Good r):(ratB r).size ≤ 2000:=by
  obtain ⟨h1,h2,h3,_⟩:=good_iff.1 h
  have k1:=numB_size (neg:=r.neg) h1
  have k2:=natB_size h3.1.1
  have k3:=h3.2
  have h3:(⟨#[47]⟩:ByteArray).size = 1:=rfl
  unfold ratB
  cases oneB r.den with
  | true => show (numB r.neg r.mag).size ≤ _; omega
  | false => show ((numB r.neg r.mag ++ (⟨#[47]⟩:ByteArray)) ++ natB r.den).size ≤ _; rw [sz_app,sz_app]; omega
theorem impl_ratF {r:Rt} (h:Good r):M_impl_formatRat r = some (ratB r):=by
  obtain ⟨h1,h2,h3,_⟩:=good_iff.1 h
  have k1:=numB_size (neg:=r.neg) h1
  have k2:=natB_size h3.1.1
  have k3:=h3.2
  have h4:(⟨#[47]⟩:ByteArray).size = 1:=rfl
  unfold M_impl_formatRat ratB
  rw [impl_one,Option.bind_some,impl_bigF h1,Option.bind_some,Option.bind_some,impl_natF h3]
  cases oneB r.den with
  | true => rfl
  | false =>
    simp only [cond_false,Option.bind_some]
    rw [grd (by omega),grd (by rw [sz_app]; omega)]
theorem spec_ratF {r:Rt} (hf:r.fit) (h:Good r):M_spec_FormatRat r = some (ratB r):=by
  have hr:=spec_ratOk hf
  rw [pB_iff.2 h] at hr
  obtain ⟨h1,h2,h3,_⟩:=good_iff.1 h
  have k1:=numB_size (neg:=r.neg) h1
  have k2:=natB_size h3.1.1
  have k3:=h3.2
  have h4:(⟨#[47]⟩:ByteArray).size = 1:=rfl
  unfold M_spec_FormatRat ratB
  rw [hr,Option.bind_some,Bool.not_true,cond_false,spec_one,Option.bind_some,spec_bigF h1 h2,Option.bind_some,Option.bind_some,spec_natF h3]
  cases oneB r.den with
  | true => rfl
  | false =>
    simp only [cond_false,Option.bind_some]
    rw [grd (by omega),grd (by rw [sz_app]; omega)]
theorem kind_both (kind:Int):∃ v,M_spec_KindName kind = some v ∧ M_impl_KindName kind = some v ∧ v.size ≤ 8:=by
  by_cases h:1 ≤ kind ∧ kind ≤ 8
  · have:kind = 1 ∨ kind = 2 ∨ kind = 3 ∨ kind = 4 ∨ kind = 5 ∨ kind = 6 ∨ kind = 7 ∨ kind = 8:=by omega
    rcases this with rfl | rfl | rfl | rfl | rfl | rfl | rfl | rfl <;> exact ⟨_,rfl,rfl,by decide⟩
  · unfold M_spec_KindName M_impl_KindName M_spec_l01In
    by_cases h1:kind < 1
    · have e1:decide (kind ≥ 1) = false:=by simpa using h1
      have e2:decide (kind < 1) = true:=by simpa using h1
      rw [e1,e2]; exact ⟨_,rfl,rfl,by decide⟩
    · have e1:decide (kind ≥ 1) = true:=by simp; omega
      have e2:decide (kind < 1) = false:=by simp; omega
      have e3:decide (kind ≤ 8) = false:=by simp; omega
      have e4:decide (kind > 8) = true:=by simp; omega
      rw [e1,e2,e3,e4]; exact ⟨_,rfl,rfl,by decide⟩
theorem obs_facts {n:Net} {o:Obs} (h:obsB n o = true):(0 ≤ o.frm ∧ o.frm < n.stations.length) ∧ (betB o.kind = true → 0 ≤ o.to ∧ o.to < n.stations.length) ∧ Good o.value ∧ Good o.variance:=by
  unfold obsB at h
  simp only [Bool.and_eq_true,decide_eq_true_eq] at h
  obtain ⟨_,h1,h2,h3⟩:=h
  refine ⟨h1,fun hb => ?_,?_,?_⟩
  · rw [hb] at h2
    simp only [cond_true,Bool.and_eq_true,decide_eq_true_eq] at h2
    exact h2.1
  · unfold endB at h3
    simp only [Bool.and_eq_true] at h3
    exact pB_iff.1 h3.1
  · unfold endB at h3
    simp only [Bool.and_eq_true] at h3
    by_cases hg:Good o.variance
    · exact hg
    · rw [posB_good hg] at h3; exact absurd h3.2.2 (by simp)
abbrev spc:ByteArray:=⟨#[32]⟩
theorem join4 (a b c d:ByteArray):(⟨(Lib.join ([a,b,c,d].map (·.data.toList)) spc.data.toList).toArray⟩:ByteArray) = ((((((a ++ spc) ++ b) ++ spc) ++ c) ++ spc) ++ d):=by
  apply ByteArray.ext
  simp [Lib.join_cons,Lib.joinTail]
theorem join5 (a b c d e:ByteArray):(⟨(Lib.join ([a,b,c,d,e].map (·.data.toList)) spc.data.toList).toArray⟩:ByteArray) = ((((((((a ++ spc) ++ b) ++ spc) ++ c) ++ spc) ++ d) ++ spc) ++ e):=by
  apply ByteArray.ext
  simp [Lib.join_cons,Lib.joinTail]
theorem impl_join {l:List ByteArray} {v:ByteArray} (hl:l.length ≤ 5) (hv:(⟨(Lib.join (l.map (·.data.toList)) spc.data.toList).toArray⟩:ByteArray) = v) (hs:v.size ≤ 4000000):M_impl_Join l (⟨#[32]⟩:ByteArray) = some v:=by
  unfold M_impl_Join M_strings_Join
  have h2:(Lib.join (l.map (·.data.toList)) spc.data.toList).length = v.size:=by
    rw [← hv]; simp [ByteArray.size]
  rw [show (Nat.ble l.length 140737488355328 && Nat.ble (Lib.join (l.map (·.data.toList)) (⟨#[32]⟩:ByteArray).data.toList).length 140737488355328) = true by
    rw [show (Lib.join (l.map (·.data.toList)) (⟨#[32]⟩:ByteArray).data.toList).length = v.size from h2]; simp; omega]
  simp only [guardO_true,Option.bind_some]
  rw [show (⟨(Lib.join (l.map (·.data.toList)) (⟨#[32]⟩:ByteArray).data.toList).toArray⟩:ByteArray) = v from hv]
theorem line_both {n:Net} {o:Obs} (f:lfit Sta.fitN n.stations) (fo:o.fit) (h:obsB n o = true):∃ v,M_spec_l12Line n o = some v ∧
    ((M_impl_observationWords n o).bind fun r1 =>
    (M_impl_formatRat o.value).bind fun r2 =>
    (M_impl_formatRat o.variance).bind fun r3 =>
    (guardO (Nat.ble (r1.length + 2) maxNew)).bind fun _ =>
    (M_impl_Join (r1 ++ ([r2,r3]:List ByteArray)) (⟨#[32]⟩:ByteArray)).bind fun r4 =>
    some r4) = some v ∧ v.size ≤ 3000000:=by
  obtain ⟨⟨a1,a2⟩,hb,g1,g2⟩:=obs_facts h
  obtain ⟨kw,e1,e2,ek⟩:=kind_both o.kind
  have ei:idx n.stations o.frm = some (n.stations[o.frm.toNat]'(by omega)):=idx_int a1 a2
  generalize hs1:n.stations[o.frm.toNat]'(by omega) = s1 at ei
  have f1:s1.name.size ≤ 1048576:=(f.2 s1 (by rw [← hs1]; exact List.getElem_mem _)).2
  have r1:=ratB_size g1
  have r2:=ratB_size g2
  have hsp:(⟨#[32]⟩:ByteArray).size = 1:=rfl
  have hsp':spc.size = 1:=rfl
  have m2:Nat.ble (2 + 2) maxNew = true:=by decide
  have m3:Nat.ble (3 + 2) maxNew = true:=by decide
  unfold M_spec_l12Line M_impl_observationWords
  rw [ei,e1,e2,spec_bet,impl_bet,impl_ratF g1,impl_ratF g2,spec_ratF fo.1 g1,spec_ratF fo.2 g2]
  simp only [Option.bind_some]
  cases hbt:betB o.kind with
  | false =>
    refine ⟨((((((kw ++ spc) ++ s1.name) ++ spc) ++ ratB o.value) ++ spc) ++ ratB o.variance),?_,?_,?_⟩
    · simp only [cond_false]
      iterate 6 rw [grd (by first | omega | (simp only [sz_app]; omega))]
    · simp only [cond_false,Option.bind_some]
      rw [show Nat.ble (([kw,s1.name]:List ByteArray).length + 2) maxNew = true from m2]
      simp only [guardO_true,Option.bind_some]
      rw [impl_join (l:=[kw,s1.name] ++ [ratB o.value,ratB o.variance]) (by simp) (join4 _ _ _ _) (by simp only [sz_app]; omega)]
      rfl
    · simp only [sz_app]; omega
  | true =>
    obtain ⟨b1,b2⟩:=hb hbt
    have ej:idx n.stations o.to = some (n.stations[o.to.toNat]'(by omega)):=idx_int b1 b2
    generalize hs2:n.stations[o.to.toNat]'(by omega) = s2 at ej
    have f2:s2.name.size ≤ 1048576:=(f.2 s2 (by rw [← hs2]; exact List.getElem_mem _)).2
    rw [ej]
    simp only [Option.bind_some]
    refine ⟨((((((((kw ++ spc) ++ s1.name) ++ spc) ++ s2.name) ++ spc) ++ ratB o.value) ++ spc) ++ ratB o.variance),?_,?_,?_⟩
    · simp only [cond_true]
      iterate 8 rw [grd (by first | omega | (simp only [sz_app]; omega))]
    · simp only [cond_true,Option.bind_some]
      rw [show Nat.ble (([kw,s1.name,s2.name]:List ByteArray).length + 2) maxNew = true from m3]
      simp only [guardO_true,Option.bind_some]
      rw [impl_join (l:=[kw,s1.name,s2.name] ++ [ratB o.value,ratB o.variance]) (by simp) (join5 _ _ _ _ _) (by simp only [sz_app]; omega)]
      rfl
    · simp only [sz_app]; omega
theorem obs_both {n:Net} {o:Obs} (f:lfit Sta.fitN n.stations) (fo:o.fit):∃ v,M_spec_FormatObservation n o = some v ∧ M_impl_FormatObservation n o = some v ∧ v.size ≤ 3000000 ∧ ((netB n && obsB n o) = true → M_spec_l12Line n o = some v):=by
  unfold M_spec_FormatObservation M_impl_FormatObservation
  rw [spec_obsOk' f fo,impl_obsOk' f fo,Option.bind_some,Option.bind_some]
  cases h:netB n && obsB n o with
  | false => exact ⟨_,rfl,rfl,by decide,fun h => by cases h⟩
  | true =>
    obtain ⟨v,h1,h2,h3⟩:=line_both f fo (by simp at h; exact h.2)
    refine ⟨v,?_,?_,h3,fun _ => h1⟩
    · simp only [Bool.not_true,cond_false]; rw [h1]; rfl
    · simp only [Bool.not_true,cond_false]; exact h2
end Go.Di
namespace Go.Di
/-! ### Words and what lies between -/
theorem splitL_none {c:UInt8}:∀ {l:List UInt8},c ∉ l → splitL c l = [l]
  | [],_ => rfl
  | b :: r,h => by
    have h1:b ≠ c:=fun e => h (by rw [e]; exact List.mem_cons_self ..)
    rw [splitL,if_neg h1,splitL_none fun hm => h (List.mem_cons_of_mem _ hm)]
theorem splitL_app {c:UInt8} {r:List UInt8}:∀ {h:List UInt8},c ∉ h → splitL c (h ++ c :: r) = h :: splitL c r
  | [],_ => by rw [List.nil_append,splitL,if_pos rfl]
  | b :: t,hh => by
    have h1:b ≠ c:=fun e => hh (by rw [e]; exact List.mem_cons_self ..)
    rw [List.cons_append,splitL,if_neg h1,splitL_app fun hm => hh (List.mem_cons_of_mem _ hm)]
theorem split_first (c:UInt8):∀ l:List UInt8,c ∉ l ∨ ∃ h r,l = h ++ c :: r ∧ c ∉ h
  | [] => .inl (by simp)
  | b :: t => by
    by_cases e:b = c
    · exact .inr ⟨[],t,by rw [e]; rfl,by simp⟩
    · rcases split_first c t with h | ⟨h,r,h1,h2⟩
      · exact .inl (by simp [Ne.symm e,h])
      · exact .inr ⟨b :: h,r,by rw [h1]; rfl,by simp [Ne.symm e,h2]⟩
theorem index_none {c:UInt8}:∀ {l:List UInt8},c ∉ l → Lib.index l [c] = -1
  | [],_ => rfl
  | b :: r,h => by
    have h1:c ≠ b:=fun e => h (by rw [e]; exact List.mem_cons_self ..)
    rw [Lib.index,index_none fun hm => h (List.mem_cons_of_mem _ hm)]
    simp [List.isPrefixOf,h1]
theorem index_app {c:UInt8} {r:List UInt8}:∀ {h:List UInt8},c ∉ h → Lib.index (h ++ c :: r) [c] = (h.length:Int)
  | [],_ => by rw [List.nil_append,Lib.index]; simp [List.isPrefixOf]
  | b :: t,hh => by
    have h1:c ≠ b:=fun e => hh (by rw [e]; exact List.mem_cons_self ..)
    rw [List.cons_append,Lib.index,index_app fun hm => hh (List.mem_cons_of_mem _ hm)]
    have h2:((t.length:Int) == -1) = false:=by simp
    simp [List.isPrefixOf,h1,h2]
theorem cut_none {c:UInt8} {l:List UInt8} (h:c ∉ l):Lib.cut l [c] = (l,[],false):=by
  unfold Lib.cut; rw [index_none h]; rfl
theorem cut_app {c:UInt8} {h r:List UInt8} (hh:c ∉ h):Lib.cut (h ++ c :: r) [c] = (h,r,true):=by
  unfold Lib.cut; rw [index_app hh,if_pos (by omega),Int.toNat_natCast]
  simp
/-! ### Digits -/
def isD (b:UInt8):Bool:=decide (48 ≤ b.toNat) && decide (b.toNat ≤ 57)
def digsB (l:List UInt8):Bool:=!l.isEmpty && l.all isD
theorem range_isD {l:List UInt8}:(List.range l.length).all (fun i => isD (l.getD i 0)) = l.all isD:=by
  rw [Bool.eq_iff_iff,List.all_eq_true,List.all_eq_true]
  constructor
  · intro h b hb
    obtain ⟨i,hi,rfl⟩:=List.getElem_of_mem hb
    have:=h i (List.mem_range.2 hi)
    rw [List.getD_eq_getElem?_getD,List.getElem?_eq_getElem hi] at this
    exact this
  · intro h i hi
    have hi:=List.mem_range.1 hi
    rw [List.getD_eq_getElem?_getD,List.getElem?_eq_getElem hi]
    exact h _ (List.getElem_mem hi)
theorem str_atD {s:ByteArray} {i:Nat} (h:i < s.data.toList.length):strAt s (i:Int) = some (((s.data.toList.getD i 0).toNat:Int)):=by
  rw [str_at h,List.getD_eq_getElem?_getD,List.getElem?_eq_getElem h]; rfl
theorem impl_digs {s:ByteArray} (h:s.size ≤ 1048576):M_impl_IsDigits s = some (digsB s.data.toList):=by
  unfold M_impl_IsDigits L_impl_IsDigits_0
  have key:=all_loopE (S:=S_impl_IsDigits_0) (fun i => (s,(i:Int),())) s.data.toList.length (fun i => isD (s.data.toList.getD i 0)) (s,()) (fun i hi => by
    have hi':i < s.size:=by rw [← size_list]; exact hi
    have hw:=wrap_nat hi' (by omega)
    simp only [S_impl_IsDigits_0,dlt hi',cond_true,str_atD hi,Option.bind_some,hw]
    generalize s.data.toList.getD i 0 = b
    unfold isD
    have e1:decide ((b.toNat:Int) < 48) = !decide (48 ≤ b.toNat):=by rw [Bool.eq_iff_iff]; simp; omega
    have e2:decide ((b.toNat:Int) > 57) = !decide (b.toNat ≤ 57):=by rw [Bool.eq_iff_iff]; simp; omega
    rw [e1,e2]
    cases decide (48 ≤ b.toNat) <;> cases decide (b.toNat ≤ 57) <;> rfl) (by simp [S_impl_IsDigits_0,size_list])
  rw [show ((0:Int)) = ((0:Nat):Int) from rfl,key,range_isD]
  unfold digsB
  cases hall:s.data.toList.all isD with
  | true =>
    simp only [cond_true,Option.bind_some,Bool.and_true]
    congr 2
    rw [strEq_eq,Bool.eq_iff_iff,eqB_iff]
    constructor
    · rintro rfl; rfl
    · intro h0
      have:s.data.toList = []:=by simpa using h0
      rw [← bl_list s,this]; rfl
  | false => simp
theorem spec_digs {s:ByteArray} (h:s.size ≤ 1048576):M_spec_IsDigits s = some (digsB s.data.toList):=by
  unfold M_spec_IsDigits L_spec_IsDigits_0
  have key:=all_loopE (S:=S_spec_IsDigits_0) (fun i => (s,(i:Int),())) s.data.toList.length (fun i => isD (s.data.toList.getD i 0)) (s,()) (fun i hi => by
    have hi':i < s.size:=by rw [← size_list]; exact hi
    have hw:=wrap_nat hi' (by omega)
    simp only [S_spec_IsDigits_0,dlt hi',cond_true,str_atD hi,Option.bind_some,hw]
    generalize s.data.toList.getD i 0 = b
    unfold isD
    have e1:decide ((b.toNat:Int) < 48) = !decide (48 ≤ b.toNat):=by rw [Bool.eq_iff_iff]; simp; omega
    have e2:decide ((b.toNat:Int) > 57) = !decide (b.toNat ≤ 57):=by rw [Bool.eq_iff_iff]; simp; omega
    rw [e1,e2]
    cases decide (48 ≤ b.toNat) <;> cases decide (b.toNat ≤ 57) <;> rfl) (by simp [S_spec_IsDigits_0,size_list])
  rw [show ((0:Int)) = ((0:Nat):Int) from rfl,key,range_isD]
  unfold digsB
  cases hall:s.data.toList.all isD with
  | true =>
    simp only [cond_true,Option.bind_some,Bool.and_true]
    congr 1
    rw [← size_list,Bool.eq_iff_iff]
    cases s.data.toList <;> simp
  | false => simp
def decV (acc:Nat) (l:List UInt8):Nat:=l.foldl (fun a b => a * 10 + (b.toNat - 48)) acc
theorem decFrom_val:∀ (l:List UInt8) (acc:Nat),l.all isD = true → Lib.decFrom acc l = some (decV acc l)
  | [],acc,_ => rfl
  | b :: r,acc,h => by
    simp only [List.all_cons,Bool.and_eq_true] at h
    have hb:48 ≤ b.toNat ∧ b.toNat ≤ 57:=by simpa [isD] using h.1
    rw [Lib.decFrom,Lib.digitVal,if_pos hb]
    exact decFrom_val r _ h.2
theorem atoi_val {l:List UInt8} (hn:l ≠ []) (h:l.all isD = true):Lib.atoi l = some (decV 0 l:Int):=by
  cases l with
  | nil => exact absurd rfl hn
  | cons b r =>
    have hb:48 ≤ b.toNat ∧ b.toNat ≤ 57:=by
      simp only [List.all_cons,Bool.and_eq_true] at h
      simpa [isD] using h.1
    have h1:(b == 45) = false:=by
      have:b ≠ 45:=by rintro rfl; exact absurd hb.1 (by decide)
      simpa using this
    have h2:(b == 43) = false:=by
      have:b ≠ 43:=by rintro rfl; exact absurd hb.1 (by decide)
      simpa using this
    rw [Lib.atoi,h1,h2]
    simp only [Bool.false_eq_true,if_false,Lib.decNat,List.isEmpty_cons]
    rw [decFrom_val _ _ h]; rfl
theorem decV_lt:∀ (l:List UInt8) (acc:Nat),l.all isD = true → decV acc l < (acc + 1) * 10 ^ l.length
  | [],acc,_ => by simp [decV]
  | b :: r,acc,h => by
    simp only [List.all_cons,Bool.and_eq_true] at h
    have hb:48 ≤ b.toNat ∧ b.toNat ≤ 57:=by simpa [isD] using h.1
    have:=decV_lt r (acc * 10 + (b.toNat - 48)) h.2
    show decV (acc * 10 + (b.toNat - 48)) r < _
    refine Nat.lt_of_lt_of_le this ?_
    rw [List.length_cons,Nat.pow_succ',← Nat.mul_assoc]
    exact Nat.mul_le_mul_right _ (by omega)
theorem decV_append (a b:List UInt8) (acc:Nat):decV acc (a ++ b) = decV (decV acc a) b:=by unfold decV; rw [List.foldl_append]
def seg (l:List UInt8) (a b:Nat):List UInt8:=(l.drop a).take (b - a)
theorem seg_all {l:List UInt8} (h:l.all isD = true) (a b:Nat):(seg l a b).all isD = true:=by
  rw [List.all_eq_true] at h ⊢
  intro x hx
  exact h x (List.mem_of_mem_drop (List.mem_of_mem_take hx))
theorem seg_len {l:List UInt8} {a b:Nat} (hb:b ≤ l.length):(seg l a b).length = b - a:=by
  unfold seg; rw [List.length_take,List.length_drop]; omega
theorem seg_step {l:List UInt8} {a b:Nat} (h1:a ≤ b) (h2:b < l.length):seg l a (b + 1) = seg l a b ++ [l[b]]:=by
  unfold seg
  have:b + 1 - a = (b - a) + 1:=by omega
  rw [this,List.take_succ_eq_append_getElem (by rw [List.length_drop]; omega)]
  congr 1
  simp
  congr 1
  omega
def chunks (l:List UInt8) (e:Nat):List Int:=if h:e = 0 then [] else (decV 0 (seg l (e - 9) e):Int) :: chunks l (e - 9)
termination_by e
decreasing_by omega
theorem chunks_len (l:List UInt8):∀ (k e:Nat),e ≤ 9 * k → (chunks l e).length ≤ k
  | 0,e,h => by
    have:e = 0:=by omega
    rw [chunks,dif_pos this]; exact Nat.le_refl _
  | k + 1,e,h => by
    rw [chunks]
    split
    · simp
    · have:=chunks_len l k (e - 9) (by omega)
      rw [List.length_cons]; omega
theorem chunk_loop {S:ByteArray × Int × List Int × Unit → Option ((ByteArray × Int × List Int × Unit) ⊕ (List Int × Unit))} {s:ByteArray}
    (h1:∀ (e:Nat) (out:List Int),0 < e → e ≤ s.data.toList.length → out.length ≤ 2000 → S (s,(e:Int),out,()) = some (.inl (s,(e:Int) - 9,out ++ [(decV 0 (seg s.data.toList (e - 9) e):Int)],())))
    (h0:∀ (z:Int) (out:List Int),z ≤ 0 → S (s,z,out,()) = some (.inr (out,()))):∀ (k e:Nat) (out:List Int),e ≤ 9 * k → e ≤ s.data.toList.length → out.length + k ≤ 2000 →
      whileO S (s,(e:Int),out,()) = some (out ++ chunks s.data.toList e,())
  | 0,e,out,h,_,_ => by
    have he:e = 0:=by omega
    subst he
    rw [show (((0:Nat):Int)) = 0 from rfl,whileO_inr (h0 0 out (by omega)),chunks,dif_pos rfl,List.append_nil]
  | k + 1,e,out,h,h2,h3 => by
    by_cases he:e = 0
    · subst he
      rw [show (((0:Nat):Int)) = 0 from rfl,whileO_inr (h0 0 out (by omega)),chunks,dif_pos rfl,List.append_nil]
    · rw [whileO_inl (h1 e out (by omega) h2 (by omega)),chunks,dif_neg he]
      by_cases h9:9 ≤ e
      · have e1:((e:Int) - 9) = ((e - 9:Nat):Int):=by omega
        rw [e1,chunk_loop h1 h0 k (e - 9) _ (by omega) (by omega) (by rw [List.length_append]; simp; omega)]
        simp
      · rw [whileO_inr (h0 _ _ (by omega)),show e - 9 = 0 by omega,chunks,dif_pos rfl]
theorem extract_seg (s:ByteArray) (a b:Nat):s.extract a b = bl (seg s.data.toList a b):=ext_bl s a b
theorem impl_chunk {s:ByteArray} (hs:s.size ≤ 1048576) (hd:s.data.toList.all isD = true) (e:Nat) (out:List Int) (h0:0 < e) (h1:e ≤ s.data.toList.length) (h2:out.length ≤ 2000) :
    S_impl_ParseNat_0 (s,(e:Int),out,()) = some (.inl (s,(e:Int) - 9,out ++ [(decV 0 (seg s.data.toList (e - 9) e):Int)],())):=by
  have h1':e ≤ s.size:=by rw [← size_list]; exact h1
  have hw:IntKind.i64.wrap ((e:Int) - 9) = (e:Int) - 9:=wrap_i64 (by omega) (by omega)
  have hm:cond (decide (0 > ((e:Int) - 9))) 0 ((e:Int) - 9) = ((e - 9:Nat):Int):=by
    by_cases h:0 > ((e:Int) - 9)
    · rw [decide_eq_true h,cond_true]; omega
    · rw [decide_eq_false h,cond_false]; omega
  have hl:=seg_len (a:=e - 9) h1
  have ha:M_strconv_Atoi (s.extract (e - 9) e) = some (decV 0 (seg s.data.toList (e - 9) e):Int):=by
    unfold M_strconv_Atoi
    rw [extract_seg,bl_size,bl_data,show Nat.ble (seg s.data.toList (e - 9) e).length 18 = true by rw [hl]; simp; omega]
    simp only [guardO_true,Option.bind_some]
    refine atoi_val (fun h => ?_) (seg_all hd _ _)
    rw [h] at hl; simp at hl; omega
  simp only [S_impl_ParseNat_0]
  rw [show decide ((e:Int) > 0) = true by simp; omega,cond_true,hw,hm,inside_okn (by omega) h1',guardO_true,Option.bind_some,Int.toNat_natCast,Int.toNat_natCast,ha,Option.bind_some,room_b (by omega)]
  rfl
theorem spec_innerN {s:ByteArray} {e:Nat} {out:List Int} (hd:s.data.toList.all isD = true) (hs:s.size ≤ 1048576) (h1:e ≤ s.data.toList.length) {a:Nat} (ha:a ≤ e) (h9:e ≤ a + 9) :
    L_spec_ParseNat_1 s (e:Int) 0 (a:Int) out = some (s,(e:Int),(decV 0 (seg s.data.toList a e):Int),out,()):=by
  unfold L_spec_ParseNat_1
  have hn:∀ i,a ≤ i → i ≤ e → decV 0 (seg s.data.toList a i) < 1000000000:=fun i k1 k2 => by
    have h3:=decV_lt (seg s.data.toList a i) 0 (seg_all hd _ _)
    rw [seg_len (by omega)] at h3
    have h4:10 ^ (i - a) ≤ 10 ^ 9:=Nat.pow_le_pow_right (by omega) (by omega)
    omega
  have key:=whileO_upto S_spec_ParseNat_1 (fun i => (s,(e:Int),(decV 0 (seg s.data.toList a (a + i)):Int),((a + i:Nat):Int),out,())) (e - a) (s,(e:Int),(decV 0 (seg s.data.toList a e):Int),out,()) (fun i hi => ?_) ?_
  · have e0:seg s.data.toList a (a + 0) = []:=by unfold seg; simp
    rw [e0] at key
    exact key
  · have hlt:a + i < s.data.toList.length:=by omega
    have hb:isD (s.data.toList[a + i]) = true:=List.all_eq_true.1 hd _ (List.getElem_mem hlt)
    have hb:48 ≤ (s.data.toList[a + i]).toNat ∧ (s.data.toList[a + i]).toNat ≤ 57:=by simpa [isD] using hb
    have hv:=hn (a + i) (by omega) (by omega)
    have hls:s.data.toList.length ≤ 1048576:=by rw [size_list]; exact hs
    simp only [S_spec_ParseNat_1]
    rw [show decide (((a + i:Nat):Int) < (e:Int)) = true by simp; omega,cond_true,str_at hlt,Option.bind_some]
    rw [show a + (i + 1) = a + i + 1 by omega,seg_step (by omega) hlt,decV_append]
    generalize decV 0 (seg s.data.toList a (a + i)) = v at hv
    generalize (s.data.toList[a + i]) = b at hb
    have e1:decV v [b] = v * 10 + (b.toNat - 48):=rfl
    have w1:IntKind.i64.wrap ((v:Int) * 10) = (v:Int) * 10:=wrap_i64 (by omega) (by omega)
    have w2:IntKind.i64.wrap (b.toNat:Int) = (b.toNat:Int):=wrap_i64 (by omega) (by omega)
    have w3:IntKind.i64.wrap ((v:Int) * 10 + (b.toNat:Int)) = (v:Int) * 10 + (b.toNat:Int):=wrap_i64 (by omega) (by omega)
    have w4:IntKind.i64.wrap ((v:Int) * 10 + (b.toNat:Int) - 48) = (v:Int) * 10 + (b.toNat:Int) - 48:=wrap_i64 (by omega) (by omega)
    have w5:IntKind.i64.wrap (((a + i:Nat):Int) + 1) = ((a + i + 1:Nat):Int):=by rw [wrap_i64 (by omega) (by omega)]; simp
    rw [e1,w1,w2,w3,w4,w5]
    have e2:((v:Int) * 10 + (b.toNat:Int) - 48) = ((v * 10 + (b.toNat - 48):Nat):Int):=by omega
    rw [e2]
  · simp only [S_spec_ParseNat_1]
    rw [show a + (e - a) = e by omega,show decide ((e:Int) < (e:Int)) = false by simp]
    rfl
theorem spec_chunk {s:ByteArray} (hs:s.size ≤ 1048576) (hd:s.data.toList.all isD = true) (e:Nat) (out:List Int) (h0:0 < e) (h1:e ≤ s.data.toList.length) (h2:out.length ≤ 2000) :
    S_spec_ParseNat_0 (s,(e:Int),out,()) = some (.inl (s,(e:Int) - 9,out ++ [(decV 0 (seg s.data.toList (e - 9) e):Int)],())):=by
  have h1':e ≤ s.size:=by rw [← size_list]; exact h1
  have hw:IntKind.i64.wrap ((e:Int) - 9) = (e:Int) - 9:=wrap_i64 (by omega) (by omega)
  simp only [S_spec_ParseNat_0]
  rw [show decide ((e:Int) > 0) = true by simp; omega,cond_true,hw]
  by_cases h9:9 ≤ e
  · have e1:((e:Int) - 9) = ((e - 9:Nat):Int):=by omega
    rw [show decide ((e:Int) - 9 < 0) = false by simp; omega,cond_false,e1,spec_innerN hd hs h1 (by omega) (by omega),Option.bind_some]
    simp only []
    rw [room_b (by omega),Option.bind_some,hw,e1]
  · rw [show decide ((e:Int) - 9 < 0) = true by simp; omega,cond_true,show ((0:Int)) = ((0:Nat):Int) from rfl]
    rw [show L_spec_ParseNat_1 s (e:Int) ((0:Nat):Int) ((0:Nat):Int) out = some (s,(e:Int),(decV 0 (seg s.data.toList 0 e):Int),out,()) from spec_innerN hd hs h1 (by omega) (by omega),Option.bind_some]
    simp only []
    rw [room_b (by omega),Option.bind_some,hw,show e - 9 = 0 by omega]
noncomputable def natP (l:List UInt8):List Int × Bool :=
  cond (digsB l && (decide (l.length ≤ 540) && !(decide (1 < l.length) && (l.head? == some 48)))) (tz (chunks l l.length),true) ([],false)
theorem natP_len (l:List UInt8):(natP l).1.length ≤ 1000:=by
  unfold natP
  by_cases h:l.length ≤ 540
  · cases digsB l && (decide (l.length ≤ 540) && !(decide (1 < l.length) && (l.head? == some 48))) with
    | true =>
      show (tz (chunks l l.length)).length ≤ 1000
      have h1:=chunks_len l 60 l.length (by omega)
      have h2:(tz (chunks l l.length)).length ≤ (chunks l l.length).length:=by
        unfold tz
        rw [List.length_reverse]
        refine Nat.le_trans (List.dropWhile_sublist _).length_le ?_
        rw [List.length_reverse]; exact Nat.le_refl _
      omega
    | false => show 0 ≤ 1000; omega
  · rw [decide_eq_false h,Bool.false_and,Bool.and_false]; show 0 ≤ 1000; omega
theorem nat_tail {D:Option Bool} {L:Option (List Int × Unit)} {T:List Int → Option (List Int)} {s:ByteArray} (hs:s.size ≤ 1048576) (hD:D = some (digsB s.data.toList))
    (hL:s.data.toList.all isD = true → s.size ≤ 540 → L = some (chunks s.data.toList s.data.toList.length,())) (hT:∀ a:List Int,a.length ≤ 1000 → T a = some (tz a)) :
    (D.bind fun r =>
  cond (!r)
    (some (([]:List Int),false))
    (cond (decide ((s.size:Int) > 540))
      (some (([]:List Int),false))
      (cond (decide ((s.size:Int) > 1))
        ((strAt s 0).bind fun b =>
        cond (b == 48)
          (some (([]:List Int),false))
          (L.bind fun (out,_) =>
          (T out).bind fun r1 =>
          some (r1,true)))
        (L.bind fun (out,_) =>
        (T out).bind fun r1 =>
        some (r1,true))))) = some (natP s.data.toList):=by
  rw [hD,Option.bind_some]
  unfold natP
  cases hd:digsB s.data.toList with
  | false => rfl
  | true =>
    have hall:s.data.toList.all isD = true:=by
      unfold digsB at hd; simp only [Bool.and_eq_true] at hd; exact hd.2
    have hne:s.data.toList ≠ []:=by
      unfold digsB at hd; simp only [Bool.and_eq_true] at hd
      intro h; rw [h] at hd; cases hd.1
    rw [Bool.not_true,cond_false,Bool.true_and,size_list]
    by_cases h5:s.size ≤ 540
    · have fin:(L.bind fun (out,_) => (T out).bind fun r1 => some (r1,true)) = some (tz (chunks s.data.toList s.data.toList.length),true):=by
        rw [hL hall h5,Option.bind_some]
        show ((T (chunks s.data.toList s.data.toList.length)).bind fun r1 => some (r1,true)) = _
        rw [hT _ (by have:=chunks_len s.data.toList 60 s.data.toList.length (by rw [size_list]; omega); omega)]
        rfl
      rw [show decide ((s.size:Int) > 540) = false by simp; omega,cond_false,decide_eq_true h5,Bool.true_and,fin]
      by_cases h1:1 < s.size
      · rw [show decide ((s.size:Int) > 1) = true by simp; omega,cond_true,decide_eq_true h1,Bool.true_and]
        have h0:0 < s.data.toList.length:=List.length_pos_iff.2 hne
        rw [show ((0:Int)) = ((0:Nat):Int) from rfl,str_at h0,Option.bind_some]
        have e:((s.data.toList[0].toNat:Int) == 48) = (s.data.toList.head? == some 48):=by
          rw [List.head?_eq_getElem?,List.getElem?_eq_getElem h0,Bool.eq_iff_iff]
          simp only [beq_iff_eq,Option.some.injEq]
          constructor
          · intro h; exact UInt8.toNat_inj.1 (show s.data.toList[0].toNat = 48 by omega)
          · intro h; rw [h]; rfl
        rw [e,size_list]
        cases (s.data.toList.head? == some 48) <;> rfl
      · rw [show decide ((s.size:Int) > 1) = false by simp; omega,cond_false,decide_eq_false h1,Bool.false_and,size_list]; rfl
    · rw [show decide ((s.size:Int) > 540) = true by simp; omega,cond_true,decide_eq_false h5,Bool.false_and]; rfl
theorem impl_natP {s:ByteArray} (hs:s.size ≤ 1048576):M_impl_ParseNat s = some (natP s.data.toList):=by
  unfold M_impl_ParseNat
  refine nat_tail hs (impl_digs hs) (fun hd h5 => ?_) fun a ha => impl_trim (by omega)
  unfold L_impl_ParseNat_0
  have:=chunk_loop (fun e out h0 h1 h2 => impl_chunk hs hd e out h0 h1 h2) (fun z out hz => by simp only [S_impl_ParseNat_0]; rw [show decide (z > 0) = false by simp; omega]; rfl) 60 s.data.toList.length [] (by rw [size_list]; omega) (Nat.le_refl _) (by simp)
  rw [size_list] at this
  simpa [size_list] using this
theorem spec_natP {s:ByteArray} (hs:s.size ≤ 1048576):M_spec_ParseNat s = some (natP s.data.toList):=by
  unfold M_spec_ParseNat
  refine nat_tail hs (spec_digs hs) (fun hd h5 => ?_) fun a ha => spec_trim (by omega)
  unfold L_spec_ParseNat_0
  have:=chunk_loop (fun e out h0 h1 h2 => spec_chunk hs hd e out h0 h1 h2) (fun z out hz => by simp only [S_spec_ParseNat_0]; rw [show decide (z > 0) = false by simp; omega]; rfl) 60 s.data.toList.length [] (by rw [size_list]; omega) (Nat.le_refl _) (by simp)
  rw [size_list] at this
  simpa [size_list] using this
end Go.Di
namespace Go.Di
theorem decDigits_isD (u:Nat):(Lib.decDigits u).all isD = true:=by
  induction u using Nat.strongRecOn with
  | ind u ih =>
    have one:∀ d:Nat,d < 10 → isD (UInt8.ofNat (48 + d)) = true:=by decide
    rw [Lib.decDigits]
    split
    · rename_i h
      rw [List.all_cons,List.all_nil,one u h]; rfl
    · rw [List.all_append,ih (u / 10) (by omega),List.all_cons,List.all_nil,one (u % 10) (Nat.mod_lt _ (by omega))]; rfl
theorem data_app (a b:ByteArray):(a ++ b).data.toList = a.data.toList ++ b.data.toList:=by
  rw [ByteArray.data_append,Array.toList_append]
theorem dcB_isD (u:Nat):(dcB u).data.toList.all isD = true:=by rw [dcB,bl_data]; exact decDigits_isD u
theorem pad9_isD {s:ByteArray} (h:s.data.toList.all isD = true):(pad9 s).data.toList.all isD = true:=by
  unfold pad9
  rw [data_app,List.all_append,bl_data,h,Bool.and_true,List.all_eq_true]
  intro x hx
  rw [List.eq_of_mem_replicate hx]; rfl
theorem lims_isD (a:List Int):∀ (k:Nat) (s:ByteArray),s.data.toList.all isD = true → (lims a k s).data.toList.all isD = true
  | 0,_,h => h
  | k + 1,s,h => lims_isD a k _ (by rw [data_app,List.all_append,h,pad9_isD (dcB_isD _)]; rfl)
theorem natB_isD (a:List Int):(natB a).data.toList.all isD = true:=by
  unfold natB
  cases a.getLast? with
  | none => show (bl [48]).data.toList.all isD = true; decide
  | some d => exact lims_isD a _ _ (dcB_isD _)
theorem not_mem_isD {l:List UInt8} (h:l.all isD = true) {c:UInt8} (hc:isD c = false):c ∉ l:=fun hm => by
  rw [List.all_eq_true.1 h c hm] at hc; cases hc
theorem natB_ne (a:List Int):(natB a).data.toList ≠ []:=by
  have key:∀ (k:Nat) (s:ByteArray),s.data.toList ≠ [] → (lims a k s).data.toList ≠ []:=by
    intro k
    induction k with
    | zero => intro s h; exact h
    | succ k ih =>
      intro s h
      refine ih _ ?_
      rw [data_app]; simp [h]
  unfold natB
  cases a.getLast? with
  | none => show (bl [48]).data.toList ≠ []; decide
  | some d =>
    refine key _ _ ?_
    rw [dcB,bl_data]
    intro h
    have:=Lib.decDigits_length d.toNat
    rw [h] at this
    have h2:1 ≤ Lib.nDigits d.toNat:=by
      rw [Lib.nDigits]; split <;> omega
    simp at this; omega
theorem numB_no {neg:Bool} {mag:List Int}:(47:UInt8) ∉ (numB neg mag).data.toList:=by
  cases neg with
  | true =>
    show (47:UInt8) ∉ ((⟨#[45]⟩:ByteArray) ++ natB mag).data.toList
    rw [data_app]
    intro h
    rcases List.mem_append.1 h with h | h
    · revert h; decide
    · exact not_mem_isD (natB_isD mag) (by decide) h
  | false => exact not_mem_isD (natB_isD mag) (by decide)
theorem ratB_split (r:Rt):(splitL 47 (ratB r).data.toList).length ≤ 2:=by
  unfold ratB
  cases oneB r.den with
  | true => rw [cond_true,splitL_none numB_no]; simp
  | false =>
    rw [cond_false,data_app,data_app,List.append_assoc]
    show (splitL 47 ((numB r.neg r.mag).data.toList ++ 47 :: (natB r.den).data.toList)).length ≤ 2
    rw [splitL_app numB_no,splitL_none (not_mem_isD (natB_isD _) (by decide))]; simp
theorem ratB_ne (r:Rt):ratB r ≠ (⟨#[]⟩:ByteArray):=by
  intro h
  have h2:(ratB r).data.toList = []:=by rw [h]
  unfold ratB at h2
  have hn:(numB r.neg r.mag).data.toList ≠ []:=by
    cases r.neg with
    | true => show ((⟨#[45]⟩:ByteArray) ++ natB r.mag).data.toList ≠ []; rw [data_app]; simp
    | false => exact natB_ne _
  cases ho:oneB r.den with
  | true => rw [ho] at h2; exact hn h2
  | false =>
    rw [ho,cond_false,data_app,data_app] at h2
    simp at h2
/-! ### Whole numbers -/
noncomputable def bigP (l:List UInt8):Bg × Bool :=
  cond ((natP (cond (l.head? == some 45) l.tail l)).2 && !((l.head? == some 45) && ((natP (cond (l.head? == some 45) l.tail l)).1.length == 0)))
    ((⟨l.head? == some 45,(natP (cond (l.head? == some 45) l.tail l)).1⟩:Bg),true) ((⟨false,[]⟩:Bg),false)
theorem bigP_len (l:List UInt8):(bigP l).1.mag.length ≤ 1000:=by
  unfold bigP
  have:=natP_len (cond (l.head? == some 45) l.tail l)
  cases ((natP (cond (l.head? == some 45) l.tail l)).2 && !((l.head? == some 45) && ((natP (cond (l.head? == some 45) l.tail l)).1.length == 0))) with
  | true => exact this
  | false => show 0 ≤ 1000; omega
theorem len0 (a:List Int):((a.length:Int) == 0) = (a.length == 0):=by rw [Bool.eq_iff_iff]; simp
theorem signed_eq (neg:Bool) (a:List Int) (h:(neg && (a.length == 0)) = false):M_impl_signed_dc neg a = some ⟨neg,a⟩:=by
  unfold M_impl_signed_dc
  rw [len0]
  cases h0:a.length == 0 with
  | false => rfl
  | true =>
    rw [h0,Bool.and_true] at h
    have:a = []:=by simpa using h0
    subst this; subst h; rfl
theorem cutp {l:List UInt8}:M_strings_CutPrefix (bl l) (⟨#[45]⟩:ByteArray) = some (bl (cond (l.head? == some 45) l.tail l),l.head? == some 45):=by
  have hz:(⟨#[45]⟩:ByteArray).size = 1:=rfl
  unfold M_strings_CutPrefix M_internal_stringslite_CutPrefix M_internal_stringslite_HasPrefix
  rw [hz,bl_size]
  cases l with
  | nil => rfl
  | cons b r =>
    have hlen:(b :: r).length = r.length + 1:=List.length_cons
    rw [show decide (((b :: r).length:Int) ≥ ((1:Nat):Int)) = true by simp; omega,cond_true,
      show inside (b :: r).length (0,((1:Nat):Int)) = true from inside_okn (a:=0) (by omega) (by rw [hlen]; omega),guardO_true,Option.bind_some,Int.toNat_natCast]
    rw [inside_okn (a:=1) (b:=(b :: r).length) (by rw [hlen]; omega) (Nat.le_refl _),Int.toNat_natCast]
    have e1:strEq ((bl (b :: r)).extract 0 1) (⟨#[45]⟩:ByteArray) = ((b :: r).head? == some 45):=by
      rw [ext_bl,bl_data,strEq_eq,Bool.eq_iff_iff,eqB_iff]
      show (bl [b] = bl [45]) ↔ _
      constructor
      · intro h
        have:=congrArg (fun s:ByteArray => s.data.toList) h
        simp only [bl_data] at this
        simpa using this
      · intro h
        have:b = 45:=by simpa using h
        rw [this]
    rw [e1]
    cases hb:((b :: r).head? == some 45) with
    | false => rfl
    | true =>
      simp only [Option.bind_some,Bool.not_true,cond_false,cond_true,guardO_true]
      rw [ext_bl,bl_data]
      congr 3
      simp
theorem impl_bigP {l:List UInt8} (h:l.length ≤ 1048576):M_impl_ParseBigInt (bl l) = some (bigP l):=by
  unfold M_impl_ParseBigInt
  rw [cutp,Option.bind_some]
  simp only []
  have hl:(cond (l.head? == some 45) l.tail l).length ≤ 1048576:=by
    cases (l.head? == some 45) with
    | true => show l.tail.length ≤ _; rw [List.length_tail]; omega
    | false => exact h
  rw [impl_natP (by rw [bl_size]; exact hl),bl_data,Option.bind_some]
  unfold bigP
  generalize natP (cond (l.head? == some 45) l.tail l) = q
  obtain ⟨a,ok⟩:=q
  simp only [len0]
  cases ok with
  | false => rfl
  | true =>
    cases hb:(l.head? == some 45) with
    | false =>
      simp only [Bool.not_true,cond_false,Bool.false_and,Bool.not_false,Bool.and_true,cond_true]
      rw [signed_eq false a rfl]; rfl
    | true =>
      cases h0:a.length == 0 with
      | true => rfl
      | false =>
        simp only [Bool.not_true,cond_false,Bool.true_and,Bool.not_false,cond_true]
        rw [signed_eq true a (by rw [h0]; rfl)]; rfl
theorem spec_bigP {l:List UInt8} (h:l.length ≤ 1048576):M_spec_ParseBigInt (bl l) = some (bigP l):=by
  unfold M_spec_ParseBigInt bigP
  rw [bl_size]
  cases l with
  | nil =>
    rw [show decide ((([]:List UInt8).length:Int) > 0) = false by decide,cond_false,spec_natP (by rw [bl_size]; exact h),bl_data,Option.bind_some]
    rfl
  | cons b r =>
    have hlen:(b :: r).length = r.length + 1:=List.length_cons
    have hat:strAt (bl (b :: r)) 0 = some (b.toNat:Int):=rfl
    rw [show decide (((b :: r).length:Int) > 0) = true by simp,cond_true,hat,Option.bind_some]
    have e:((b.toNat:Int) == 45) = ((b :: r).head? == some 45):=by
      rw [Bool.eq_iff_iff]
      simp only [beq_iff_eq,List.head?_cons,Option.some.injEq]
      constructor
      · intro h; exact UInt8.toNat_inj.1 (show b.toNat = 45 by omega)
      · intro h; rw [h]; rfl
    rw [e]
    cases hb:((b :: r).head? == some 45) with
    | false =>
      rw [cond_false,spec_natP (by rw [bl_size]; exact h),bl_data,Option.bind_some]
      simp only [cond_false,Bool.false_and,Bool.not_false,Bool.and_true]
      generalize natP (b :: r) = q
      obtain ⟨a,ok⟩:=q
      cases ok <;> rfl
    | true =>
      rw [cond_true,show inside (b :: r).length (1,((b :: r).length:Int)) = true from inside_okn (a:=1) (b:=(b :: r).length) (by rw [hlen]; omega) (Nat.le_refl _),guardO_true,Option.bind_some,Int.toNat_natCast,ext_bl,bl_data]
      have e2:((b :: r).drop 1).take ((b :: r).length - 1) = r:=by simp
      rw [e2,spec_natP (by rw [bl_size]; rw [hlen] at h; omega),bl_data,Option.bind_some]
      simp only [cond_true,Bool.true_and,List.tail_cons,len0]
      generalize natP r = q
      obtain ⟨a,ok⟩:=q
      cases ok with
      | false => rfl
      | true => cases h0:a.length == 0 <;> simp [h0]
/-! ### Fractions -/
abbrev noRt:Rt:=⟨false,[],[]⟩
noncomputable def ratR (r:Rt) (s:ByteArray):Rt × Bool:=cond (pB (Good r ∧ ratB r = s)) (r,true) (noRt,false)
theorem impl_fin {r:Rt} {s:ByteArray} (hf:r.fit):((M_impl_RatOk r).bind fun k => cond (!k) (some (noRt,false)) ((M_impl_formatRat r).bind fun r3 => cond (!(strEq r3 s)) (some (noRt,false)) (some (r,true)))) = some (ratR r s):=by
  rw [impl_ratOk hf,Option.bind_some]
  unfold ratR
  by_cases hg:Good r
  · rw [pB_iff.2 hg,Bool.not_true,cond_false,impl_ratF hg,Option.bind_some,strEq_eq]
    by_cases he:ratB r = s
    · rw [eqB_iff.2 he,pB_iff.2 ⟨hg,he⟩]; rfl
    · rw [eqB_false.2 he,pB_not.2 (fun k => he k.2)]; rfl
  · rw [pB_not.2 hg,pB_not.2 (fun k => hg k.1)]; rfl
theorem spec_fin {r:Rt} {s:ByteArray} (hf:r.fit):((M_spec_FormatRat r).bind fun r2 => cond (strEq r2 (⟨#[]⟩:ByteArray)) (some (noRt,false)) ((M_spec_FormatRat r).bind fun r3 => cond (!(strEq r3 s)) (some (noRt,false)) (some (r,true)))) = some (ratR r s):=by
  unfold ratR
  by_cases hg:Good r
  · rw [spec_ratF hf hg]
    simp only [Option.bind_some]
    rw [strEq_eq,eqB_false.2 (ratB_ne r),cond_false,strEq_eq]
    by_cases he:ratB r = s
    · rw [eqB_iff.2 he,pB_iff.2 ⟨hg,he⟩]; rfl
    · rw [eqB_false.2 he,pB_not.2 (fun k => he k.2)]; rfl
  · have h1:M_spec_FormatRat r = some (⟨#[]⟩:ByteArray):=by
      unfold M_spec_FormatRat
      rw [spec_ratOk hf,pB_not.2 hg]; rfl
    rw [h1,pB_not.2 (fun k => hg k.1)]
    simp only [Option.bind_some]
    rw [strEq_self]; rfl
noncomputable def ratQ (num:Bg × Bool) (den:List Int × Bool) (s:ByteArray):Rt × Bool:=cond (num.2 && den.2) (ratR ⟨num.1.neg,num.1.mag,den.1⟩ s) (noRt,false)
theorem ratP_ex (l:List UInt8):∃ q:Rt × Bool,(l.length ≤ 1048576 → M_impl_ParseRat (bl l) = some q ∧ M_spec_ParseRat (bl l) = some q) ∧
    ((47 ∉ l ∧ q = ratQ (bigP l) ([1],true) (bl l)) ∨ ∃ h r,l = h ++ 47 :: r ∧ 47 ∉ h ∧ q = ratQ (bigP h) (natP r) (bl l)):=by
  have hsl:(⟨#[47]⟩:ByteArray) = bl [47]:=rfl
  have hcut:∀ p:List UInt8 × List UInt8 × Bool,Lib.cut l [47] = p → l.length ≤ 1048576 → M_strings_Cut (bl l) (⟨#[47]⟩:ByteArray) = some (bl p.1,bl p.2.1,p.2.2):=fun p hp hl => by
    unfold M_strings_Cut
    rw [bl_size,show Nat.ble l.length 4294967280 = true by simp; omega,bl_data,show (⟨#[47]⟩:ByteArray).data.toList = [47] from rfl,hp]; rfl
  rcases split_first 47 l with h | ⟨h,r,h1,h2⟩
  · refine ⟨_,fun hl => ⟨?_,?_⟩,.inl ⟨h,rfl⟩⟩
    · unfold M_impl_ParseRat
      rw [hcut _ (cut_none h) hl,Option.bind_some]
      simp only []
      rw [impl_bigP hl,Option.bind_some]
      have hb:=bigP_len l
      generalize bigP l = q at hb
      obtain ⟨n,ok⟩:=q
      simp only [cond_false]
      unfold ratQ
      cases ok with
      | false => rfl
      | true =>
        simp only [Bool.not_true,cond_false,Bool.and_true,cond_true]
        exact impl_fin ⟨by show n.mag.length ≤ 1048576; have:n.mag.length ≤ 1000:=hb; omega,by show ([1]:List Int).length ≤ 1048576; decide⟩
    · unfold M_spec_ParseRat
      rw [hsl,spec_split (by rw [bl_size]; exact hl),bl_data,splitL_none h,Option.bind_some]
      simp only [List.map_cons,List.map_nil]
      rw [show idx [bl l] 0 = some (bl l) from rfl,Option.bind_some,show ([bl l]:List ByteArray)[0]? = some (bl l) from rfl,Option.bind_some,spec_bigP hl,Option.bind_some]
      have hb:=bigP_len l
      generalize bigP l = q at hb
      obtain ⟨n,ok⟩:=q
      simp only []
      unfold ratQ
      rw [show decide ((([bl l]:List ByteArray).length:Int) > 1) = false by simp,cond_false]
      cases ok with
      | false => rfl
      | true =>
        simp only [Bool.not_true,cond_false,Bool.and_true,cond_true]
        exact spec_fin ⟨by show n.mag.length ≤ 1048576; have:n.mag.length ≤ 1000:=hb; omega,by show ([1]:List Int).length ≤ 1048576; decide⟩
  · refine ⟨_,fun hl => ⟨?_,?_⟩,.inr ⟨h,r,h1,h2,rfl⟩⟩
    · have hlen:l.length = h.length + (r.length + 1):=by rw [h1]; simp
      unfold M_impl_ParseRat
      rw [hcut (h,r,true) (by rw [h1]; exact cut_app h2) hl,Option.bind_some]
      simp only []
      rw [impl_bigP (by omega),Option.bind_some,impl_natP (by rw [bl_size]; omega),bl_data]
      have hb:=bigP_len h
      have hr:=natP_len r
      generalize bigP h = q at hb
      obtain ⟨n,ok⟩:=q
      simp only [cond_true,Option.bind_some]
      generalize natP r = q2 at hr
      obtain ⟨d,ok2⟩:=q2
      unfold ratQ
      cases ok with
      | false => rfl
      | true =>
        cases ok2 with
        | false => rfl
        | true =>
          simp only [Bool.not_true,cond_false,Bool.and_true,cond_true]
          exact impl_fin ⟨by show n.mag.length ≤ 1048576; have:n.mag.length ≤ 1000:=hb; omega,by show d.length ≤ 1048576; have:d.length ≤ 1000:=hr; omega⟩
    · have hlen:l.length = h.length + (r.length + 1):=by rw [h1]; simp
      have hsp:splitL 47 l = h :: splitL 47 r:=by rw [h1]; exact splitL_app h2
      unfold M_spec_ParseRat
      rw [hsl,spec_split (by rw [bl_size]; exact hl),bl_data,hsp,Option.bind_some]
      cases hr:splitL 47 r with
      | nil => exact absurd hr (splitL_ne _ _)
      | cons e t =>
        simp only [List.map_cons]
        rw [show idx (bl h :: bl e :: t.map bl) 0 = some (bl h) from rfl,Option.bind_some,show (bl h :: bl e :: t.map bl)[0]? = some (bl h) from rfl,Option.bind_some,spec_bigP (by omega),Option.bind_some,
          show idx (bl h :: bl e :: t.map bl) 1 = some (bl e) from rfl,Option.bind_some,show (bl h :: bl e :: t.map bl)[1]? = some (bl e) from rfl,Option.bind_some]
        have hgt:decide (((bl h :: bl e :: t.map bl).length:Int) > 1) = true:=by simp; omega
        rcases split_first 47 r with hr2 | ⟨h3,r3,k1,k2⟩
        · rw [splitL_none hr2] at hr
          cases hr
          rw [spec_natP (by rw [bl_size]; omega),bl_data]
          have hb:=bigP_len h
          have hr:=natP_len r
          generalize bigP h = q at hb
          obtain ⟨n,ok⟩:=q
          generalize natP r = q2 at hr
          obtain ⟨d,ok2⟩:=q2
          simp only [Option.bind_some]
          rw [hgt,cond_true]
          unfold ratQ
          cases ok with
          | false => rfl
          | true =>
            cases ok2 with
            | false => rfl
            | true =>
              simp only [Bool.not_true,cond_false,Bool.and_true,cond_true]
              exact spec_fin ⟨by show n.mag.length ≤ 1048576; have:n.mag.length ≤ 1000:=hb; omega,by show d.length ≤ 1048576; have:d.length ≤ 1000:=hr; omega⟩
        · have hne:(natP r) = ([],false):=by
            unfold natP digsB
            have:r.all isD = false:=by
              rw [← Bool.not_eq_true]
              intro ha
              exact not_mem_isD ha (c:=47) (by decide) (by rw [k1]; simp)
            rw [this,Bool.and_false,Bool.false_and]; rfl
          have hle:e.length ≤ 1048576:=by
            rw [k1,splitL_app k2] at hr
            cases hr
            rw [k1] at hlen; simp at hlen; omega
          have hcount:∀ x:Rt,ratB x ≠ bl l:=fun x hx => by
            have h5:=ratB_split x
            rw [hx,bl_data,hsp,hr] at h5
            rw [k1,splitL_app k2] at hr
            cases hr
            have:(splitL 47 r3).length ≠ 0:=fun h => splitL_ne _ _ (List.eq_nil_of_length_eq_zero h)
            rw [List.length_cons,List.length_cons] at h5; omega
          rw [spec_natP (by rw [bl_size]; exact hle),bl_data]
          have hb:=bigP_len h
          have hre:=natP_len e
          rw [hne]
          generalize bigP h = q at hb
          obtain ⟨n,ok⟩:=q
          generalize natP e = q2 at hre
          obtain ⟨d,ok2⟩:=q2
          simp only [Option.bind_some]
          rw [hgt,cond_true]
          unfold ratQ
          cases ok with
          | false => rfl
          | true =>
            cases ok2 with
            | false => rfl
            | true =>
              simp only [Bool.not_true,cond_false,Bool.and_true,Bool.and_false,cond_true]
              refine (spec_fin (s:=bl l) (r:=⟨n.neg,n.mag,d⟩) ⟨by show n.mag.length ≤ 1048576; have:n.mag.length ≤ 1000:=hb; omega,by show d.length ≤ 1048576; have:d.length ≤ 1000:=hre; omega⟩).trans ?_
              unfold ratR
              rw [pB_not.2 (fun k => hcount _ k.2)]; rfl
noncomputable def ratP (l:List UInt8):Rt × Bool:=Classical.choose (ratP_ex l)
theorem impl_ratP {l:List UInt8} (h:l.length ≤ 1048576):M_impl_ParseRat (bl l) = some (ratP l):=((Classical.choose_spec (ratP_ex l)).1 h).1
theorem spec_ratP {l:List UInt8} (h:l.length ≤ 1048576):M_spec_ParseRat (bl l) = some (ratP l):=((Classical.choose_spec (ratP_ex l)).1 h).2
theorem ratP_cases (l:List UInt8):(∃ r,ratP l = (r,true) ∧ Good r ∧ ratB r = bl l) ∨ ratP l = (noRt,false):=by
  have key:∀ n d,((∃ r,ratQ n d (bl l) = (r,true) ∧ Good r ∧ ratB r = bl l) ∨ ratQ n d (bl l) = (noRt,false)):=fun n d => by
    unfold ratQ
    cases n.2 && d.2 with
    | false => exact .inr rfl
    | true =>
      show (∃ r,ratR _ _ = (r,true) ∧ _) ∨ ratR _ _ = _
      unfold ratR
      by_cases h:Good (⟨n.1.neg,n.1.mag,d.1⟩:Rt) ∧ ratB ⟨n.1.neg,n.1.mag,d.1⟩ = bl l
      · rw [pB_iff.2 h]; exact .inl ⟨_,rfl,h.1,h.2⟩
      · rw [pB_not.2 h]; exact .inr rfl
  rcases (Classical.choose_spec (ratP_ex l)).2 with ⟨_,h⟩ | ⟨_,_,_,_,h⟩
  · have h:ratP l = _:=h
    rw [h]; exact key _ _
  · have h:ratP l = _:=h
    rw [h]; exact key _ _
end Go.Di
namespace Go.Di
/-! ### Half tangents -/
/-! ### Lists of observations -/
noncomputable def obssB (n:Net) (l:List Obs):Bool:=netB n && (decide (l.length ≤ 20) && l.all (obsB n))
theorem le20 {n:Nat}:decide ((n:Int) > 20) = !decide (n ≤ 20):=by rw [Bool.eq_iff_iff]; simp; omega
theorem spec_obssOk {n:Net} {l:List Obs} (hn:lfit Sta.fitN n.stations) (hl:lfit Obs.fit l):M_spec_ObservationsOk n l = some (obssB n l):=by
  unfold M_spec_ObservationsOk obssB L_spec_ObservationsOk_0
  refine chain (spec_netOk hn) ?_
  rw [le20]
  refine chain0 ?_
  have key:=all_loopE (S:=S_spec_ObservationsOk_0) (fun i => (l,(l.length:Int),(i:Int),n.plane,n.stations,())) l.length (atB (obsB n) l) () (fun i hi => by
    simp only [S_spec_ObservationsOk_0,dlt hi,cond_true,idx_at hi,Option.bind_some,spec_obsOk (n:=⟨n.plane,n.stations⟩) hn.1 (hl.2 _ (List.getElem_mem hi)),succ_wrap hi hl.1,atB_at (obsB n) hi]
    cases obsB n l[i] <;> rfl) (by simp [S_spec_ObservationsOk_0])
  rw [all_range] at key
  rw [show ((0:Int)) = ((0:Nat):Int) from rfl,key]
  cases l.all (obsB n) <;> rfl
theorem impl_obssOk {n:Net} {l:List Obs} (hn:lfit Sta.fitN n.stations) (hl:lfit Obs.fit l):M_impl_ObservationsOk n l = some (obssB n l):=by
  unfold M_impl_ObservationsOk obssB L_impl_ObservationsOk_0
  refine chain (impl_netOk (fitN_fit hn)) ?_
  rw [le20]
  refine chain0 ?_
  have key:=all_loopE (S:=S_impl_ObservationsOk_0) (fun i => (l,(l.length:Int),(i:Int),n.plane,n.stations,())) l.length (atB (obsB n) l) () (fun i hi => by
    simp only [S_impl_ObservationsOk_0,dlt hi,cond_true,idx_at hi,Option.bind_some,impl_obsFits (n:=⟨n.plane,n.stations⟩) (hl.2 _ (List.getElem_mem hi)),succ_wrap hi hl.1,atB_at (obsB n) hi]
    cases obsB n l[i] <;> rfl) (by simp [S_impl_ObservationsOk_0])
  rw [all_range] at key
  rw [show ((0:Int)) = ((0:Nat):Int) from rfl,key]
  cases l.all (obsB n) <;> rfl
theorem spec_bookOk {b:Bk} (hs:lfit Sta.fitN b.stations) (ho:lfit Obs.fit b.obs):M_spec_BookOk b = some (obssB ⟨b.plane,b.stations⟩ b.obs):=by
  unfold M_spec_BookOk
  rw [spec_obssOk (n:=⟨b.plane,b.stations⟩) hs ho]; rfl
theorem impl_bookOk {b:Bk} (hs:lfit Sta.fitN b.stations) (ho:lfit Obs.fit b.obs):M_impl_BookOk b = some (obssB ⟨b.plane,b.stations⟩ b.obs):=by
  unfold M_impl_BookOk
  rw [impl_obssOk (n:=⟨b.plane,b.stations⟩) hs ho]; rfl
end Go.Di
namespace Go.Di
def catL {α:Type} (g:α → ByteArray) (l:List α) (o:ByteArray):ByteArray:=l.foldl (fun o x => o ++ g x) o
theorem catL_size {α:Type} {g:α → ByteArray} {K:Nat}:∀ (l:List α) (o:ByteArray),(∀ x ∈ l,(g x).size ≤ K) → (catL g l o).size ≤ o.size + K * l.length
  | [],o,_ => Nat.le_refl _
  | x :: r,o,h => by
    have:=catL_size r (o ++ g x) fun y hy => h y (List.mem_cons_of_mem _ hy)
    have h1:=h x (List.mem_cons_self ..)
    show (catL g r (o ++ g x)).size ≤ _
    rw [sz_app] at this
    rw [List.length_cons,Nat.mul_add]; omega
theorem catL_take {α:Type} {g:α → ByteArray} {l:List α} {o:ByteArray} {i:Nat} (h:i < l.length):catL g (l.take (i + 1)) o = catL g (l.take i) o ++ g l[i]:=by
  unfold catL
  rw [List.take_succ_eq_append_getElem h,List.foldl_append]; rfl
theorem cat_loop {α ρ:Type} {S:ByteArray × List α × Int × Int × Bool × List Sta × List Obs × Unit → Option ((ByteArray × List α × Int × Int × Bool × List Sta × List Obs × Unit) ⊕ ρ)} {t:List α} {g:α → ByteArray} {K:Nat} {v:Bool} {v1:List Sta} {v2:List Obs} {o:ByteArray}
    (hg:∀ x ∈ t,(g x).size ≤ K) (hl:t.length ≤ 100) (hK:K ≤ 10000000) (ho:o.size ≤ 1000000000)
    (hS:∀ (i:Nat) (out:ByteArray) (h:i < t.length),out.size ≤ 2000000000 → S (out,t,(t.length:Int),(i:Int),v,v1,v2,()) = some (.inl (out ++ g t[i],t,(t.length:Int),((i + 1:Nat):Int),v,v1,v2,()))) {r:ρ}
    (hE:S (catL g t o,t,(t.length:Int),(t.length:Int),v,v1,v2,()) = some (.inr r)):whileO S (o,t,(t.length:Int),0,v,v1,v2,()) = some r:=by
  have:=whileO_upto S (fun i => (catL g (t.take i) o,t,(t.length:Int),(i:Int),v,v1,v2,())) t.length r (fun i hi => ?_) (by simp only [List.take_length]; exact hE)
  · simpa [catL] using this
  · have hs:=catL_size (g:=g) (K:=K) (t.take i) o fun x hx => hg x (List.mem_of_mem_take hx)
    have hm:K * (t.take i).length ≤ 10000000 * 100:=Nat.mul_le_mul hK (by rw [List.length_take]; omega)
    rw [hS i _ hi (by omega),catL_take hi]
abbrev nlc:ByteArray:=⟨#[10]⟩
noncomputable def staL (plane:Bool) (e:Sta):ByteArray:=cond e.fixed (⟨#[102,105,120,101,100,32]⟩:ByteArray) (⟨#[102,114,101,101,32]⟩:ByteArray) ++ (e.name ++ (spc ++ (ratB e.x ++ cond plane (spc ++ (ratB e.y ++ nlc)) nlc)))
theorem staL_size {plane:Bool} {e:Sta} (h1:e.name.size ≤ 1048576) (h2:Good e.x) (h3:Good e.y):(staL plane e).size ≤ 2000000:=by
  have k1:=ratB_size h2
  have k2:=ratB_size h3
  have s1:spc.size = 1:=rfl
  have s2:nlc.size = 1:=rfl
  have s3:(⟨#[102,105,120,101,100,32]⟩:ByteArray).size = 6:=rfl
  have s4:(⟨#[102,114,101,101,32]⟩:ByteArray).size = 5:=rfl
  unfold staL
  cases e.fixed <;> cases plane <;> simp only [cond_true,cond_false,sz_app] <;> omega
section
variable {t:List Sta} {plane:Bool} {v1:List Sta} {v2:List Obs} {i:Nat} {out:ByteArray}
theorem impl_staStep (hi:i < t.length) (hl:t.length ≤ 100) (ho:out.size ≤ 2000000000) (h1:t[i].name.size ≤ 1048576) (h2:Good t[i].x) (h3:Good t[i].y) :
    S_impl_FormatBook_0 (out,t,(t.length:Int),(i:Int),plane,v1,v2,()) = some (.inl (out ++ staL plane t[i],t,(t.length:Int),((i + 1:Nat):Int),plane,v1,v2,())):=by
  have k1:=ratB_size h2
  have k2:=ratB_size h3
  have s1:(⟨#[32]⟩:ByteArray).size = 1:=rfl
  have s2:(⟨#[10]⟩:ByteArray).size = 1:=rfl
  have s3:(⟨#[102,105,120,101,100,32]⟩:ByteArray).size = 6:=rfl
  have s4:(⟨#[102,114,101,101,32]⟩:ByteArray).size = 5:=rfl
  have s5:(⟨#[102,105,120,101,100]⟩:ByteArray).size = 5:=rfl
  have s6:(⟨#[102,114,101,101]⟩:ByteArray).size = 4:=rfl
  simp only [S_impl_FormatBook_0,dlt hi,cond_true,idx_at hi,Option.bind_some,impl_ratF h2,impl_ratF h3,succ_wrap hi (show t.length ≤ 1048576 by omega)]
  unfold staL
  cases t[i].fixed <;> simp only [cond_true,cond_false] <;> (repeat rw [grd (by first | omega | (simp only [sz_app]; omega))]) <;> cases plane <;> simp only [cond_true,cond_false] <;>
    (repeat rw [grd (by first | omega | (simp only [sz_app]; omega))]) <;> simp only [ByteArray.append_assoc]
theorem spec_staStep (hi:i < t.length) (hl:t.length ≤ 100) (ho:out.size ≤ 2000000000) (h1:t[i].name.size ≤ 1048576) (f1:t[i].fit) (h2:Good t[i].x) (h3:Good t[i].y) :
    S_spec_FormatBook_0 (out,t,(t.length:Int),(i:Int),plane,v1,v2,()) = some (.inl (out ++ staL plane t[i],t,(t.length:Int),((i + 1:Nat):Int),plane,v1,v2,())):=by
  have k1:=ratB_size h2
  have k2:=ratB_size h3
  have s1:(⟨#[32]⟩:ByteArray).size = 1:=rfl
  have s2:(⟨#[10]⟩:ByteArray).size = 1:=rfl
  have s3:(⟨#[102,105,120,101,100,32]⟩:ByteArray).size = 6:=rfl
  have s4:(⟨#[102,114,101,101,32]⟩:ByteArray).size = 5:=rfl
  simp only [S_spec_FormatBook_0,dlt hi,cond_true,idx_at hi,Option.bind_some,spec_ratF f1.1 h2,spec_ratF f1.2 h3,succ_wrap hi (show t.length ≤ 1048576 by omega)]
  unfold staL
  cases t[i].fixed <;> simp only [cond_true,cond_false] <;> (repeat rw [grd (by first | omega | (simp only [sz_app]; omega))]) <;> cases plane <;> simp only [cond_true,cond_false] <;>
    (repeat rw [grd (by first | omega | (simp only [sz_app]; omega))]) <;> simp only [ByteArray.append_assoc]
end
noncomputable def obsL (n:Net) (o:Obs):ByteArray:=(M_spec_l12Line n o).getD (⟨#[]⟩:ByteArray) ++ nlc
theorem netB_good {n:Net} (h:netB n = true):n.stations.length ≤ 8 ∧ ∀ e ∈ n.stations,nameB e.name = true ∧ Good e.x ∧ Good e.y:=by
  unfold netB at h
  simp only [Bool.and_eq_true,decide_eq_true_eq,List.all_eq_true,List.mem_range] at h
  refine ⟨h.1,fun e he => ?_⟩
  obtain ⟨i,hi,rfl⟩:=List.getElem_of_mem he
  have:=h.2 i hi
  unfold netP staB at this
  rw [List.getElem?_eq_getElem hi] at this
  simp only [Bool.and_eq_true] at this
  exact ⟨this.1.1,pB_iff.1 this.1.2.1,pB_iff.1 this.1.2.2.1⟩
noncomputable def bookT (b:Bk):ByteArray:=catL (obsL ⟨b.plane,b.stations⟩) b.obs (catL (staL b.plane) b.stations (cond b.plane (⟨#[112,108,97,110,101,10]⟩:ByteArray) (⟨#[104,101,105,103,104,116,115,10]⟩:ByteArray)))
noncomputable def bookF (b:Bk):ByteArray:=cond (obssB ⟨b.plane,b.stations⟩ b.obs) (bookT b) (⟨#[]⟩:ByteArray)
theorem book_both {b:Bk} (hs:lfit Sta.fitN b.stations) (ho:lfit Obs.fit b.obs):M_spec_FormatBook b = some (bookF b) ∧ M_impl_FormatBook b = some (bookF b):=by
  unfold M_spec_FormatBook M_impl_FormatBook bookF
  rw [spec_bookOk hs ho,impl_bookOk hs ho,Option.bind_some,Option.bind_some]
  cases h:obssB ⟨b.plane,b.stations⟩ b.obs with
  | false => exact ⟨rfl,rfl⟩
  | true =>
    unfold obssB at h
    simp only [Bool.and_eq_true,decide_eq_true_eq,List.all_eq_true] at h
    obtain ⟨hn,hlen,hobs⟩:=h
    obtain ⟨n8,hgood⟩:=netB_good hn
    have n8:b.stations.length ≤ 8:=n8
    have hgood:∀ e ∈ b.stations,nameB e.name = true ∧ Good e.x ∧ Good e.y:=hgood
    have sL:∀ e ∈ b.stations,(staL b.plane e).size ≤ 2000000:=fun e he => staL_size (hs.2 e he).2 (hgood e he).2.1 (hgood e he).2.2
    have oL:∀ o ∈ b.obs,∃ v,M_spec_l12Line ⟨b.plane,b.stations⟩ o = some v ∧ M_impl_FormatObservation ⟨b.plane,b.stations⟩ o = some v ∧ obsL ⟨b.plane,b.stations⟩ o = v ++ nlc ∧ v.size ≤ 3000000:=fun o hm => by
      obtain ⟨v,_,h2,h3,h4⟩:=obs_both (n:=⟨b.plane,b.stations⟩) hs (ho.2 o hm)
      have h4:=h4 (by rw [hn,hobs o hm]; rfl)
      exact ⟨v,h4,h2,by unfold obsL; rw [h4]; rfl,h3⟩
    have s2:nlc.size = 1:=rfl
    have oS:∀ o ∈ b.obs,(obsL ⟨b.plane,b.stations⟩ o).size ≤ 3000001:=fun o hm => by
      obtain ⟨v,_,_,h3,h4⟩:=oL o hm
      rw [h3,sz_app]; omega
    have hd:∀ o:ByteArray,o.size ≤ 100 → (catL (staL b.plane) b.stations o).size ≤ 1000000000:=fun o h => by
      have:=catL_size b.stations o sL
      have:2000000 * b.stations.length ≤ 2000000 * 8:=Nat.mul_le_mul_left _ n8
      omega
    have i0:∀ o:ByteArray,o.size ≤ 100 → L_impl_FormatBook_0 o b.stations (b.stations.length:Int) 0 b.plane b.stations b.obs = some (catL (staL b.plane) b.stations o,b.plane,b.stations,b.obs,()):=fun o h => by
      unfold L_impl_FormatBook_0
      exact cat_loop sL (by omega) (by omega) (by omega) (fun i out hi hz => impl_staStep hi (by omega) hz (hs.2 _ (List.getElem_mem hi)).2 (hgood _ (List.getElem_mem hi)).2.1 (hgood _ (List.getElem_mem hi)).2.2) (by simp [S_impl_FormatBook_0])
    have s0:∀ o:ByteArray,o.size ≤ 100 → L_spec_FormatBook_0 o b.stations (b.stations.length:Int) 0 b.plane b.stations b.obs = some (catL (staL b.plane) b.stations o,b.plane,b.stations,b.obs,()):=fun o h => by
      unfold L_spec_FormatBook_0
      exact cat_loop sL (by omega) (by omega) (by omega) (fun i out hi hz => spec_staStep hi (by omega) hz (hs.2 _ (List.getElem_mem hi)).2 (hs.2 _ (List.getElem_mem hi)).1 (hgood _ (List.getElem_mem hi)).2.1 (hgood _ (List.getElem_mem hi)).2.2) (by simp [S_spec_FormatBook_0])
    have i1:∀ o:ByteArray,o.size ≤ 1000000000 → L_impl_FormatBook_1 o b.obs (b.obs.length:Int) 0 b.plane b.stations b.obs = some (catL (obsL ⟨b.plane,b.stations⟩) b.obs o,()):=fun o h => by
      unfold L_impl_FormatBook_1
      refine cat_loop oS (by omega) (by omega) h (fun i out hi hz => ?_) (by simp [S_impl_FormatBook_1])
      obtain ⟨v,_,h2,h3,h4⟩:=oL _ (List.getElem_mem hi)
      have s2:(⟨#[10]⟩:ByteArray).size = 1:=rfl
      simp only [S_impl_FormatBook_1,dlt hi,cond_true,idx_at hi,Option.bind_some,h2,h3,succ_wrap hi (show b.obs.length ≤ 1048576 by omega)]
      rw [grd (by omega),grd (by simp only [sz_app]; omega)]
    have s1:∀ o:ByteArray,o.size ≤ 1000000000 → L_spec_FormatBook_1 o b.obs (b.obs.length:Int) 0 b.plane b.stations b.obs = some (catL (obsL ⟨b.plane,b.stations⟩) b.obs o,()):=fun o h => by
      unfold L_spec_FormatBook_1
      refine cat_loop oS (by omega) (by omega) h (fun i out hi hz => ?_) (by simp [S_spec_FormatBook_1])
      obtain ⟨v,h1,_,h3,h4⟩:=oL _ (List.getElem_mem hi)
      have s2:(⟨#[10]⟩:ByteArray).size = 1:=rfl
      simp only [S_spec_FormatBook_1,dlt hi,cond_true,idx_at hi,Option.bind_some,h1,h3,succ_wrap hi (show b.obs.length ≤ 1048576 by omega)]
      rw [grd (by omega),grd (by simp only [sz_app]; omega),ByteArray.append_assoc]
    have c1:(⟨#[112,108,97,110,101,10]⟩:ByteArray).size ≤ 100:=by decide
    have c2:(⟨#[104,101,105,103,104,116,115,10]⟩:ByteArray).size ≤ 100:=by decide
    simp only [Bool.not_true,cond_false,cond_true]
    rw [i0 _ c1,i0 _ c2,s0 _ c1,s0 _ c2]
    simp only [Option.bind_some]
    rw [i1 _ (hd _ c1),i1 _ (hd _ c2),s1 _ (hd _ c1),s1 _ (hd _ c2)]
    unfold bookT
    cases b.plane <;> exact ⟨rfl,rfl⟩
end Go.Di
namespace Go.Di
theorem findSta_spec {l:List Sta} {name:ByteArray} (h:0 ≤ findSta l name):∃ hi:(findSta l name).toNat < l.length,(l[(findSta l name).toNat]).name = name:=by
  obtain ⟨F,h1,h2⟩:∃ F:Nat → Option Int,findSta l name = ((List.range l.length).findSome? F).getD (-1) ∧ ∀ i x,F i = some x → ∃ hi:i < l.length,l[i].name = name ∧ x = (i:Int):=by
    refine ⟨_,rfl,fun i x hx => ?_⟩
    split at hx
    · rename_i e he
      obtain ⟨hi,he⟩:=List.getElem?_eq_some_iff.1 he
      cases hq:eqB e.name name with
      | false => rw [hq] at hx; cases hx
      | true =>
        rw [hq] at hx
        cases hx
        exact ⟨hi,by rw [he]; exact eqB_iff.1 hq,rfl⟩
    · cases hx
  cases hf:(List.range l.length).findSome? F with
  | none => rw [h1,hf] at h; exact absurd h (by decide)
  | some x =>
    obtain ⟨i,_,hx⟩:=List.exists_of_findSome?_eq_some hf
    obtain ⟨hi,k1,k2⟩:=h2 i x hx
    have e:findSta l name = (i:Int):=by rw [h1,hf]; exact k2
    refine ⟨by rw [e]; simpa using hi,?_⟩
    simp only [e,Int.toNat_natCast]
    exact k1
theorem join_split (c:UInt8):∀ l:List UInt8,Lib.join (splitL c l) [c] = l
  | [] => rfl
  | b :: r => by
    have ih:=join_split c r
    unfold splitL
    split
    · rename_i h
      cases hs:splitL c r with
      | nil => exact absurd hs (splitL_ne _ _)
      | cons x xs =>
        rw [hs] at ih
        rw [Lib.join_cons] at ih ⊢
        rw [h]
        simp only [Lib.joinTail,List.map_cons,List.flatten_cons,List.nil_append] at ih ⊢
        rw [List.append_assoc,ih]; rfl
    · cases hs:splitL c r with
      | nil => exact absurd hs (splitL_ne _ _)
      | cons x xs =>
        rw [hs] at ih
        simp only
        rw [Lib.join_cons] at ih ⊢
        rw [List.cons_append,ih]
theorem splitL_len (c:UInt8):∀ (l:List UInt8),∀ w ∈ splitL c l,w.length ≤ l.length
  | [],w,h => by
    have:w = []:=by simpa [splitL] using h
    rw [this]; exact Nat.le_refl _
  | b :: r,w,h => by
    unfold splitL at h
    split at h
    · rcases List.mem_cons.1 h with rfl | h
      · simp
      · have:=splitL_len c r w h; rw [List.length_cons]; omega
    · cases hs:splitL c r with
      | nil => exact absurd hs (splitL_ne _ _)
      | cons x xs =>
        rw [hs] at h
        simp only at h
        rcases List.mem_cons.1 h with rfl | h
        · have:=splitL_len c r x (by rw [hs]; exact List.mem_cons_self ..)
          simp; omega
        · have:=splitL_len c r w (by rw [hs]; exact List.mem_cons_of_mem _ h)
          rw [List.length_cons]; omega
noncomputable def kw (k:Int):ByteArray:=(M_impl_KindName k).getD (⟨#[]⟩:ByteArray)
theorem impl_kw (k:Int):M_impl_KindName k = some (kw k):=by
  obtain ⟨v,_,h,_⟩:=kind_both k
  unfold kw; rw [h]; rfl
theorem spec_kw (k:Int):M_spec_KindName k = some (kw k):=by
  obtain ⟨v,h1,h,_⟩:=kind_both k
  unfold kw; rw [h,h1]; rfl
abbrev obsE:Obs:=⟨0,0,0,noRt,noRt⟩
noncomputable def outB (n:Net) (k f t:Int) (x y:Rt × Bool):Obs × Bool:=cond (x.2 && (y.2 && (netB n && obsB n ⟨k,f,t,x.1,y.1⟩))) ((⟨k,f,t,x.1,y.1⟩:Obs),true) (obsE,false)
theorem bad_rt:¬ Good noRt:=fun h => by
  obtain ⟨_,_,_,h4,_⟩:=good_iff.1 h
  exact h4 rfl
theorem good_fitR {r:Rt} (h:Good r):r.fit:=by
  obtain ⟨h1,_,h3,_⟩:=good_iff.1 h
  have k1:=h1.2
  have k3:=h3.2
  exact ⟨by omega,by omega⟩
theorem ratP_fit (l:List UInt8):(ratP l).1.fit:=by
  rcases ratP_cases l with ⟨r,h,hg,_⟩ | h
  · rw [h]; exact good_fitR hg
  · rw [h]; exact ⟨by decide,by decide⟩
theorem ratP_good {l:List UInt8} (h:Good (ratP l).1):(ratP l).2 = true ∧ ratB (ratP l).1 = bl l:=by
  rcases ratP_cases l with ⟨r,e,hg,hb⟩ | e
  · rw [e]; exact ⟨rfl,hb⟩
  · rw [e] at h; exact absurd h bad_rt
theorem line4 {n:Net} {k f:Int} {b c d:List UInt8} (fn:lfit Sta.fitN n.stations) (hk:betB k = false) (hf:f = findSta n.stations (bl b))
    (h:obsB n ⟨k,f,0,(ratP c).1,(ratP d).1⟩ = true):M_spec_l12Line n ⟨k,f,0,(ratP c).1,(ratP d).1⟩ = some (bl (Lib.join [(kw k).data.toList,b,c,d] [32])):=by
  obtain ⟨⟨a1,a2⟩,_,g1,g2⟩:=obs_facts h
  have a1:0 ≤ f:=a1
  have a2:f < n.stations.length:=a2
  have ei:idx n.stations f = some (n.stations[f.toNat]'(by omega)):=idx_int a1 a2
  have en:(n.stations[f.toNat]'(by omega)).name = bl b:=by
    subst hf
    exact (findSta_spec a1).2
  generalize hs1:n.stations[f.toNat]'(by omega) = s1 at ei en
  have f1:s1.name.size ≤ 1048576:=(fn.2 s1 (by rw [← hs1]; exact List.getElem_mem _)).2
  have g1':Good (ratP c).1:=g1
  have g2':Good (ratP d).1:=g2
  have r1:=ratB_size g1'
  have r2:=ratB_size g2'
  obtain ⟨_,_,e2,ek⟩:=kind_both k
  rw [impl_kw] at e2
  cases e2
  have hsp:(⟨#[32]⟩:ByteArray).size = 1:=rfl
  unfold M_spec_l12Line
  simp only []
  rw [ei,spec_kw,spec_bet,hk,spec_ratF (good_fitR g1') g1',spec_ratF (good_fitR g2') g2']
  simp only [Option.bind_some,cond_false]
  iterate 6 rw [grd (by first | omega | (simp only [sz_app]; omega))]
  congr 1
  refine (join4 _ _ _ _).symm.trans ?_
  show bl (Lib.join [(kw k).data.toList,s1.name.data.toList,(ratB (ratP c).1).data.toList,(ratB (ratP d).1).data.toList] [32]) = _
  rw [en,(ratP_good g1').2,(ratP_good g2').2,bl_data,bl_data,bl_data]
theorem line5 {n:Net} {k f t:Int} {b b2 c d:List UInt8} (fn:lfit Sta.fitN n.stations) (hk:betB k = true) (hf:f = findSta n.stations (bl b)) (ht:t = findSta n.stations (bl b2))
    (h:obsB n ⟨k,f,t,(ratP c).1,(ratP d).1⟩ = true):M_spec_l12Line n ⟨k,f,t,(ratP c).1,(ratP d).1⟩ = some (bl (Lib.join [(kw k).data.toList,b,b2,c,d] [32])):=by
  obtain ⟨⟨a1,a2⟩,hb,g1,g2⟩:=obs_facts h
  have a1:0 ≤ f:=a1
  have a2:f < n.stations.length:=a2
  obtain ⟨b1,b3⟩:=hb hk
  have b1:0 ≤ t:=b1
  have b3:t < n.stations.length:=b3
  have ei:idx n.stations f = some (n.stations[f.toNat]'(by omega)):=idx_int a1 a2
  have en:(n.stations[f.toNat]'(by omega)).name = bl b:=by
    subst hf
    exact (findSta_spec a1).2
  have ej:idx n.stations t = some (n.stations[t.toNat]'(by omega)):=idx_int b1 b3
  have em:(n.stations[t.toNat]'(by omega)).name = bl b2:=by
    subst ht
    exact (findSta_spec b1).2
  generalize hs1:n.stations[f.toNat]'(by omega) = s1 at ei en
  generalize hs2:n.stations[t.toNat]'(by omega) = s2 at ej em
  have f1:s1.name.size ≤ 1048576:=(fn.2 s1 (by rw [← hs1]; exact List.getElem_mem _)).2
  have f2:s2.name.size ≤ 1048576:=(fn.2 s2 (by rw [← hs2]; exact List.getElem_mem _)).2
  have g1':Good (ratP c).1:=g1
  have g2':Good (ratP d).1:=g2
  have r1:=ratB_size g1'
  have r2:=ratB_size g2'
  obtain ⟨_,_,e2,ek⟩:=kind_both k
  rw [impl_kw] at e2
  cases e2
  have hsp:(⟨#[32]⟩:ByteArray).size = 1:=rfl
  unfold M_spec_l12Line
  simp only []
  rw [ei,ej,spec_kw,spec_bet,hk,spec_ratF (good_fitR g1') g1',spec_ratF (good_fitR g2') g2']
  simp only [Option.bind_some,cond_true]
  iterate 8 rw [grd (by first | omega | (simp only [sz_app]; omega))]
  congr 1
  refine (join5 _ _ _ _ _).symm.trans ?_
  show bl (Lib.join [(kw k).data.toList,s1.name.data.toList,s2.name.data.toList,(ratB (ratP c).1).data.toList,(ratB (ratP d).1).data.toList] [32]) = _
  rw [en,em,(ratP_good g1').2,(ratP_good g2').2,bl_data,bl_data,bl_data,bl_data]
theorem spec_tail {n:Net} {k f t:Int} {c d l:List UInt8} (fn:lfit Sta.fitN n.stations)
    (hline:obsB n ⟨k,f,t,(ratP c).1,(ratP d).1⟩ = true → M_spec_l12Line n ⟨k,f,t,(ratP c).1,(ratP d).1⟩ = some (bl l)) :
    ((M_spec_ObservationOk n (⟨k,f,t,(ratP c).1,(ratP d).1⟩:Obs)).bind fun r5 =>
        cond (!r5) (some (obsE,false))
          ((M_spec_l12Line n (⟨k,f,t,(ratP c).1,(ratP d).1⟩:Obs)).bind fun r6 =>
          cond (!(strEq r6 (bl l))) (some (obsE,false)) (some ((⟨k,f,t,(ratP c).1,(ratP d).1⟩:Obs),true)))) = some (outB n k f t (ratP c) (ratP d)):=by
  rw [spec_obsOk' fn (show (⟨k,f,t,(ratP c).1,(ratP d).1⟩:Obs).fit from ⟨ratP_fit c,ratP_fit d⟩),Option.bind_some]
  unfold outB
  cases hn:netB n with
  | false => simp only [Bool.false_and,Bool.and_false]; rfl
  | true =>
    cases ho:obsB n ⟨k,f,t,(ratP c).1,(ratP d).1⟩ with
    | false => simp only [Bool.and_false]; rfl
    | true =>
      obtain ⟨_,_,g1,g2⟩:=obs_facts ho
      rw [(ratP_good g1).1,(ratP_good g2).1,hline ho,Option.bind_some,strEq_self]
      rfl
end Go.Di
namespace Go.Di
abbrev cnt (k:Int):Nat:=cond (betB k) 5 4
abbrev PoS:=Int × Bool × (List Sta) × Int × Int × Int × Bool × (List Int) × (List Int) × Bool × (List Int) × (List Int) × (List ByteArray) × Unit
def poS (n:Net) (ws:List ByteArray) (k:Int):PoS:=(k,n.plane,n.stations,0,0,0,false,[],[],false,[],[],ws,())
theorem wrapk {k:Int} (h1:1 ≤ k) (h2:k ≤ 8):IntKind.i64.wrap (k + 1) = k + 1:=wrap_i64 (by omega) (by omega)
theorem po_miss {n:Net} {w:ByteArray} {ws:List ByteArray} {k:Int} (h1:1 ≤ k) (h2:k ≤ 8) (h:kw k ≠ w ∨ (w :: ws).length ≠ cnt k):S_impl_ParseObservation_0 (poS n (w :: ws) k) = some (.inl (poS n (w :: ws) (k + 1))):=by
  unfold poS
  simp only [S_impl_ParseObservation_0]
  rw [show decide (k ≤ 8) = true from decide_eq_true h2,cond_true,impl_bet,Option.bind_some,show idx (w :: ws) 0 = some w from rfl,show (w :: ws)[0]? = some w from rfl,impl_kw,wrapk h1 h2]
  simp only [Option.bind_some]
  by_cases he:kw k = w
  · have hl:=h.resolve_left (fun x => x he)
    rw [he,strEq_self,Bool.not_true]
    simp only [cond_false]
    cases hb:betB k with
    | true =>
      have:(w :: ws).length ≠ 5:=by simpa [cnt,hb] using hl
      rw [show (((w :: ws).length:Int) != 5) = true by simp only [bne_iff_ne,ne_eq]; omega]
      rfl
    | false =>
      have:(w :: ws).length ≠ 4:=by simpa [cnt,hb] using hl
      rw [show (((w :: ws).length:Int) != 4) = true by simp only [bne_iff_ne,ne_eq]; omega]
      rfl
  · rw [strEq_eq,eqB_false.2 he]
    cases betB k <;> rfl
noncomputable def poR (o:Obs × Bool):Bool × Int × Int × Int × Bool × Bool × (List Int) × (List Int) × (List Int) × (List Int) × Unit :=
  (o.2,o.1.kind,o.1.frm,o.1.to,o.1.value.neg,o.1.variance.neg,o.1.value.mag,o.1.value.den,o.1.variance.mag,o.1.variance.den,())
theorem ok_net {n:Net} {o:Obs} (fn:lfit Sta.fitN n.stations) (fo:o.fit):M_impl_ObservationOk (⟨n.plane,n.stations⟩:Net) o = some (netB n && obsB n o):=impl_obsOk' fn fo
theorem find_net {n:Net} {name:ByteArray} (h:n.stations.length ≤ 1048576):M_impl_FindStation (⟨n.plane,n.stations⟩:Net) name = some (findSta n.stations name):=impl_find h
theorem po_hit5 {n:Net} {a b b2 c d:List UInt8} {k:Int} (h2:k ≤ 8) (fn:lfit Sta.fitN n.stations) (hw:kw k = bl a) (hb:betB k = true) (hc:c.length ≤ 1048576) (hd:d.length ≤ 1048576) :
    S_impl_ParseObservation_0 (poS n [bl a,bl b,bl b2,bl c,bl d] k) = some (.inr (.inl (poR (outB n k (findSta n.stations (bl b)) (findSta n.stations (bl b2)) (ratP c) (ratP d))))):=by
  unfold poS
  simp only [S_impl_ParseObservation_0]
  rw [show decide (k ≤ 8) = true from decide_eq_true h2,cond_true,impl_bet,Option.bind_some,hb,cond_true]
  rw [show idx [bl a,bl b,bl b2,bl c,bl d] 0 = some (bl a) from rfl,show [bl a,bl b,bl b2,bl c,bl d][0]? = some (bl a) from rfl,impl_kw,
    show idx [bl a,bl b,bl b2,bl c,bl d] 1 = some (bl b) from rfl,show [bl a,bl b,bl b2,bl c,bl d][1]? = some (bl b) from rfl,
    show idx [bl a,bl b,bl b2,bl c,bl d] 2 = some (bl b2) from rfl,show [bl a,bl b,bl b2,bl c,bl d][2]? = some (bl b2) from rfl,
    show idx [bl a,bl b,bl b2,bl c,bl d] 3 = some (bl c) from rfl,show [bl a,bl b,bl b2,bl c,bl d][3]? = some (bl c) from rfl,
    show idx [bl a,bl b,bl b2,bl c,bl d] 4 = some (bl d) from rfl,show [bl a,bl b,bl b2,bl c,bl d][4]? = some (bl d) from rfl]
  simp only [Option.bind_some,cond_true]
  rw [hw,strEq_self,Bool.not_true,cond_false,show (([bl a,bl b,bl b2,bl c,bl d].length:Int) != 5) = false by rfl,cond_false,find_net fn.1,find_net fn.1,impl_ratP hc,impl_ratP hd]
  have f1:=ratP_fit c
  have f2:=ratP_fit d
  generalize ratP c = x at f1 ⊢
  generalize ratP d = y at f2 ⊢
  obtain ⟨x,bx⟩:=x
  obtain ⟨y,bb⟩:=y
  simp only [Option.bind_some]
  rw [ok_net fn (show (⟨k,findSta n.stations (bl b),findSta n.stations (bl b2),x,y⟩:Obs).fit from ⟨f1,f2⟩),Option.bind_some]
  unfold outB
  cases bx with
  | false => rfl
  | true =>
    cases bb with
    | false => rfl
    | true =>
      cases hz:(netB n && obsB n ⟨k,findSta n.stations (bl b),findSta n.stations (bl b2),x,y⟩) <;> simp only [hz] <;> rfl
theorem po_hit4 {n:Net} {a b c d:List UInt8} {k:Int} (h2:k ≤ 8) (fn:lfit Sta.fitN n.stations) (hw:kw k = bl a) (hb:betB k = false) (hc:c.length ≤ 1048576) (hd:d.length ≤ 1048576) :
    S_impl_ParseObservation_0 (poS n [bl a,bl b,bl c,bl d] k) = some (.inr (.inl (poR (outB n k (findSta n.stations (bl b)) 0 (ratP c) (ratP d))))):=by
  unfold poS
  simp only [S_impl_ParseObservation_0]
  rw [show decide (k ≤ 8) = true from decide_eq_true h2,cond_true,impl_bet,Option.bind_some,hb,cond_false]
  rw [show idx [bl a,bl b,bl c,bl d] 0 = some (bl a) from rfl,show [bl a,bl b,bl c,bl d][0]? = some (bl a) from rfl,impl_kw,
    show idx [bl a,bl b,bl c,bl d] 1 = some (bl b) from rfl,show [bl a,bl b,bl c,bl d][1]? = some (bl b) from rfl,
    show idx [bl a,bl b,bl c,bl d] 2 = some (bl c) from rfl,show [bl a,bl b,bl c,bl d][2]? = some (bl c) from rfl,
    show idx [bl a,bl b,bl c,bl d] 3 = some (bl d) from rfl,show [bl a,bl b,bl c,bl d][3]? = some (bl d) from rfl]
  simp only [Option.bind_some,cond_false]
  rw [hw,strEq_self,Bool.not_true,cond_false,show (([bl a,bl b,bl c,bl d].length:Int) != 4) = false by rfl,cond_false,find_net fn.1,impl_ratP hc,impl_ratP hd]
  have f1:=ratP_fit c
  have f2:=ratP_fit d
  generalize ratP c = x at f1 ⊢
  generalize ratP d = y at f2 ⊢
  obtain ⟨x,bx⟩:=x
  obtain ⟨y,bb⟩:=y
  simp only [Option.bind_some]
  rw [ok_net fn (show (⟨k,findSta n.stations (bl b),0,x,y⟩:Obs).fit from ⟨f1,f2⟩),Option.bind_some]
  unfold outB
  cases bx with
  | false => rfl
  | true =>
    cases bb with
    | false => rfl
    | true =>
      cases hz:(netB n && obsB n ⟨k,findSta n.stations (bl b),0,x,y⟩) <;> simp only [hz] <;> rfl
theorem kw_inj {j k:Nat} (hj:1 ≤ j) (hj8:j ≤ 8) (hk:1 ≤ k) (hk8:k ≤ 8) (h:kw (j:Int) = kw (k:Int)):j = k:=by
  have key:∀ j k:Fin 9,1 ≤ j.val → 1 ≤ k.val → (M_impl_KindName (j.val:Int)).getD (⟨#[]⟩:ByteArray) = (M_impl_KindName (k.val:Int)).getD (⟨#[]⟩:ByteArray) → j = k:=by
    intro j k hj hk h
    have e:∀ j:Fin 9,1 ≤ j.val → (M_impl_KindName (j.val:Int)).getD (⟨#[]⟩:ByteArray) = ([(⟨#[]⟩:ByteArray),(⟨#[104,101,105,103,104,116]⟩:ByteArray),(⟨#[114,105,115,101]⟩:ByteArray),(⟨#[101,97,115,116]⟩:ByteArray),(⟨#[110,111,114,116,104]⟩:ByteArray),(⟨#[100,101,97,115,116]⟩:ByteArray),(⟨#[100,110,111,114,116,104]⟩:ByteArray),(⟨#[100,105,115,116,97,110,99,101]⟩:ByteArray),(⟨#[98,101,97,114,105,110,103]⟩:ByteArray)]:List ByteArray).getD j.val (⟨#[]⟩:ByteArray):=by
      intro j hj
      match j,hj with
      | 1,_ => rfl
      | 2,_ => rfl
      | 3,_ => rfl
      | 4,_ => rfl
      | 5,_ => rfl
      | 6,_ => rfl
      | 7,_ => rfl
      | 8,_ => rfl
    rw [e j hj,e k hk] at h
    revert j k
    decide
  have:=key ⟨j,by omega⟩ ⟨k,by omega⟩ hj hk h
  simpa using this
theorem kind_ex (w:ByteArray):(∃ k:Nat,1 ≤ k ∧ k ≤ 8 ∧ kw (k:Int) = w) ∨ ∀ k:Nat,1 ≤ k → k ≤ 8 → kw (k:Int) ≠ w:=by
  by_cases h:∃ k:Nat,1 ≤ k ∧ k ≤ 8 ∧ kw (k:Int) = w
  · exact .inl h
  · exact .inr fun k h1 h2 e => h ⟨k,h1,h2,e⟩
theorem spec_kind_hit {w:ByteArray} {k:Nat} (h1:1 ≤ k) (h8:k ≤ 8) (h:kw (k:Int) = w):M_spec_l12Kind w = some (k:Int):=by
  unfold M_spec_l12Kind L_spec_l12Kind_0
  have run:=whileO_run S_spec_l12Kind_0 (fun i => (w,((i + 1:Nat):Int),())) (k - 1) (fun i hi => by
    simp only [S_spec_l12Kind_0]
    rw [decide_eq_true (show ((i + 1:Nat):Int) ≤ 8 by omega),cond_true,spec_kw,Option.bind_some,strEq_eq,eqB_false.2 (fun e => by
      have:=kw_inj (j:=i + 1) (k:=k) (by omega) (by omega) h1 h8 (e.trans h.symm); omega),cond_false,wrapk (by omega) (by omega)]
    rfl)
  have e0:whileO S_spec_l12Kind_0 (w,1,()) = whileO S_spec_l12Kind_0 (w,(k:Int),()):=by
    have:((k - 1 + 1:Nat):Int) = (k:Int):=by omega
    rw [this] at run
    exact run
  rw [e0,whileO_inr (r:=.inl ((k:Int),())) (by
    simp only [S_spec_l12Kind_0]
    rw [show decide ((k:Int) ≤ 8) = true from decide_eq_true (by omega),cond_true,spec_kw,Option.bind_some,h,strEq_self,cond_true])]
  rfl
theorem spec_kind_none {w:ByteArray} (h:∀ k:Nat,1 ≤ k → k ≤ 8 → kw (k:Int) ≠ w):M_spec_l12Kind w = some 0:=by
  unfold M_spec_l12Kind L_spec_l12Kind_0
  have run:=whileO_run S_spec_l12Kind_0 (fun i => (w,((i + 1:Nat):Int),())) 8 (fun i hi => by
    simp only [S_spec_l12Kind_0]
    rw [decide_eq_true (show ((i + 1:Nat):Int) ≤ 8 by omega),cond_true,spec_kw,Option.bind_some,strEq_eq,eqB_false.2 (h (i + 1) (by omega) (by omega)),cond_false,wrapk (by omega) (by omega)]
    rfl)
  have e0:whileO S_spec_l12Kind_0 (w,1,()) = whileO S_spec_l12Kind_0 (w,9,()):=run
  rw [e0,whileO_inr (r:=.inr ()) (by simp only [S_spec_l12Kind_0]; rfl)]
  rfl
theorem impl_run {n:Net} {w:ByteArray} {ws:List ByteArray} {k:Nat} (h8:k ≤ 8) (h:∀ i:Nat,1 ≤ i → i ≤ k → kw (i:Int) ≠ w ∨ (w :: ws).length ≠ cnt (i:Int)) :
    whileO S_impl_ParseObservation_0 (poS n (w :: ws) 1) = whileO S_impl_ParseObservation_0 (poS n (w :: ws) ((k + 1:Nat):Int)):=by
  have run:=whileO_run S_impl_ParseObservation_0 (fun i => poS n (w :: ws) ((i + 1:Nat):Int)) k (fun i hi => by
    have:=po_miss (n:=n) (w:=w) (ws:=ws) (k:=((i + 1:Nat):Int)) (by omega) (by omega) (h (i + 1) (by omega) (by omega))
    rw [this]; rfl)
  exact run
theorem impl_end9 {n:Net} {ws:List ByteArray}:whileO S_impl_ParseObservation_0 (poS n ws 9) = some (.inr (0,0,0,false,[],[],false,[],[],())):=whileO_inr rfl
theorem obs_parse {n:Net} {l:List UInt8} (fn:lfit Sta.fitN n.stations) (hl:l.length ≤ 1048576):∃ o,M_impl_ParseObservation n (bl l) = some o ∧ M_spec_ParseObservation n (bl l) = some o ∧
    ((∃ k f t c d,o = outB n k f t (ratP c) (ratP d)) ∨ o = (obsE,false)):=by
  have hsp:(⟨#[32]⟩:ByteArray) = bl [32]:=rfl
  have hjoin:=join_split 32 l
  have hlen:=splitL_len 32 l
  unfold M_impl_ParseObservation M_spec_ParseObservation
  rw [hsp,impl_split (by rw [bl_size]; exact hl),spec_split (by rw [bl_size]; exact hl),bl_data]
  simp only [Option.bind_some]
  cases hs:splitL 32 l with
  | nil => exact absurd hs (splitL_ne _ _)
  | cons a t =>
    rw [hs] at hjoin hlen
    rw [List.map_cons,show idx (bl a :: t.map bl) 0 = some (bl a) from rfl,show (bl a :: t.map bl)[0]? = some (bl a) from rfl]
    simp only [Option.bind_some]
    have himpl:∀ r,whileO S_impl_ParseObservation_0 (poS n (bl a :: t.map bl) 1) = some r → L_impl_ParseObservation_0 1 n.plane n.stations 0 0 0 false ([]:List Int) ([]:List Int) false ([]:List Int) ([]:List Int) (bl a :: t.map bl) = some r:=fun r h => h
    have fail9:(∀ i:Nat,1 ≤ i → i ≤ 8 → kw (i:Int) ≠ bl a ∨ (bl a :: t.map bl).length ≠ cnt (i:Int)) → L_impl_ParseObservation_0 1 n.plane n.stations 0 0 0 false ([]:List Int) ([]:List Int) false ([]:List Int) ([]:List Int) (bl a :: t.map bl) = some (.inr (0,0,0,false,[],[],false,[],[],())):=fun h =>
      himpl _ ((impl_run (Nat.le_refl 8) h).trans impl_end9)
    rcases kind_ex (bl a) with ⟨k,h1,h8,hk⟩ | hno
    · rw [spec_kind_hit h1 h8 hk]
      simp only [Option.bind_some]
      rw [spec_bet]
      simp only [Option.bind_some]
      rw [show ((k:Int) == 0) = false by simp; omega]
      have other:∀ i:Nat,1 ≤ i → i ≤ 8 → i ≠ k → kw (i:Int) ≠ bl a:=fun i i1 i8 hne e => hne (kw_inj i1 i8 h1 h8 (e.trans hk.symm))
      by_cases hc:(bl a :: t.map bl).length = cnt (k:Int)
      · have hrun:∀ r,S_impl_ParseObservation_0 (poS n (bl a :: t.map bl) (k:Int)) = some (.inr r) → L_impl_ParseObservation_0 1 n.plane n.stations 0 0 0 false ([]:List Int) ([]:List Int) false ([]:List Int) ([]:List Int) (bl a :: t.map bl) = some r:=fun r h => by
          have:=impl_run (n:=n) (w:=bl a) (ws:=t.map bl) (k:=k - 1) (by omega) (fun i i1 i2 => .inl (other i i1 (by omega) (by omega)))
          rw [show ((k - 1 + 1:Nat):Int) = (k:Int) by omega] at this
          exact himpl _ (this.trans (whileO_inr h))
        cases hb:betB (k:Int) with
        | true =>
          have h5:(bl a :: t.map bl).length = 5:=by rw [hc]; unfold cnt; rw [hb]; rfl
          have h4:t.length = 4:=by simpa using h5
          match t,h4 with
          | [b,b2,c,d],_ =>
            have lc:c.length ≤ 1048576:=Nat.le_trans (hlen c (by simp)) hl
            have ld:d.length ≤ 1048576:=Nat.le_trans (hlen d (by simp)) hl
            refine ⟨outB n k (findSta n.stations (bl b)) (findSta n.stations (bl b2)) (ratP c) (ratP d),?_,?_,.inl ⟨_,_,_,_,_,rfl⟩⟩
            · rw [hrun _ (po_hit5 (by omega) fn hk hb lc ld)]; rfl
            · simp only [cond_true,cond_false,List.map_cons,List.map_nil]
              rw [show (([bl a,bl b,bl b2,bl c,bl d].length:Int) != 5) = false by rfl,cond_false,
                show idx [bl a,bl b,bl b2,bl c,bl d] 1 = some (bl b) from rfl,show [bl a,bl b,bl b2,bl c,bl d][1]? = some (bl b) from rfl,
                show idx [bl a,bl b,bl b2,bl c,bl d] 2 = some (bl b2) from rfl,show [bl a,bl b,bl b2,bl c,bl d][2]? = some (bl b2) from rfl,
                show idx [bl a,bl b,bl b2,bl c,bl d] 3 = some (bl c) from rfl,show [bl a,bl b,bl b2,bl c,bl d][3]? = some (bl c) from rfl,
                show idx [bl a,bl b,bl b2,bl c,bl d] 4 = some (bl d) from rfl,show [bl a,bl b,bl b2,bl c,bl d][4]? = some (bl d) from rfl]
              rw [findStation_eq]
              simp only [Option.bind_some]
              rw [impl_find fn.1,impl_find fn.1,spec_ratP lc,spec_ratP ld]
              simp only [Option.bind_some]
              refine spec_tail fn fun ho => ?_
              rw [line5 fn hb rfl rfl ho,hk,bl_data,hjoin]
        | false =>
          have h5:(bl a :: t.map bl).length = 4:=by rw [hc]; unfold cnt; rw [hb]; rfl
          have h4:t.length = 3:=by simpa using h5
          match t,h4 with
          | [b,c,d],_ =>
            have lc:c.length ≤ 1048576:=Nat.le_trans (hlen c (by simp)) hl
            have ld:d.length ≤ 1048576:=Nat.le_trans (hlen d (by simp)) hl
            refine ⟨outB n k (findSta n.stations (bl b)) 0 (ratP c) (ratP d),?_,?_,.inl ⟨_,_,_,_,_,rfl⟩⟩
            · rw [hrun _ (po_hit4 (by omega) fn hk hb lc ld)]; rfl
            · simp only [cond_true,cond_false,List.map_cons,List.map_nil]
              rw [show (([bl a,bl b,bl c,bl d].length:Int) != 4) = false by rfl,cond_false,
                show idx [bl a,bl b,bl c,bl d] 1 = some (bl b) from rfl,show [bl a,bl b,bl c,bl d][1]? = some (bl b) from rfl,
                show idx [bl a,bl b,bl c,bl d] 2 = some (bl c) from rfl,show [bl a,bl b,bl c,bl d][2]? = some (bl c) from rfl,
                show idx [bl a,bl b,bl c,bl d] 3 = some (bl d) from rfl,show [bl a,bl b,bl c,bl d][3]? = some (bl d) from rfl]
              rw [findStation_eq]
              simp only [Option.bind_some]
              rw [impl_find fn.1,spec_ratP lc,spec_ratP ld]
              simp only [Option.bind_some]
              refine spec_tail fn fun ho => ?_
              rw [line4 fn hb rfl ho,hk,bl_data,hjoin]
      · refine ⟨(obsE,false),?_,?_,.inr rfl⟩
        · rw [fail9 fun i i1 i8 => by
            by_cases e:i = k
            · subst e; exact .inr hc
            · exact .inl (other i i1 i8 e)]
          rfl
        · cases hb:betB (k:Int) with
          | true =>
            have:(bl a :: t.map bl).length ≠ 5:=by simpa [cnt,hb] using hc
            simp only [cond_true,cond_false]
            rw [show (((bl a :: t.map bl).length:Int) != 5) = true by simp only [bne_iff_ne,ne_eq]; omega]; rfl
          | false =>
            have:(bl a :: t.map bl).length ≠ 4:=by simpa [cnt,hb] using hc
            simp only [cond_true,cond_false]
            rw [show (((bl a :: t.map bl).length:Int) != 4) = true by simp only [bne_iff_ne,ne_eq]; omega]; rfl
    · refine ⟨(obsE,false),?_,?_,.inr rfl⟩
      · rw [fail9 fun i i1 i8 => .inl (hno i i1 i8)]; rfl
      · rw [spec_kind_none hno]
        simp only [Option.bind_some]
        rw [spec_bet]
        rfl
end Go.Di
namespace Go.Di
abbrev staE:Sta:=⟨(⟨#[]⟩:ByteArray),noRt,noRt,false⟩
abbrev fixW:ByteArray:=⟨#[102,105,120,101,100]⟩
abbrev freW:ByteArray:=⟨#[102,114,101,101]⟩
noncomputable def stQ (plane:Bool) (W:List (List UInt8)):Option (Sta × Bool):=match plane,W with
  | true,[a,b,c,d] => cond (strEq (bl a) fixW || strEq (bl a) freW) (some (⟨bl b,(ratP c).1,(ratP d).1,strEq (bl a) fixW⟩,(ratP c).2 && (ratP d).2)) none
  | false,[a,b,c] => cond (strEq (bl a) fixW || strEq (bl a) freW) (some (⟨bl b,(ratP c).1,ro (some 0),strEq (bl a) fixW⟩,(ratP c).2)) none
  | _,_ => none
theorem idx_0 {α:Type} (a:α) (l:List α):idx (a :: l) 0 = some a:=rfl
theorem idx_1 {α:Type} (a b:α) (l:List α):idx (a :: b :: l) 1 = some b:=rfl
theorem idx_2 {α:Type} (a b c:α) (l:List α):idx (a :: b :: c :: l) 2 = some c:=rfl
theorem idx_3 {α:Type} (a b c d:α) (l:List α):idx (a :: b :: c :: d :: l) 3 = some d:=rfl
theorem at_0 {α:Type} (a:α) (l:List α):(a :: l)[0]? = some a:=rfl
theorem at_1 {α:Type} (a b:α) (l:List α):(a :: b :: l)[1]? = some b:=rfl
theorem at_2 {α:Type} (a b c:α) (l:List α):(a :: b :: c :: l)[2]? = some c:=rfl
theorem at_3 {α:Type} (a b c d:α) (l:List α):(a :: b :: c :: d :: l)[3]? = some d:=rfl
theorem impl_sta {plane:Bool} {l:List UInt8} (hl:l.length ≤ 1048576):M_impl_parseStation (bl l) plane = some ((stQ plane (splitL 32 l)).getD (staE,false)):=by
  have hsp:(⟨#[32]⟩:ByteArray) = bl [32]:=rfl
  have hlen:=splitL_len 32 l
  have w4:IntKind.i64.wrap (2 + 2) = 4:=by decide
  have w3:IntKind.i64.wrap (2 + 1) = 3:=by decide
  unfold M_impl_parseStation
  rw [hsp,impl_split (by rw [bl_size]; exact hl),bl_data,Option.bind_some]
  unfold M_impl_axes
  generalize hs:splitL 32 l = W at hlen
  have hr:∀ c ∈ W,M_impl_ParseRat (bl c) = some (ratP c):=fun c hc => impl_ratP (Nat.le_trans (hlen c hc) hl)
  cases plane with
  | true =>
    rw [cond_true,Option.bind_some,w4]
    match W,hr with
    | [],_ => rfl
    | [_],_ => rfl
    | [_,_],_ => rfl
    | [_,_,_],_ => rfl
    | _ :: _ :: _ :: _ :: _ :: t,_ =>
      rw [show ((((_ :: _ :: _ :: _ :: _ :: t:List (List UInt8)).map bl).length:Int) != 4) = true by simp only [List.length_map,List.length_cons,bne_iff_ne,ne_eq]; omega]
      rfl
    | [a,b,c,d],hr =>
      simp only [List.map_cons,List.map_nil]
      rw [show (([bl a,bl b,bl c,bl d].length:Int) != 4) = false by rfl,cond_false]
      simp only [idx_0,idx_1,idx_2,idx_3,at_0,at_1,at_2,at_3,Option.bind_some,whole_zero,hr c (by simp),hr d (by simp),cond_true]
      unfold stQ
      simp only []
      cases h1:strEq (bl a) fixW with
      | true => simp only [Bool.not_true,cond_false,Bool.true_or,cond_true,Option.getD_some]; cases (ratP c).2 <;> rfl
      | false =>
        cases h2:strEq (bl a) freW with
        | true => simp only [Bool.not_false,Bool.not_true,cond_false,Bool.false_or,cond_true,Option.getD_some]; cases (ratP c).2 <;> rfl
        | false => rfl
  | false =>
    rw [cond_false,Option.bind_some,w3]
    match W,hr with
    | [],_ => rfl
    | [_],_ => rfl
    | [_,_],_ => rfl
    | _ :: _ :: _ :: _ :: t,_ =>
      rw [show ((((_ :: _ :: _ :: _ :: t:List (List UInt8)).map bl).length:Int) != 3) = true by simp only [List.length_map,List.length_cons,bne_iff_ne,ne_eq]; omega]
      rfl
    | [a,b,c],hr =>
      simp only [List.map_cons,List.map_nil]
      rw [show (([bl a,bl b,bl c].length:Int) != 3) = false by rfl,cond_false]
      simp only [idx_0,idx_1,idx_2,at_0,at_1,at_2,Option.bind_some,whole_zero,hr c (by simp),cond_false]
      unfold stQ
      simp only []
      cases h1:strEq (bl a) fixW with
      | true => simp only [Bool.not_true,cond_false,Bool.true_or,cond_true,Option.getD_some]; cases (ratP c).2 <;> rfl
      | false =>
        cases h2:strEq (bl a) freW with
        | true => simp only [Bool.not_false,Bool.not_true,cond_false,Bool.false_or,cond_true,Option.getD_some]; cases (ratP c).2 <;> rfl
        | false => rfl
theorem spec_sta {plane:Bool} {l:List UInt8} (hl:l.length ≤ 1048576):M_spec_l12Station (bl l) plane = some (((stQ plane (splitL 32 l)).map fun p => (p.1,true)).getD (staE,false)):=by
  have hsp:(⟨#[32]⟩:ByteArray) = bl [32]:=rfl
  have hlen:=splitL_len 32 l
  have hne:=splitL_ne 32 l
  unfold M_spec_l12Station
  rw [hsp,spec_split (by rw [bl_size]; exact hl),bl_data,Option.bind_some]
  generalize hs:splitL 32 l = W at hlen hne
  have hr:∀ c ∈ W,M_spec_ParseRat (bl c) = some (ratP c):=fun c hc => spec_ratP (Nat.le_trans (hlen c hc) hl)
  match W,hr,hne with
  | [],_,hne => exact absurd rfl hne
  | [a],_,_ =>
    simp only [List.map_cons,List.map_nil,idx_0,at_0,Option.bind_some]
    cases plane <;> cases strEq (bl a) fixW <;> cases strEq (bl a) freW <;> rfl
  | [a,b],_,_ =>
    simp only [List.map_cons,List.map_nil,idx_0,at_0,Option.bind_some]
    cases plane <;> cases strEq (bl a) fixW <;> cases strEq (bl a) freW <;> rfl
  | a :: b :: c :: d :: e :: t,_,_ =>
    simp only [List.map_cons,idx_0,at_0,Option.bind_some]
    have h4:(((bl a :: bl b :: bl c :: bl d :: bl e :: t.map bl).length:Int) != 4) = true:=by simp only [List.length_map,List.length_cons,bne_iff_ne,ne_eq]; omega
    have h3:(((bl a :: bl b :: bl c :: bl d :: bl e :: t.map bl).length:Int) != 3) = true:=by simp only [List.length_map,List.length_cons,bne_iff_ne,ne_eq]; omega
    rw [h4,h3]
    cases plane <;> cases strEq (bl a) fixW <;> cases strEq (bl a) freW <;> rfl
  | [a,b,c],hr,_ =>
    simp only [List.map_cons,List.map_nil,idx_0,at_0,Option.bind_some]
    cases plane with
    | true => cases strEq (bl a) fixW <;> cases strEq (bl a) freW <;> rfl
    | false =>
      unfold stQ
      simp only [Bool.not_false,cond_true,cond_false]
      rw [show (([bl a,bl b,bl c].length:Int) != 3) = false by rfl]
      simp only [idx_0,idx_1,idx_2,at_0,at_1,at_2,Option.bind_some,spec_zero,hr c (by simp),cond_false]
      cases strEq (bl a) fixW <;> cases strEq (bl a) freW <;> rfl
  | [a,b,c,d],hr,_ =>
    simp only [List.map_cons,List.map_nil,idx_0,at_0,Option.bind_some]
    cases plane with
    | false => cases strEq (bl a) fixW <;> cases strEq (bl a) freW <;> rfl
    | true =>
      unfold stQ
      simp only [Bool.not_true,cond_true,cond_false]
      rw [show (([bl a,bl b,bl c,bl d].length:Int) != 4) = false by rfl]
      simp only [idx_0,idx_1,idx_2,idx_3,at_0,at_1,at_2,at_3,Option.bind_some,spec_zero,hr c (by simp),hr d (by simp),cond_true,cond_false]
      cases strEq (bl a) fixW <;> cases strEq (bl a) freW <;> rfl
theorem sta_word {plane:Bool} {l:List UInt8} {p:Sta × Bool} (h:stQ plane (splitL 32 l) = some p):∃ a t,splitL 32 l = a :: t ∧ (bl a = fixW ∨ bl a = freW):=by
  unfold stQ at h
  have key:∀ a:List UInt8,(strEq (bl a) fixW || strEq (bl a) freW) = true → bl a = fixW ∨ bl a = freW:=fun a ha => by
    rw [strEq_eq,strEq_eq,Bool.or_eq_true,eqB_iff,eqB_iff] at ha; exact ha
  split at h
  · rename_i a b c d hs
    cases hc:(strEq (bl a) fixW || strEq (bl a) freW) with
    | true => exact ⟨_,_,hs,key a hc⟩
    | false => rw [hc] at h; cases h
  · rename_i a b c hs
    cases hc:(strEq (bl a) fixW || strEq (bl a) freW) with
    | true => exact ⟨_,_,hs,key a hc⟩
    | false => rw [hc] at h; cases h
  · cases h
theorem kw_list:∀ k:Nat,1 ≤ k → k ≤ 8 → kw (k:Int) = ([(⟨#[]⟩:ByteArray),(⟨#[104,101,105,103,104,116]⟩:ByteArray),(⟨#[114,105,115,101]⟩:ByteArray),(⟨#[101,97,115,116]⟩:ByteArray),(⟨#[110,111,114,116,104]⟩:ByteArray),(⟨#[100,101,97,115,116]⟩:ByteArray),(⟨#[100,110,111,114,116,104]⟩:ByteArray),(⟨#[100,105,115,116,97,110,99,101]⟩:ByteArray),(⟨#[98,101,97,114,105,110,103]⟩:ByteArray)]:List ByteArray).getD k (⟨#[]⟩:ByteArray):=by
  intro k h1 h8
  match k,h1,h8 with
  | 1,_,_ => rfl
  | 2,_,_ => rfl
  | 3,_,_ => rfl
  | 4,_,_ => rfl
  | 5,_,_ => rfl
  | 6,_,_ => rfl
  | 7,_,_ => rfl
  | 8,_,_ => rfl
  | k + 9,_,h => omega
theorem kw_no:∀ k:Nat,1 ≤ k → k ≤ 8 → kw (k:Int) ≠ fixW ∧ kw (k:Int) ≠ freW:=by
  intro k h1 h8
  rw [kw_list k h1 h8]
  match k,h1,h8 with
  | 1,_,_ => decide
  | 2,_,_ => decide
  | 3,_,_ => decide
  | 4,_,_ => decide
  | 5,_,_ => decide
  | 6,_,_ => decide
  | 7,_,_ => decide
  | 8,_,_ => decide
  | k + 9,_,h => omega
theorem sta_noObs {n:Net} {plane:Bool} {l:List UInt8} {p:Sta × Bool} (hl:l.length ≤ 1048576) (h:stQ plane (splitL 32 l) = some p):M_impl_ParseObservation n (bl l) = some (obsE,false):=by
  obtain ⟨a,t,hs,hw⟩:=sta_word h
  have hsp:(⟨#[32]⟩:ByteArray) = bl [32]:=rfl
  unfold M_impl_ParseObservation
  rw [hsp,impl_split (by rw [bl_size]; exact hl),bl_data,hs,Option.bind_some,List.map_cons]
  rw [show L_impl_ParseObservation_0 1 n.plane n.stations 0 0 0 false ([]:List Int) ([]:List Int) false ([]:List Int) ([]:List Int) (bl a :: t.map bl) = some (.inr (0,0,0,false,[],[],false,[],[],())) from
    (impl_run (Nat.le_refl 8) fun i i1 i8 => .inl fun e => by
      rcases hw with hw | hw
      · exact (kw_no i i1 i8).1 (e.trans hw)
      · exact (kw_no i i1 i8).2 (e.trans hw)).trans impl_end9]
  rfl
theorem stQ_fit {plane:Bool} {l:List UInt8} {p:Sta × Bool} (hl:l.length ≤ 1048576) (h:stQ plane (splitL 32 l) = some p):p.1.fitN ∧ (p.2 = false → ¬ (Good p.1.x ∧ Good p.1.y)):=by
  have hlen:=splitL_len 32 l
  have bad:∀ c:List UInt8,(ratP c).2 = false → ¬ Good (ratP c).1:=fun c hc hg => by
    rw [(ratP_good hg).1] at hc; cases hc
  have zf:(ro (some 0)).fit:=ro_fit fit_zero.ok
  unfold stQ at h
  split at h
  · rename_i a b c d hs
    cases hc:(strEq (bl a) fixW || strEq (bl a) freW) with
    | true =>
      rw [hc] at h; cases h
      have hb:=hlen b (by rw [hs]; simp)
      refine ⟨⟨⟨ratP_fit c,ratP_fit d⟩,by show (bl b).size ≤ _; rw [bl_size]; omega⟩,fun hf hg => ?_⟩
      have hf:((ratP c).2 && (ratP d).2) = false:=hf
      rcases Bool.and_eq_false_iff.1 hf with h | h
      · exact bad c h hg.1
      · exact bad d h hg.2
    | false => rw [hc] at h; cases h
  · rename_i a b c hs
    cases hc:(strEq (bl a) fixW || strEq (bl a) freW) with
    | true =>
      rw [hc] at h; cases h
      have hb:=hlen b (by rw [hs]; simp)
      exact ⟨⟨⟨ratP_fit c,zf⟩,by show (bl b).size ≤ _; rw [bl_size]; omega⟩,fun hf hg => bad c hf hg.1⟩
    | false => rw [hc] at h; cases h
  · cases h
/-! ### Lines -/
def linesL (l:List UInt8):List (List UInt8):=if (splitL 10 l).getLast? = some [] then (splitL 10 l).dropLast else splitL 10 l
theorem linesL_len (l:List UInt8):∀ w ∈ linesL l,w.length ≤ l.length:=by
  intro w hw
  unfold linesL at hw
  split at hw
  · exact splitL_len 10 l w ((List.dropLast_sublist _).mem hw)
  · exact splitL_len 10 l w hw
theorem splitL_count (c:UInt8):∀ l:List UInt8,(splitL c l).length ≤ l.length + 1
  | [] => by simp [splitL]
  | b :: r => by
    have:=splitL_count c r
    unfold splitL
    split
    · simp; omega
    · split
      · simp
      · rename_i x xs hs; rw [hs] at this; simp at this ⊢; omega
theorem lines_tail {R:Option (List ByteArray)} {l:List UInt8} (hl:l.length ≤ 1048576) (hR:R = some ((splitL 10 l).map bl)) :
    (R.bind fun r =>
  (idx r (IntKind.i64.wrap ((r.length:Int) - 1))).bind fun _ =>
  (r[(IntKind.i64.wrap ((r.length:Int) - 1)).toNat]?).bind fun e =>
  cond (strEq e (⟨#[]⟩:ByteArray))
    ((guardO (inside r.length (0,IntKind.i64.wrap ((r.length:Int) - 1)))).bind fun _ =>
    some (r.take ((IntKind.i64.wrap ((r.length:Int) - 1)).toNat)))
    (some r)) = some ((linesL l).map bl):=by
  have hne:=splitL_ne 10 l
  have hcount:=splitL_count 10 l
  unfold linesL
  generalize splitL 10 l = W at hR hne hcount
  have hp:0 < W.length:=List.length_pos_iff.2 hne
  rw [hR,Option.bind_some]
  have hml:(W.map bl).length = W.length:=List.length_map ..
  have e1:IntKind.i64.wrap (((W.map bl).length:Int) - 1) = ((W.length - 1:Nat):Int):=by rw [hml,wrap_i64 (by omega) (by omega)]; omega
  rw [e1,idx_at (by rw [hml]; omega),Option.bind_some,Int.toNat_natCast,List.getElem?_eq_getElem (by rw [hml]; omega),Option.bind_some]
  rw [show inside (W.map bl).length (0,((W.length - 1:Nat):Int)) = true from inside_okn (a:=0) (by omega) (by rw [hml]; omega)]
  simp only [guardO_true,Option.bind_some,List.getElem_map]
  have hlast:W.getLast? = some W[W.length - 1]:=by rw [List.getLast?_eq_getElem?,List.getElem?_eq_getElem (by omega)]
  have eqs:strEq (bl W[W.length - 1]) (⟨#[]⟩:ByteArray) = decide (W.getLast? = some []):=by
    rw [strEq_eq,Bool.eq_iff_iff,eqB_iff,decide_eq_true_iff,hlast]
    constructor
    · intro h
      have:=congrArg (fun s:ByteArray => s.data.toList) h
      simp only [bl_data] at this
      rw [this]
    · intro h
      rw [Option.some.inj h]; rfl
  rw [eqs]
  by_cases h:W.getLast? = some []
  · rw [decide_eq_true h,cond_true,if_pos h,List.dropLast_eq_take,List.map_take]
  · rw [decide_eq_false h,cond_false,if_neg h]
theorem impl_lines {l:List UInt8} (hl:l.length ≤ 1048576):M_impl_SplitLines (bl l) = some ((linesL l).map bl):=by
  unfold M_impl_SplitLines
  have:=impl_split (s:=bl l) (c:=10) (by rw [bl_size]; exact hl)
  rw [bl_data] at this
  exact lines_tail hl this
theorem spec_lines {l:List UInt8} (hl:l.length ≤ 1048576):M_spec_SplitLines (bl l) = some ((linesL l).map bl):=by
  unfold M_spec_SplitLines
  have:=spec_split (s:=bl l) (c:=10) (by rw [bl_size]; exact hl)
  rw [bl_data] at this
  exact lines_tail hl this
end Go.Di
namespace Go.Di
noncomputable def obsP (n:Net) (l:List UInt8):Obs × Bool:=(M_impl_ParseObservation n (bl l)).getD (obsE,false)
theorem obsE_fit':obsE.fit:=⟨⟨by decide,by decide⟩,⟨by decide,by decide⟩⟩
theorem obsP_eq {n:Net} {l:List UInt8} (fn:lfit Sta.fitN n.stations) (hl:l.length ≤ 1048576):M_impl_ParseObservation n (bl l) = some (obsP n l) ∧ M_spec_ParseObservation n (bl l) = some (obsP n l) ∧ (obsP n l).1.fit:=by
  obtain ⟨o,h1,h2,h3⟩:=obs_parse fn hl
  have e:obsP n l = o:=by unfold obsP; rw [h1]; rfl
  rw [e]
  refine ⟨h1,h2,?_⟩
  rcases h3 with ⟨k,f,t,c,d,rfl⟩ | rfl
  · unfold outB
    cases ((ratP c).2 && ((ratP d).2 && (netB n && obsB n ⟨k,f,t,(ratP c).1,(ratP d).1⟩))) with
    | true => exact ⟨ratP_fit c,ratP_fit d⟩
    | false => exact obsE_fit'
  · exact obsE_fit'
theorem obsP_sta {n:Net} {plane:Bool} {l:List UInt8} {p:Sta × Bool} (hl:l.length ≤ 1048576) (h:stQ plane (splitL 32 l) = some p):obsP n l = (obsE,false):=by
  unfold obsP; rw [sta_noObs hl h]; rfl
abbrev Two:=Option (List Sta × List Obs)
noncomputable def obI (plane:Bool) (x:List UInt8) (xs:List Sta) (ys:List Obs) (k:List Sta → List Obs → Two):Two:=cond (obsP ⟨plane,xs⟩ x).2 (k xs (ys ++ [(obsP ⟨plane,xs⟩ x).1])) none
noncomputable def obS (plane:Bool) (x:List UInt8) (xs:List Sta) (ys:List Obs) (k:List Sta → List Obs → Two):Two:=cond (obsP ⟨plane,xs⟩ x).2 (cond (ys.length == 20) none (k xs (ys ++ [(obsP ⟨plane,xs⟩ x).1]))) none
noncomputable def goI (plane:Bool):List (List UInt8) → List Sta → List Obs → Two
  | [],xs,ys => some (xs,ys)
  | x :: r,xs,ys => match stQ plane (splitL 32 x) with
    | some (t,true) => cond (ys.length == 0) (goI plane r (xs ++ [t]) ys) (obI plane x xs ys (goI plane r))
    | _ => obI plane x xs ys (goI plane r)
noncomputable def goS (plane:Bool):List (List UInt8) → List Sta → List Obs → Two
  | [],xs,ys => some (xs,ys)
  | x :: r,xs,ys => match stQ plane (splitL 32 x) with
    | some (t,_) => cond (ys.length == 0 && decide (xs.length < 8)) (goS plane r (xs ++ [t]) ys) (obS plane x xs ys (goS plane r))
    | none => obS plane x xs ys (goS plane r)
theorem goI_grow {plane:Bool}:∀ (r:List (List UInt8)) (xs:List Sta) (ys:List Obs) (p:List Sta × List Obs),goI plane r xs ys = some p → (∃ t,p.1 = xs ++ t) ∧ ∃ t,p.2 = ys ++ t
  | [],xs,ys,p,h => by cases h; exact ⟨⟨[],by simp⟩,⟨[],by simp⟩⟩
  | x :: r,xs,ys,p,h => by
    have ob:∀ h:obI plane x xs ys (goI plane r) = some p,(∃ t,p.1 = xs ++ t) ∧ ∃ t,p.2 = ys ++ t:=fun h => by
      unfold obI at h
      cases hc:(obsP ⟨plane,xs⟩ x).2 with
      | false => rw [hc] at h; cases h
      | true =>
        rw [hc] at h
        obtain ⟨h1,t,h2⟩:=goI_grow r _ _ p h
        exact ⟨h1,_,by rw [h2,List.append_assoc]⟩
    unfold goI at h
    split at h
    · cases hc:ys.length == 0 with
      | true =>
        rw [hc] at h
        obtain ⟨⟨t,h1⟩,h2⟩:=goI_grow r _ _ p h
        exact ⟨⟨_,by rw [h1,List.append_assoc]⟩,h2⟩
      | false => rw [hc] at h; exact ob h
    · exact ob h
theorem goS_grow {plane:Bool}:∀ (r:List (List UInt8)) (xs:List Sta) (ys:List Obs) (p:List Sta × List Obs),goS plane r xs ys = some p → xs.length ≤ 8 → ys.length ≤ 20 → (∃ t,p.1 = xs ++ t) ∧ p.1.length ≤ 8 ∧ p.2.length ≤ 20 ∧ p.1.length + p.2.length = xs.length + ys.length + r.length
  | [],xs,ys,p,h,h1,h2 => by cases h; exact ⟨⟨[],by simp⟩,h1,h2,rfl⟩
  | x :: r,xs,ys,p,h,h1,h2 => by
    have ob:∀ h:obS plane x xs ys (goS plane r) = some p,(∃ t,p.1 = xs ++ t) ∧ p.1.length ≤ 8 ∧ p.2.length ≤ 20 ∧ p.1.length + p.2.length = xs.length + ys.length + (x :: r).length:=fun h => by
      unfold obS at h
      cases hc:(obsP ⟨plane,xs⟩ x).2 with
      | false => rw [hc] at h; cases h
      | true =>
        rw [hc] at h
        cases h20:ys.length == 20 with
        | true => rw [h20] at h; cases h
        | false =>
          rw [h20] at h
          have hne:ys.length ≠ 20:=by simpa using h20
          obtain ⟨k1,k2,k3,k4⟩:=goS_grow r _ _ p h h1 (by simp; omega)
          refine ⟨k1,k2,k3,?_⟩
          rw [k4]; simp; omega
    unfold goS at h
    split at h
    · cases hc:(ys.length == 0 && decide (xs.length < 8)) with
      | true =>
        rw [hc] at h
        simp only [Bool.and_eq_true,decide_eq_true_eq] at hc
        obtain ⟨⟨t,k1⟩,k2,k3,k4⟩:=goS_grow r _ _ p h (by simp; omega) h2
        refine ⟨⟨_,by rw [k1,List.append_assoc]⟩,k2,k3,?_⟩
        rw [k4]; simp; omega
      | false => rw [hc] at h; exact ob h
    · exact ob h
abbrev bkE:Bk:=⟨false,[],[]⟩
noncomputable def finB (plane:Bool) (s:ByteArray) (p:Two):Bk × Bool:=match p with
  | none => (bkE,false)
  | some (xs,ys) => cond (obssB ⟨plane,xs⟩ ys && eqB (bookT ⟨plane,xs,ys⟩) s) (⟨plane,xs,ys⟩,true) (bkE,false)
theorem obss_facts {plane:Bool} {xs:List Sta} {ys:List Obs} (h:obssB ⟨plane,xs⟩ ys = true):xs.length ≤ 8 ∧ ys.length ≤ 20 ∧ ∀ e ∈ xs,Good e.x ∧ Good e.y:=by
  unfold obssB at h
  simp only [Bool.and_eq_true,decide_eq_true_eq] at h
  obtain ⟨k1,k2⟩:=netB_good h.1
  exact ⟨k1,h.2.1,fun e he => (k2 e he).2⟩
theorem finB_bad {plane:Bool} {s:ByteArray} {p:Two} (h:∀ xs ys,p = some (xs,ys) → obssB ⟨plane,xs⟩ ys = false):finB plane s p = (bkE,false):=by
  cases p with
  | none => rfl
  | some q =>
    obtain ⟨xs,ys⟩:=q
    unfold finB
    simp only
    rw [h xs ys rfl]; rfl
theorem goI_bad {plane:Bool} {s:ByteArray} {r:List (List UInt8)} {xs:List Sta} {ys:List Obs} (h:8 < xs.length ∨ 20 < ys.length):finB plane s (goI plane r xs ys) = (bkE,false) :=
  finB_bad fun xs' ys' hp => by
    obtain ⟨⟨t,e1⟩,u,e2⟩:=goI_grow r xs ys _ hp
    have e1:xs' = xs ++ t:=e1
    have e2:ys' = ys ++ u:=e2
    rw [← Bool.not_eq_true]
    intro ho
    obtain ⟨k1,k2,_⟩:=obss_facts ho
    rw [e1,List.length_append] at k1
    rw [e2,List.length_append] at k2
    omega
theorem goS_bad {plane:Bool} {s:ByteArray} {r:List (List UInt8)} {xs:List Sta} {ys:List Obs} (h1:xs.length ≤ 8) (h2:ys.length ≤ 20) {e:Sta} (he:e ∈ xs) (hb:¬ (Good e.x ∧ Good e.y)):finB plane s (goS plane r xs ys) = (bkE,false) :=
  finB_bad fun xs' ys' hp => by
    obtain ⟨⟨t,e1⟩,_⟩:=goS_grow r xs ys _ hp h1 h2
    have e1:xs' = xs ++ t:=e1
    rw [← Bool.not_eq_true]
    intro ho
    exact hb ((obss_facts ho).2.2 e (by rw [e1]; exact List.mem_append_left _ he))
theorem go_both {plane:Bool} {s:ByteArray}:∀ (r:List (List UInt8)) (xs:List Sta) (ys:List Obs),(∀ x ∈ r,x.length ≤ 1048576) → xs.length ≤ 8 → ys.length ≤ 20 → finB plane s (goI plane r xs ys) = finB plane s (goS plane r xs ys)
  | [],_,_,_,_,_ => rfl
  | x :: r,xs,ys,hl,h1,h2 => by
    have hx:=hl x (List.mem_cons_self ..)
    have hr:=fun y hy => hl y (List.mem_cons_of_mem _ hy)
    have ob:finB plane s (obI plane x xs ys (goI plane r)) = finB plane s (obS plane x xs ys (goS plane r)):=by
      unfold obI obS
      cases hc:(obsP ⟨plane,xs⟩ x).2 with
      | false => rfl
      | true =>
        simp only [cond_true]
        cases h20:ys.length == 20 with
        | true =>
          have:ys.length = 20:=by simpa using h20
          rw [goI_bad (.inr (by simp; omega))]; rfl
        | false =>
          have:ys.length ≠ 20:=by simpa using h20
          exact go_both r xs _ hr h1 (by simp; omega)
    have none_:∀ p:Sta × Bool,stQ plane (splitL 32 x) = some p → finB plane s (obI plane x xs ys (goI plane r)) = (bkE,false) ∧ finB plane s (obS plane x xs ys (goS plane r)) = (bkE,false):=fun p hp => by
      unfold obI obS
      rw [obsP_sta hx hp]
      exact ⟨rfl,rfl⟩
    unfold goI goS
    cases hq:stQ plane (splitL 32 x) with
    | none => exact ob
    | some p =>
      obtain ⟨t,f⟩:=p
      obtain ⟨n1,n2⟩:=none_ _ hq
      cases f with
      | true =>
        simp only
        cases h0:ys.length == 0 with
        | false => simp only [cond_false,Bool.false_and]; rw [n1,n2]
        | true =>
          simp only [cond_true,Bool.true_and]
          by_cases h8:xs.length < 8
          · rw [decide_eq_true h8,cond_true]
            exact go_both r _ ys hr (by simp; omega) h2
          · rw [decide_eq_false h8,cond_false,n2]
            exact goI_bad (.inl (by simp; omega))
      | false =>
        simp only
        rw [n1]
        cases h0:ys.length == 0 && decide (xs.length < 8) with
        | false => rw [cond_false,n2]
        | true =>
          simp only [Bool.and_eq_true,decide_eq_true_eq] at h0
          rw [cond_true]
          exact (goS_bad (by simp; omega) h2 (e:=t) (by simp) ((stQ_fit hx hq).2 rfl)).symm
theorem goS_many {plane:Bool} {s:ByteArray} {r:List (List UInt8)} (h:28 < r.length):finB plane s (goS plane r [] []) = (bkE,false):=by
  cases hp:goS plane r [] [] with
  | none => rfl
  | some p =>
    obtain ⟨_,k1,k2,k3⟩:=goS_grow r [] [] p hp (by simp) (by simp)
    simp at k3; omega
end Go.Di
namespace Go.Di
section
variable {plane:Bool} {s:ByteArray} {T:List (List UInt8)}
theorem len0g {α:Type} (a:List α):((a.length:Int) == 0) = (a.length == 0):=by rw [Bool.eq_iff_iff]; simp
abbrev OuI:=(Bool × Bool × (List Sta) × (List Obs) × Unit) ⊕ (ByteArray × Bool × Bool × (List Sta) × (List Obs) × (List Sta) × (List Obs) × Unit)
def resI (s:ByteArray) (plane:Bool):Two → OuI
  | none => .inl (false,false,[],[],())
  | some (xs,ys) => .inr (s,false,plane,xs,ys,[],[],())
abbrev OuS:=(Bool × Bool × (List Sta) × (List Obs) × Unit) ⊕ (ByteArray × Bool × (List Sta) × (List Obs) × Bool × (List Sta) × (List Obs) × Unit)
def resS (s:ByteArray) (plane:Bool):Two → OuS
  | none => .inl (false,false,[],[],())
  | some (xs,ys) => .inr (s,false,[],[],plane,xs,ys,())
theorem impl_loopB (hT:∀ x ∈ T,x.length ≤ 1048576) (hN:T.length ≤ 1048576):∀ (m i:Nat) (xs:List Sta) (ys:List Obs),i + m = T.length → xs.length + ys.length ≤ i → (∀ e ∈ xs,e.fitN) →
    whileO S_impl_ParseBook_0 (s,T.map bl,(T.length:Int),(i:Int),false,plane,xs,ys,[],[],()) = some (resI s plane (goI plane (T.drop i) xs ys)):=by
  intro m
  induction m with
  | zero =>
    intro i xs ys him hlen hfit
    have hi:i = T.length:=by omega
    subst hi
    rw [List.drop_length,goI]
    refine whileO_inr ?_
    simp only [S_impl_ParseBook_0]
    rw [show decide ((T.length:Int) < (T.length:Int)) = false by simp]
    rfl
  | succ m ih =>
    intro i xs ys him hlen hfit
    have hi:i < T.length:=by omega
    have hx:=hT T[i] (List.getElem_mem hi)
    have fn:lfit Sta.fitN (⟨plane,xs⟩:Net).stations:=⟨by show xs.length ≤ _; omega,hfit⟩
    obtain ⟨ob,_,_⟩:=obsP_eq fn hx
    have hidx:idx (T.map bl) (i:Int) = some (bl T[i]):=by rw [idx_at (by rw [List.length_map]; exact hi),List.getElem_map]
    have hw:IntKind.i64.wrap ((i:Int) + 1) = ((i + 1:Nat):Int):=by rw [wrap_i64 (by omega) (by omega)]; simp
    rw [List.drop_eq_getElem_cons hi]
    have obs_case:∀ R:OuI,R = resI s plane (obI plane T[i] xs ys (goI plane (T.drop (i + 1)))) →
        S_impl_ParseBook_0 (s,T.map bl,(T.length:Int),(i:Int),false,plane,xs,ys,[],[],()) = ((M_impl_ParseObservation (⟨plane,xs⟩:Net) (bl T[i])).bind fun (r0_1,r1_1) =>
          cond (!r1_1)
            (some (.inr (.inl (false,false,([]:List Sta),([]:List Obs),()))))
            ((guardO (Nat.ble (ys.length + 1) maxNew)).bind fun _ =>
            some (.inl (s,T.map bl,(T.length:Int),IntKind.i64.wrap ((i:Int) + 1),false,plane,xs,ys ++ ([r0_1]:List Obs),[],[],())))) →
        whileO S_impl_ParseBook_0 (s,T.map bl,(T.length:Int),(i:Int),false,plane,xs,ys,[],[],()) = some R:=by
      intro R hR hS
      subst hR
      rw [ob,Option.bind_some] at hS
      unfold obI
      generalize obsP ⟨plane,xs⟩ T[i] = o at hS
      obtain ⟨o,f⟩:=o
      cases f with
      | false => exact whileO_inr hS
      | true =>
        simp only [Bool.not_true,cond_false,room_b (show ys.length ≤ 2000000 by omega),Option.bind_some,hw] at hS
        rw [whileO_inl hS]
        exact ih (i + 1) xs _ (by omega) (by simp; omega) hfit
    unfold goI
    have hstep:S_impl_ParseBook_0 (s,T.map bl,(T.length:Int),(i:Int),false,plane,xs,ys,[],[],()) = _:=rfl
    cases hq:stQ plane (splitL 32 T[i]) with
    | none =>
      refine obs_case _ rfl ?_
      simp only [S_impl_ParseBook_0]
      rw [dlt hi,cond_true,hidx,Option.bind_some,impl_sta hx,Option.bind_some,hq]
      rfl
    | some p =>
      obtain ⟨t,f⟩:=p
      cases f with
      | false =>
        refine obs_case _ rfl ?_
        simp only [S_impl_ParseBook_0]
        rw [dlt hi,cond_true,hidx,Option.bind_some,impl_sta hx,Option.bind_some,hq]
        rfl
      | true =>
        cases h0:ys.length == 0 with
        | false =>
          refine obs_case _ rfl ?_
          simp only [S_impl_ParseBook_0]
          rw [dlt hi,cond_true,hidx,Option.bind_some,impl_sta hx,Option.bind_some,hq]
          simp only [Option.getD_some,cond_true]
          rw [len0g,h0,cond_false]
        | true =>
          have hS:S_impl_ParseBook_0 (s,T.map bl,(T.length:Int),(i:Int),false,plane,xs,ys,[],[],()) = some (.inl (s,T.map bl,(T.length:Int),((i + 1:Nat):Int),false,plane,xs ++ [t],ys,[],[],())):=by
            simp only [S_impl_ParseBook_0]
            rw [dlt hi,cond_true,hidx,Option.bind_some,impl_sta hx,Option.bind_some,hq]
            simp only [Option.getD_some,cond_true]
            rw [len0g,h0,cond_true,room_b (show xs.length ≤ 2000000 by omega),Option.bind_some,hw]
          rw [whileO_inl hS]
          simp only [cond_true]
          refine ih (i + 1) _ ys (by omega) (by simp; omega) fun e he => ?_
          rcases List.mem_append.1 he with he | he
          · exact hfit e he
          · have:e = t:=by simpa using he
            rw [this]; exact (stQ_fit hx hq).1
theorem spec_loopB (hT:∀ x ∈ T,x.length ≤ 1048576) (hN:T.length ≤ 1048576):∀ (m i:Nat) (xs:List Sta) (ys:List Obs),i + m = T.length → xs.length + ys.length ≤ i → (∀ e ∈ xs,e.fitN) →
    whileO S_spec_ParseBook_0 (s,T.map bl,(T.length:Int),(i:Int),false,[],[],plane,xs,ys,()) = some (resS s plane (goS plane (T.drop i) xs ys)):=by
  intro m
  induction m with
  | zero =>
    intro i xs ys him hlen hfit
    have hi:i = T.length:=by omega
    subst hi
    rw [List.drop_length,goS]
    refine whileO_inr ?_
    simp only [S_spec_ParseBook_0]
    rw [show decide ((T.length:Int) < (T.length:Int)) = false by simp]
    rfl
  | succ m ih =>
    intro i xs ys him hlen hfit
    have hi:i < T.length:=by omega
    have hx:=hT T[i] (List.getElem_mem hi)
    have fn:lfit Sta.fitN (⟨plane,xs⟩:Net).stations:=⟨by show xs.length ≤ _; omega,hfit⟩
    obtain ⟨_,ob,_⟩:=obsP_eq fn hx
    have hidx:idx (T.map bl) (i:Int) = some (bl T[i]):=by rw [idx_at (by rw [List.length_map]; exact hi),List.getElem_map]
    have hw:IntKind.i64.wrap ((i:Int) + 1) = ((i + 1:Nat):Int):=by rw [wrap_i64 (by omega) (by omega)]; simp
    rw [List.drop_eq_getElem_cons hi]
    have e20:((ys.length:Int) == 20) = (ys.length == 20):=by rw [Bool.eq_iff_iff]; simp; omega
    have obs_case:∀ R:OuS,R = resS s plane (obS plane T[i] xs ys (goS plane (T.drop (i + 1)))) →
        S_spec_ParseBook_0 (s,T.map bl,(T.length:Int),(i:Int),false,[],[],plane,xs,ys,()) = ((M_spec_ParseObservation (⟨plane,xs⟩:Net) (bl T[i])).bind fun (r0_1,r1_1) =>
          cond (!r1_1)
            (some (.inr (.inl (false,false,([]:List Sta),([]:List Obs),()))))
            (cond ((ys.length:Int) == 20)
              (some (.inr (.inl (false,false,([]:List Sta),([]:List Obs),()))))
              ((guardO (Nat.ble (ys.length + 1) maxNew)).bind fun _ =>
              some (.inl (s,T.map bl,(T.length:Int),IntKind.i64.wrap ((i:Int) + 1),false,[],[],plane,xs,ys ++ ([r0_1]:List Obs),()))))) →
        whileO S_spec_ParseBook_0 (s,T.map bl,(T.length:Int),(i:Int),false,[],[],plane,xs,ys,()) = some R:=by
      intro R hR hS
      subst hR
      rw [ob,Option.bind_some,e20] at hS
      unfold obS
      generalize obsP ⟨plane,xs⟩ T[i] = o at hS
      obtain ⟨o,f⟩:=o
      cases f with
      | false => exact whileO_inr hS
      | true =>
        cases h20:ys.length == 20 with
        | true => rw [h20] at hS; exact whileO_inr hS
        | false =>
          simp only [h20,Bool.not_true,cond_false,room_b (show ys.length ≤ 2000000 by omega),Option.bind_some,hw] at hS
          rw [whileO_inl hS]
          exact ih (i + 1) xs _ (by omega) (by simp; omega) hfit
    unfold goS
    cases hq:stQ plane (splitL 32 T[i]) with
    | none =>
      refine obs_case _ rfl ?_
      simp only [S_spec_ParseBook_0]
      rw [dlt hi,cond_true,hidx,Option.bind_some,spec_sta hx,Option.bind_some,hq]
      rfl
    | some p =>
      obtain ⟨t,f⟩:=p
      have e8:decide ((xs.length:Int) < 8) = decide (xs.length < 8):=by rw [Bool.eq_iff_iff]; simp; omega
      cases h0:ys.length == 0 with
      | false =>
        refine obs_case _ rfl ?_
        simp only [S_spec_ParseBook_0]
        rw [dlt hi,cond_true,hidx,Option.bind_some,spec_sta hx,Option.bind_some,hq]
        simp only [Option.map_some,Option.getD_some,cond_true]
        rw [len0g,h0,cond_false]
      | true =>
        cases h8:decide (xs.length < 8) with
        | false =>
          refine obs_case _ rfl ?_
          simp only [S_spec_ParseBook_0]
          rw [dlt hi,cond_true,hidx,Option.bind_some,spec_sta hx,Option.bind_some,hq]
          simp only [Option.map_some,Option.getD_some,cond_true]
          rw [len0g,h0,cond_true,e8,h8,cond_false]
        | true =>
          have hS:S_spec_ParseBook_0 (s,T.map bl,(T.length:Int),(i:Int),false,[],[],plane,xs,ys,()) = some (.inl (s,T.map bl,(T.length:Int),((i + 1:Nat):Int),false,[],[],plane,xs ++ [t],ys,())):=by
            simp only [S_spec_ParseBook_0]
            rw [dlt hi,cond_true,hidx,Option.bind_some,spec_sta hx,Option.bind_some,hq]
            simp only [Option.map_some,Option.getD_some,cond_true]
            rw [len0g,h0,cond_true,e8,h8,cond_true,room_b (show xs.length ≤ 2000000 by omega),Option.bind_some,hw]
          rw [whileO_inl hS]
          simp only [cond_true,Bool.and_self]
          refine ih (i + 1) _ ys (by omega) (by simp; omega) fun e he => ?_
          rcases List.mem_append.1 he with he | he
          · exact hfit e he
          · have:e = t:=by simpa using he
            rw [this]; exact (stQ_fit hx hq).1
end
theorem goI_fit {plane:Bool}:∀ (r:List (List UInt8)) (xs:List Sta) (ys:List Obs) (p:List Sta × List Obs),(∀ x ∈ r,x.length ≤ 1048576) → goI plane r xs ys = some p → (∀ e ∈ xs,e.fitN) → (∀ o ∈ ys,o.fit) → xs.length + ys.length + r.length ≤ 1048576 →
    (∀ e ∈ p.1,e.fitN) ∧ (∀ o ∈ p.2,o.fit) ∧ p.1.length + p.2.length ≤ 1048576
  | [],xs,ys,p,_,h,h1,h2,h3 => by cases h; exact ⟨h1,h2,by simpa using h3⟩
  | x :: r,xs,ys,p,hr,h,h1,h2,h3 => by
    have hx:=hr x (List.mem_cons_self ..)
    have hr':=fun y hy => hr y (List.mem_cons_of_mem _ hy)
    rw [List.length_cons] at h3
    have ob:∀ h:obI plane x xs ys (goI plane r) = some p,(∀ e ∈ p.1,e.fitN) ∧ (∀ o ∈ p.2,o.fit) ∧ p.1.length + p.2.length ≤ 1048576:=fun h => by
      unfold obI at h
      have fn:lfit Sta.fitN (⟨plane,xs⟩:Net).stations:=⟨by show xs.length ≤ _; omega,h1⟩
      obtain ⟨_,_,ho⟩:=obsP_eq fn hx
      cases hc:(obsP ⟨plane,xs⟩ x).2 with
      | false => rw [hc] at h; cases h
      | true =>
        rw [hc] at h
        refine goI_fit r _ _ p hr' h h1 (fun o ho' => ?_) (by simp; omega)
        rcases List.mem_append.1 ho' with ho' | ho'
        · exact h2 o ho'
        · have:o = (obsP ⟨plane,xs⟩ x).1:=by simpa using ho'
          rw [this]; exact ho
    unfold goI at h
    split at h
    · rename_i t hq
      cases hc:ys.length == 0 with
      | true =>
        rw [hc] at h
        refine goI_fit r _ _ p hr' h (fun e he => ?_) h2 (by simp; omega)
        rcases List.mem_append.1 he with he | he
        · exact h1 e he
        · have:e = t:=by simpa using he
          rw [this]; exact (stQ_fit hx hq).1
      | false => rw [hc] at h; exact ob h
    · exact ob h
theorem goS_fit {plane:Bool}:∀ (r:List (List UInt8)) (xs:List Sta) (ys:List Obs) (p:List Sta × List Obs),(∀ x ∈ r,x.length ≤ 1048576) → goS plane r xs ys = some p → (∀ e ∈ xs,e.fitN) → (∀ o ∈ ys,o.fit) → xs.length + ys.length + r.length ≤ 1048576 →
    (∀ e ∈ p.1,e.fitN) ∧ (∀ o ∈ p.2,o.fit) ∧ p.1.length + p.2.length ≤ 1048576
  | [],xs,ys,p,_,h,h1,h2,h3 => by cases h; exact ⟨h1,h2,by simpa using h3⟩
  | x :: r,xs,ys,p,hr,h,h1,h2,h3 => by
    have hx:=hr x (List.mem_cons_self ..)
    have hr':=fun y hy => hr y (List.mem_cons_of_mem _ hy)
    rw [List.length_cons] at h3
    have ob:∀ h:obS plane x xs ys (goS plane r) = some p,(∀ e ∈ p.1,e.fitN) ∧ (∀ o ∈ p.2,o.fit) ∧ p.1.length + p.2.length ≤ 1048576:=fun h => by
      unfold obS at h
      have fn:lfit Sta.fitN (⟨plane,xs⟩:Net).stations:=⟨by show xs.length ≤ _; omega,h1⟩
      obtain ⟨_,_,ho⟩:=obsP_eq fn hx
      cases hc:(obsP ⟨plane,xs⟩ x).2 with
      | false => rw [hc] at h; cases h
      | true =>
        rw [hc] at h
        cases h20:ys.length == 20 with
        | true => rw [h20] at h; cases h
        | false =>
          rw [h20] at h
          refine goS_fit r _ _ p hr' h h1 (fun o ho' => ?_) (by simp; omega)
          rcases List.mem_append.1 ho' with ho' | ho'
          · exact h2 o ho'
          · have:o = (obsP ⟨plane,xs⟩ x).1:=by simpa using ho'
            rw [this]; exact ho
    unfold goS at h
    split at h
    · rename_i t f hq
      cases hc:(ys.length == 0 && decide (xs.length < 8)) with
      | true =>
        rw [hc] at h
        refine goS_fit r _ _ p hr' h (fun e he => ?_) h2 (by simp; omega)
        rcases List.mem_append.1 he with he | he
        · exact h1 e he
        · have:e = t:=by simpa using he
          rw [this]; exact (stQ_fit hx hq).1
      | false => rw [hc] at h; exact ob h
    · exact ob h
theorem bookT_ne (b:Bk):bookT b ≠ (⟨#[]⟩:ByteArray):=by
  have key:∀ {α:Type} (g:α → ByteArray) (l:List α) (o:ByteArray),o.size ≠ 0 → (catL g l o).size ≠ 0:=by
    intro α g l
    induction l with
    | nil => intro o h; exact h
    | cons x r ih =>
      intro o h
      exact ih (o ++ g x) (by rw [sz_app]; omega)
  intro h
  have h0:(bookT b).size = 0:=by rw [h]; rfl
  refine key _ _ _ (key _ _ _ ?_) h0
  cases b.plane <;> decide
end Go.Di
namespace Go.Di
abbrev plaW:ByteArray:=⟨#[112,108,97,110,101]⟩
abbrev heiW:ByteArray:=⟨#[104,101,105,103,104,116,115]⟩
def TwoFit (p:Two):Prop:=∀ xs ys,p = some (xs,ys) → lfit Sta.fitN xs ∧ lfit Obs.fit ys
theorem impl_finB {plane:Bool} {s:ByteArray} {p:Two} (hp:TwoFit p):((some (resI s plane p):Option OuI).bind fun r1 => match r1 with
          | .inl (t,v,xs,xs1,_) => some ((⟨v,xs,xs1⟩:Bk),t)
          | .inr (s1,_,v2,xs2,xs3,_,_,_) =>
            (M_impl_BookOk (⟨v2,xs2,xs3⟩:Bk)).bind fun r2 =>
            cond (!r2)
              (some ((⟨false,([]:List Sta),([]:List Obs)⟩:Bk),false))
              ((M_impl_FormatBook (⟨v2,xs2,xs3⟩:Bk)).bind fun r3 =>
              cond (!(strEq r3 s1))
                (some ((⟨false,([]:List Sta),([]:List Obs)⟩:Bk),false))
                (some ((⟨v2,xs2,xs3⟩:Bk),true)))) = some (finB plane s p):=by
  cases p with
  | none => rfl
  | some q =>
    obtain ⟨xs,ys⟩:=q
    obtain ⟨f1,f2⟩:=hp xs ys rfl
    unfold resI finB
    simp only [Option.bind_some]
    rw [impl_bookOk (b:=⟨plane,xs,ys⟩) f1 f2,(book_both (b:=⟨plane,xs,ys⟩) f1 f2).2]
    unfold bookF
    simp only [Option.bind_some]
    cases obssB ⟨plane,xs⟩ ys with
    | false => rfl
    | true =>
      simp only [Bool.not_true,cond_false,cond_true,Bool.true_and,strEq_eq]
      cases eqB (bookT ⟨plane,xs,ys⟩) s <;> rfl
theorem spec_finB {plane:Bool} {s:ByteArray} {p:Two} (hp:TwoFit p):((some (resS s plane p):Option OuS).bind fun r1 => match r1 with
        | .inl (t,v,v1,v2,_) => some ((⟨v,v1,v2⟩:Bk),t)
        | .inr (s1,_,_,_,v6,xs,xs1,_) =>
          (M_spec_FormatBook (⟨v6,xs,xs1⟩:Bk)).bind fun r2 =>
          cond (strEq r2 (⟨#[]⟩:ByteArray))
            (some ((⟨false,([]:List Sta),([]:List Obs)⟩:Bk),false))
            ((M_spec_FormatBook (⟨v6,xs,xs1⟩:Bk)).bind fun r3 =>
            cond (!(strEq r3 s1))
              (some ((⟨false,([]:List Sta),([]:List Obs)⟩:Bk),false))
              (some ((⟨v6,xs,xs1⟩:Bk),true)))) = some (finB plane s p):=by
  cases p with
  | none => rfl
  | some q =>
    obtain ⟨xs,ys⟩:=q
    obtain ⟨f1,f2⟩:=hp xs ys rfl
    unfold resS finB
    simp only [Option.bind_some]
    rw [(book_both (b:=⟨plane,xs,ys⟩) f1 f2).1]
    unfold bookF
    simp only [Option.bind_some]
    cases obssB ⟨plane,xs⟩ ys with
    | false => simp only [cond_false,strEq_self]; rfl
    | true =>
      simp only [cond_true,Bool.true_and,strEq_eq,eqB_false.2 (bookT_ne _),cond_false]
      cases eqB (bookT ⟨plane,xs,ys⟩) s <;> rfl
theorem cut_tail {α:Type} (a:α) (t:List α):cut (a :: t) 1 (1 + (((a :: t).length:Int).toNat - 1)) = t:=by
  unfold cut
  rw [Int.toNat_natCast,List.length_cons,show 1 + (t.length + 1 - 1) = t.length + 1 by omega,← List.length_cons (a:=a),List.take_length]
  rfl
noncomputable def bookP (l:List UInt8):Bk × Bool:=match linesL l with
  | [] => (bkE,false)
  | a :: T => cond (strEq (bl a) plaW || strEq (bl a) heiW) (finB (strEq (bl a) plaW) (bl l) (goS (strEq (bl a) plaW) T [] [])) (bkE,false)
theorem linesL_count (l:List UInt8):(linesL l).length ≤ l.length + 1:=by
  have h:=splitL_count 10 l
  unfold linesL
  split
  · rw [List.length_dropLast]; omega
  · exact h
theorem book_parse {l:List UInt8} (hl:l.length ≤ 1048576):M_impl_ParseBook (bl l) = some (bookP l) ∧ M_spec_ParseBook (bl l) = some (bookP l):=by
  have hlen:=linesL_len l
  have hcount:=linesL_count l
  unfold M_impl_ParseBook M_spec_ParseBook bookP
  rw [impl_lines hl,spec_lines hl,Option.bind_some,Option.bind_some]
  cases hL:linesL l with
  | nil => exact ⟨rfl,rfl⟩
  | cons a T =>
    rw [hL] at hlen hcount
    rw [List.length_cons] at hcount
    have hT:∀ x ∈ T,x.length ≤ 1048576:=fun x hx => Nat.le_trans (hlen x (List.mem_cons_of_mem _ hx)) hl
    have hN:T.length ≤ 1048576:=by omega
    have fitI:∀ plane,TwoFit (goI plane T [] []):=fun plane xs ys hp => by
      obtain ⟨k1,k2,k3⟩:=goI_fit T [] [] _ hT hp (fun _ h => by cases h) (fun _ h => by cases h) (by simpa using hN)
      exact ⟨⟨by have:xs.length + ys.length ≤ 1048576:=k3; omega,k1⟩,⟨by have:xs.length + ys.length ≤ 1048576:=k3; omega,k2⟩⟩
    have fitS:∀ plane,TwoFit (goS plane T [] []):=fun plane xs ys hp => by
      obtain ⟨k1,k2,k3⟩:=goS_fit T [] [] _ hT hp (fun _ h => by cases h) (fun _ h => by cases h) (by simpa using hN)
      exact ⟨⟨by have:xs.length + ys.length ≤ 1048576:=k3; omega,k1⟩,⟨by have:xs.length + ys.length ≤ 1048576:=k3; omega,k2⟩⟩
    have e0:((((a :: T).map bl).length:Int) == 0) = false:=by simp; omega
    have ez:(((((((a :: T).map bl).length:Int).toNat) - 1:Nat)):Int) = (T.length:Int):=by simp
    have ec:cut ((a :: T).map bl) 1 (1 + (((((a :: T).map bl).length:Int).toNat) - 1)) = T.map bl:=cut_tail (bl a) (T.map bl)
    have ei:inside ((a :: T).map bl).length (1,(((a :: T).map bl).length:Int)) = true:=inside_okn (a:=1) (by simp) (Nat.le_refl _)
    have lI:∀ plane,L_impl_ParseBook_0 (bl l) (T.map bl) (T.length:Int) 0 false plane ([]:List Sta) ([]:List Obs) ([]:List Sta) ([]:List Obs) = some (resI (bl l) plane (goI plane T [] [])):=fun plane =>
      impl_loopB hT hN T.length 0 [] [] (by omega) (by simp) (fun _ h => by cases h)
    have lS:∀ plane,L_spec_ParseBook_0 (bl l) (T.map bl) (T.length:Int) 0 false ([]:List Sta) ([]:List Obs) plane ([]:List Sta) ([]:List Obs) = some (resS (bl l) plane (goS plane T [] [])):=fun plane =>
      spec_loopB hT hN T.length 0 [] [] (by omega) (by simp) (fun _ h => by cases h)
    have both:∀ plane,finB plane (bl l) (goI plane T [] []) = finB plane (bl l) (goS plane T [] []):=fun plane => go_both T [] [] hT (by simp) (by simp)
    rw [e0,ec,ez,ei]
    simp only [cond_false,guardO_true,Option.bind_some]
    rw [show idx ((a :: T).map bl) 0 = some (bl a) from rfl,show ((a :: T).map bl)[0]? = some (bl a) from rfl]
    simp only [Option.bind_some]
    refine ⟨?_,?_⟩
    · by_cases h29:29 < ((a :: T).map bl).length
      · rw [show decide ((((a :: T).map bl).length:Int) > 29) = true by simp at h29 ⊢; omega,cond_true]
        rw [goS_many (by simp at h29; omega)]
        cases (strEq (bl a) plaW || strEq (bl a) heiW) <;> rfl
      · rw [show decide ((((a :: T).map bl).length:Int) > 29) = false by simp at h29 ⊢; omega,cond_false]
        cases h1:strEq (bl a) plaW with
        | true =>
          simp only [Bool.not_true,cond_false,Bool.true_or,cond_true]
          rw [lI true,← both]
          exact impl_finB (fitI true)
        | false =>
          simp only [Bool.not_false,cond_true,Bool.false_or]
          cases h2:strEq (bl a) heiW with
          | false => rfl
          | true =>
            simp only [Bool.not_true,cond_false,cond_true]
            rw [lI false,← both]
            exact impl_finB (fitI false)
    · cases h1:strEq (bl a) plaW with
      | true =>
        simp only [Bool.not_true,cond_false,Bool.true_or,cond_true]
        rw [lS true]
        exact spec_finB (fitS true)
      | false =>
        simp only [Bool.not_false,cond_true,Bool.false_or]
        cases h2:strEq (bl a) heiW with
        | false => rfl
        | true =>
          simp only [Bool.not_true,cond_false,cond_true]
          rw [lS false]
          exact spec_finB (fitS false)
theorem bookP_cases {l:List UInt8} (hl:l.length ≤ 1048576):bookP l = (bkE,false) ∨ ((bookP l).2 = true ∧ obssB ⟨(bookP l).1.plane,(bookP l).1.stations⟩ (bookP l).1.obs = true ∧ lfit Sta.fitN (bookP l).1.stations ∧ lfit Obs.fit (bookP l).1.obs):=by
  have hlen:=linesL_len l
  have hcount:=linesL_count l
  unfold bookP
  cases hL:linesL l with
  | nil => exact .inl rfl
  | cons a T =>
    rw [hL] at hlen hcount
    rw [List.length_cons] at hcount
    have hT:∀ x ∈ T,x.length ≤ 1048576:=fun x hx => Nat.le_trans (hlen x (List.mem_cons_of_mem _ hx)) hl
    simp only
    cases (strEq (bl a) plaW || strEq (bl a) heiW) with
    | false => exact .inl rfl
    | true =>
      rw [cond_true]
      generalize strEq (bl a) plaW = plane
      cases hp:goS plane T [] [] with
      | none => exact .inl rfl
      | some p =>
        obtain ⟨xs,ys⟩:=p
        obtain ⟨k1,k2,k3⟩:=goS_fit T [] [] _ hT hp (fun _ h => by cases h) (fun _ h => by cases h) (by simp; omega)
        have k3:xs.length + ys.length ≤ 1048576:=k3
        unfold finB
        simp only
        cases ho:obssB ⟨plane,xs⟩ ys with
        | false => exact .inl rfl
        | true =>
          cases eqB (bookT ⟨plane,xs,ys⟩) (bl l) with
          | false => exact .inl rfl
          | true => exact .inr ⟨rfl,ho,⟨by show xs.length ≤ _; omega,k1⟩,⟨by show ys.length ≤ _; omega,k2⟩⟩
end Go.Di
namespace Go.Di
def wO (o:Obs):Nat:=5 + o.value.mag.length + o.value.den.length + o.variance.mag.length + o.variance.den.length
def mkO (k:Int) (o:Obs):Obs :=
  ⟨k,k + 1,k + 2,⟨((k + 3).tmod 3) == 0,upto (k + 4) o.value.mag.length,upto (k + 4 + o.value.mag.length) o.value.den.length⟩,
    ⟨((k + 4 + o.value.mag.length + o.value.den.length).tmod 3) == 0,upto (k + 4 + o.value.mag.length + o.value.den.length + 1) o.variance.mag.length,upto (k + 4 + o.value.mag.length + o.value.den.length + 1 + o.variance.mag.length) o.variance.den.length⟩⟩
theorem mark_obss {a:List Obs} (ha:lfit Obs.fit a) (hw:ws wO a ≤ 1000000000) {k:Int} (h0:0 ≤ k) (h1:k ≤ 1000000000):M_laws_markObservationS_md a k = some (k + (ws wO a:Nat),marks mkO wO k a):=by
  unfold M_laws_markObservationS_md L_laws_markObservationS_md_0
  rw [mark_loop (mk:=mkO) (w:=wO) (B:=2000000000) h0 (by omega) (fun i K c hi q0 q1 hl hc => ?_) (fun K c hl => by simp [S_laws_markObservationS_md_0,hl])]
  · rfl
  · have hlt:=lt_of_get hc
    have hf:=ha.2 _ (List.getElem_mem hi)
    have f1:=hf.1.1
    have f2:=hf.1.2
    have f3:=hf.2.1
    have f4:=hf.2.2
    generalize hx:a[i] = x at *
    have e1:IntKind.i64.wrap (K + 1) = K + 1:=wrap_i64 (by omega) (by omega)
    have e2:IntKind.i64.wrap (K + 1 + 1) = K + 2:=by rw [wrap_i64 (by omega) (by omega)]; omega
    have e3:IntKind.i64.wrap (K + 2 + 1) = K + 3:=by rw [wrap_i64 (by omega) (by omega)]; omega
    have e4:IntKind.i64.wrap (K + 3 + 1) = K + 4:=by rw [wrap_i64 (by omega) (by omega)]; omega
    have e5:IntKind.i64.wrap (K + 4 + (x.value.mag.length:Int) + (x.value.den.length:Int) + 1) = K + 4 + (x.value.mag.length:Int) + (x.value.den.length:Int) + 1:=wrap_i64 (by omega) (by omega)
    simp only [S_laws_markObservationS_md_0,dlt hlt,cond_true,get_int hc,Option.bind_some,Int.toNat_natCast,hc,idx_set hlt,get_set hlt,List.set_set,e1,e2,e3,e4,
      mark_ints f1 (show 0 ≤ K + 4 by omega) (by omega),mark_ints f2 (show 0 ≤ K + 4 + (x.value.mag.length:Int) by omega) (by omega),e5,
      mark_ints f3 (show 0 ≤ K + 4 + (x.value.mag.length:Int) + (x.value.den.length:Int) + 1 by omega) (by omega),
      mark_ints f4 (show 0 ≤ K + 4 + (x.value.mag.length:Int) + (x.value.den.length:Int) + 1 + (x.variance.mag.length:Int) by omega) (by omega),succ_wrap hi ha.1]
    congr 3
    unfold wO; omega
theorem held_obss {a:List Obs} (ha:lfit Obs.fit a) (hw:ws wO a ≤ 1000000000) {k:Int} (h0:0 ≤ k) (h1:k ≤ 1000000000):M_laws_heldObservationS (marks mkO wO k a) k = some (k + (ws wO a:Nat)):=by
  unfold M_laws_heldObservationS L_laws_heldObservationS_0
  rw [held_loop (mk:=mkO) (w:=wO) (B:=2000000000) h0 (by omega) (fun i K c hi q0 q1 hl hc => ?_) (fun K c hl => by simp [S_laws_heldObservationS_0,hl])]
  · rfl
  · have hlt:=lt_of_get hc
    have hf:=ha.2 _ (List.getElem_mem hi)
    have f1:=hf.1.1
    have f2:=hf.1.2
    have f3:=hf.2.1
    have f4:=hf.2.2
    generalize hx:a[i] = x at *
    have e1:IntKind.i64.wrap (K + 1) = K + 1:=wrap_i64 (by omega) (by omega)
    have e2:IntKind.i64.wrap (K + 1 + 1) = K + 2:=by rw [wrap_i64 (by omega) (by omega)]; omega
    have e3:IntKind.i64.wrap (K + 2 + 1) = K + 3:=by rw [wrap_i64 (by omega) (by omega)]; omega
    have e4:IntKind.i64.wrap (K + 3 + 1) = K + 4:=by rw [wrap_i64 (by omega) (by omega)]; omega
    have e5:IntKind.i64.wrap (K + 4 + (x.value.mag.length:Int) + (x.value.den.length:Int) + 1) = K + 4 + (x.value.mag.length:Int) + (x.value.den.length:Int) + 1:=wrap_i64 (by omega) (by omega)
    simp only [S_laws_heldObservationS_0,dlt hlt,cond_true,get_int hc,Option.bind_some,e1,e2,e3,e4,e5,mkO,bneSelf,beq_self_eq_true,Bool.not_true,cond_false,
      held_ints f1 (show 0 ≤ K + 4 by omega) (by omega),held_ints f2 (show 0 ≤ K + 4 + (x.value.mag.length:Int) by omega) (by omega),
      held_ints f3 (show 0 ≤ K + 4 + (x.value.mag.length:Int) + (x.value.den.length:Int) + 1 by omega) (by omega),
      held_ints f4 (show 0 ≤ K + 4 + (x.value.mag.length:Int) + (x.value.den.length:Int) + 1 + (x.variance.mag.length:Int) by omega) (by omega),succ_wrap hi ha.1,
      dneg (show 0 ≤ K + 4 + (x.value.mag.length:Int) by omega),dneg (show 0 ≤ K + 4 + (x.value.mag.length:Int) + (x.value.den.length:Int) by omega),
      dneg (show 0 ≤ K + 4 + (x.value.mag.length:Int) + (x.value.den.length:Int) + 1 + (x.variance.mag.length:Int) by omega),
      dneg (show 0 ≤ K + 4 + (x.value.mag.length:Int) + (x.value.den.length:Int) + 1 + (x.variance.mag.length:Int) + (x.variance.den.length:Int) by omega)]
    congr 4
    unfold wO; omega
end Go.Di
namespace Go.Di
end Go.Di
namespace Go.Di
end Go.Di
namespace Go.Di
end Go.Di
namespace Go.Di
end Go.Di
namespace Go.Di
theorem ws_bound {α:Type} {w:α → Nat} {K:Nat}:∀ {l:List α},(∀ x ∈ l,w x ≤ K) → ws w l ≤ K * l.length
  | [],_ => by simp [ws]
  | x :: r,h => by
    have h1:=h x (List.mem_cons_self ..)
    have h2:=ws_bound (l:=r) fun y hy => h y (List.mem_cons_of_mem _ hy)
    unfold ws at h2 ⊢
    rw [List.map_cons,List.sum_cons,List.length_cons,Nat.mul_add]; omega
theorem good_len {r:Rt} (h:Good r):r.mag.length ≤ 24 ∧ r.den.length ≤ 24:=by
  obtain ⟨_,_,_,_,h5,h6,_⟩:=good_iff.1 h
  exact ⟨h5,h6⟩
theorem book_marks {b:Bk} (h:b = bkE ∨ obssB ⟨b.plane,b.stations⟩ b.obs = true):ws wS b.stations ≤ 1000 ∧ ws wO b.obs ≤ 3000:=by
  rcases h with rfl | h
  · exact ⟨by decide,by decide⟩
  · obtain ⟨h1,h2,h3⟩:=obss_facts h
    have hobs:∀ o ∈ b.obs,obsB ⟨b.plane,b.stations⟩ o = true:=by
      unfold obssB at h
      simp only [Bool.and_eq_true,decide_eq_true_eq,List.all_eq_true] at h
      exact h.2.2
    have k1:=ws_bound (w:=wS) (K:=100) (l:=b.stations) fun e he => by
      obtain ⟨g1,g2⟩:=h3 e he
      have a1:=good_len g1
      have a2:=good_len g2
      unfold wS; omega
    have k2:=ws_bound (w:=wO) (K:=101) (l:=b.obs) fun o ho => by
      obtain ⟨_,_,g1,g2⟩:=obs_facts (hobs o ho)
      have a1:=good_len g1
      have a2:=good_len g2
      unfold wO; omega
    exact ⟨Nat.le_trans k1 (by omega),Nat.le_trans k2 (by omega)⟩
theorem mark_book {b:Bk} (hs:lfit Sta.fit b.stations) (ho:lfit Obs.fit b.obs) (h:ws wS b.stations ≤ 1000 ∧ ws wO b.obs ≤ 3000) :
    M_laws_markBook_md b 1 = some ((1:Int) + ((ws wS b.stations:Nat):Int) + ((ws wO b.obs:Nat):Int),marks mkS wS 1 b.stations,marks mkO wO ((1:Int) + ((ws wS b.stations:Nat):Int)) b.obs):=by
  unfold M_laws_markBook_md
  rw [mark_net (n:=⟨b.plane,b.stations⟩) hs (by show ws wS b.stations ≤ _; omega) (by decide) (by decide),Option.bind_some]
  simp only []
  rw [mark_obss ho (by omega) (by omega) (by omega)]
  rfl
theorem held_book {b:Bk} (hs:lfit Sta.fit b.stations) (ho:lfit Obs.fit b.obs) (h:ws wS b.stations ≤ 1000 ∧ ws wO b.obs ≤ 3000) :
    M_laws_heldBook ⟨b.plane,marks mkS wS 1 b.stations,marks mkO wO ((1:Int) + ((ws wS b.stations:Nat):Int)) b.obs⟩ 1 = some ((1:Int) + ((ws wS b.stations:Nat):Int) + ((ws wO b.obs:Nat):Int)):=by
  unfold M_laws_heldBook
  simp only []
  rw [held_net hs (by omega) (by decide) (by decide),Option.bind_some,dneg (by omega),cond_false,held_obss ho (by omega) (by omega) (by omega),Option.bind_some,dneg (by omega),cond_false]
theorem law_ParseBook (s:ByteArray) (_h:CK.wf .str s):M_laws_FnExactParseBook s = some true:=by
  unfold M_laws_FnExactParseBook
  cases hc:decide ((s.size:Int) > 1048576) with
  | true => rfl
  | false =>
    rw [cond_false]
    have hs:s.data.toList.length ≤ 1048576:=by have:=of_decide_eq_false hc; rw [size_list]; omega
    obtain ⟨e1,e2⟩:=book_parse hs
    rw [bl_list] at e1 e2
    have hcases:=bookP_cases hs
    generalize bookP s.data.toList = p at e1 e2 hcases
    obtain ⟨b,f⟩:=p
    have fs:lfit Sta.fit b.stations:=by
      rcases hcases with h | ⟨_,_,h,_⟩
      · cases h; exact ⟨by decide,fun _ h => by cases h⟩
      · exact fitN_fit h
    have fo:lfit Obs.fit b.obs:=by
      rcases hcases with h | ⟨_,_,_,h⟩
      · cases h; exact ⟨by decide,fun _ h => by cases h⟩
      · exact h
    have hm:=book_marks (b:=b) (by
      rcases hcases with h | ⟨_,h,_⟩
      · cases h; exact .inl rfl
      · exact .inr h)
    have hmk:=mark_book fs fo hm
    have hhd:=held_book fs fo hm
    have hd:decide (((1:Int) + ((ws wS b.stations:Nat):Int) + ((ws wO b.obs:Nat):Int)) < 0) = false:=dneg (by omega)
    rw [e1,e2]
    simp only [Option.bind_some]
    rw [eq_book fs fo,hmk]
    simp only [Option.bind_some,eqB_self,beq_self_eq_true,Bool.not_true,cond_false]
    rw [hhd]
    simp only [Option.bind_some,hd,cond_false,bneSelf]
end Go.Di
