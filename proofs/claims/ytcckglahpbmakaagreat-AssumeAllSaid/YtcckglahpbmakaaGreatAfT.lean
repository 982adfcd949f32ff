/-
The functions' abstract texts, by their numbers.
-/
import Derived.Test.YtcckglahpbmakaaGreatAf1
namespace Go.Eng.AF
open Go Go.Eng
def s11 : FT := (.node (.node (.node (.node .nil 6 f6 .nil) 7 f7 .nil) 8 f8 (.node (.node .nil 9 f9 .nil) 10 f10 .nil)) 11 f11 (.node (.node (.node .nil 12 f12 .nil) 13 f13 .nil) 15 f15 (.node .nil 16 f16 .nil)))
def s25 : FT := (.node (.node (.node (.node .nil 19 f19 .nil) 21 f21 .nil) 22 f22 (.node (.node .nil 23 f23 .nil) 24 f24 .nil)) 25 f25 (.node (.node (.node .nil 26 f26 .nil) 27 f27 .nil) 28 f28 (.node .nil 29 f29 .nil)))
def s36 : FT := (.node (.node (.node (.node .nil 31 f31 .nil) 32 f32 .nil) 33 f33 (.node (.node .nil 34 f34 .nil) 35 f35 .nil)) 36 f36 (.node (.node (.node .nil 37 f37 .nil) 38 f38 .nil) 39 f39 (.node .nil 40 f40 .nil)))
def s47 : FT := (.node (.node (.node (.node .nil 42 f42 .nil) 43 f43 .nil) 44 f44 (.node (.node .nil 45 f45 .nil) 46 f46 .nil)) 47 f47 (.node (.node (.node .nil 48 f48 .nil) 49 f49 .nil) 50 f50 (.node .nil 51 f51 .nil)))
def s63 : FT := (.node (.node (.node (.node .nil 54 f54 .nil) 55 f55 .nil) 56 f56 (.node (.node .nil 58 f58 .nil) 62 f62 .nil)) 63 f63 (.node (.node (.node .nil 65 f65 .nil) 66 f66 .nil) 67 f67 (.node .nil 68 f68 .nil)))
def s75 : FT := (.node (.node (.node (.node .nil 70 f70 .nil) 71 f71 .nil) 72 f72 (.node (.node .nil 73 f73 .nil) 74 f74 .nil)) 75 f75 (.node (.node (.node .nil 76 f76 .nil) 77 f77 .nil) 78 f78 (.node .nil 79 f79 .nil)))
def s89 : FT := (.node (.node (.node (.node .nil 81 f81 .nil) 84 f84 .nil) 85 f85 (.node (.node .nil 86 f86 .nil) 87 f87 .nil)) 89 f89 (.node (.node (.node .nil 92 f92 .nil) 94 f94 .nil) 95 f95 (.node .nil 96 f96 .nil)))
def s109 : FT := (.node (.node (.node (.node .nil 99 f99 .nil) 100 f100 .nil) 101 f101 (.node .nil 107 f107 .nil)) 109 f109 (.node (.node (.node .nil 110 f110 .nil) 111 f111 .nil) 112 f112 (.node .nil 113 f113 .nil)))
def s122 : FT := (.node (.node (.node (.node .nil 115 f115 .nil) 116 f116 .nil) 117 f117 (.node (.node .nil 118 f118 .nil) 119 f119 .nil)) 122 f122 (.node (.node (.node .nil 123 f123 .nil) 124 f124 .nil) 125 f125 (.node .nil 126 f126 .nil)))
def s136 : FT := (.node (.node (.node (.node .nil 128 f128 .nil) 129 f129 .nil) 130 f130 (.node (.node .nil 131 f131 .nil) 132 f132 .nil)) 136 f136 (.node (.node (.node .nil 137 f137 .nil) 139 f139 .nil) 140 f140 (.node .nil 141 f141 .nil)))
def s148 : FT := (.node (.node (.node (.node .nil 143 f143 .nil) 144 f144 .nil) 145 f145 (.node (.node .nil 146 f146 .nil) 147 f147 .nil)) 148 f148 (.node (.node (.node .nil 149 f149 .nil) 153 f153 .nil) 154 f154 (.node .nil 155 f155 .nil)))
def s163 : FT := (.node (.node (.node (.node .nil 157 f157 .nil) 158 f158 .nil) 159 f159 (.node (.node .nil 160 f160 .nil) 162 f162 .nil)) 163 f163 (.node (.node (.node .nil 164 f164 .nil) 168 f168 .nil) 177 f177 (.node .nil 179 f179 .nil)))
def s193 : FT := (.node (.node (.node (.node .nil 188 f188 .nil) 189 f189 .nil) 190 f190 (.node (.node .nil 191 f191 .nil) 192 f192 .nil)) 193 f193 (.node (.node (.node .nil 195 f195 .nil) 196 f196 .nil) 197 f197 (.node .nil 209 f209 .nil)))
def s230 : FT := (.node (.node (.node (.node .nil 211 f211 .nil) 212 f212 .nil) 224 f224 (.node (.node .nil 228 f228 .nil) 229 f229 .nil)) 230 f230 (.node (.node (.node .nil 231 f231 .nil) 233 f233 .nil) 234 f234 (.node .nil 235 f235 .nil)))
def s252 : FT := (.node (.node (.node (.node .nil 237 f237 .nil) 238 f238 .nil) 243 f243 (.node (.node .nil 250 f250 .nil) 251 f251 .nil)) 252 f252 (.node (.node (.node .nil 253 f253 .nil) 254 f254 .nil) 255 f255 (.node .nil 256 f256 .nil)))
def s267 : FT := (.node (.node (.node (.node .nil 258 f258 .nil) 259 f259 .nil) 265 f265 (.node .nil 266 f266 .nil)) 267 f267 (.node (.node (.node .nil 268 f268 .nil) 269 f269 .nil) 270 f270 (.node .nil 279 f279 .nil)))
def fns : FT :=
  (.node (.node (.node (.node s11 17 f17 s25) 30 f30 (.node s36 41 f41 s47)) 52 f52 (.node (.node s63 69 f69 s75) 80 f80 (.node s89 98 f98 s109))) 114 f114 (.node (.node (.node s122 127 f127 s136) 142 f142 (.node s148 156 f156 s163)) 187 f187 (.node (.node s193 210 f210 s230) 236 f236 (.node s252 257 f257 s267))))
end Go.Eng.AF
